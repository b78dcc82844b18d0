/- Numbers in so many bytes, there and back; the group's faces on such texts. No condition. -/
import Derived.Test.YtdmldnpadojflaaGrpPlain
namespace Go.Proofs.Ytdmldnpadojflaa
open Go.RowKit

theorem numL_inj : ∀ l m : List UInt8, l.length = m.length → numL l = numL m → l = m
  | [], [], _, _ => rfl
  | [], _ :: _, h, _ => by simp at h
  | _ :: _, [], h, _ => by simp at h
  | a :: l, b :: m, h, e => by
    have hl : l.length = m.length := by simpa using h
    have h1 := numL_lt l
    have h2 := numL_lt m
    simp only [numL] at e
    rw [hl] at e h1
    have hP : 0 < 256 ^ m.length := Nat.pow_pos (by decide)
    have hd := congrArg (· / 256 ^ m.length) e
    have hm := congrArg (· % 256 ^ m.length) e
    simp only [Nat.mul_comm _ (256 ^ m.length), Nat.mul_add_div hP, Nat.mul_add_mod, Nat.div_eq_of_lt h1, Nat.div_eq_of_lt h2, Nat.mod_eq_of_lt h1, Nat.mod_eq_of_lt h2, Nat.add_zero] at hd hm
    rw [numL_inj l m hl hm, UInt8.toNat_inj.1 hd]

theorem numOf_inj {s t : ByteArray} (h : s.size = t.size) (e : numOf s = numOf t) : s = t := by
  have h1 := numL_inj s.data.toList t.data.toList (by simpa using h) e
  cases s; cases t
  simp at h1
  rw [h1]

theorem text_numOf (s : ByteArray) : textS (numOf s) s.size = s := by
  refine numOf_inj (textS_size _ _) ?_
  rw [numOf_textS]
  exact Nat.mod_eq_of_lt (by have := numL_lt s.data.toList; simpa [numOf] using this)

/-- A number as a text of the group. -/
def T (G : GP) (n : Nat) : ByteArray := textS n G.size

theorem T_size (G : GP) (n : Nat) : (T G n).size = G.size := textS_size _ _
theorem T_num {G : GP} (_ok : G.Ok) {n : Nat} (h : n ≤ G.q.m) (hne : G.q.m < 256 ^ G.size) : numOf (T G n) = n := by
  unfold T
  rw [numOf_textS]
  exact Nat.mod_eq_of_lt (by omega)

theorem T_of {G : GP} {s : ByteArray} (h : s.size = G.size) : s = T G (numOf s) := by
  unfold T
  rw [← h]
  exact (text_numOf s).symm

theorem T_sc {G : GP} (ok : G.Ok) (hne : G.q.m < 256 ^ G.size) {n : Nat} (h : n < G.q.m) : isSc G.q.m G.size (T G n) = true := by
  unfold isSc
  rw [T_size, T_num ok (Nat.le_of_lt h) hne]
  simp [h]
theorem T_el {G : GP} (ok : G.Ok) (hne : G.q.m < 256 ^ G.size) {n : Nat} (h0 : 0 < n) (h : n ≤ G.q.m) : isEl G.q.m G.size (T G n) = true := by
  unfold isEl
  rw [T_size, T_num ok h hne]
  simp [h, h0]

theorem grp_fits (k : Nat) (h1 : 1 ≤ k) (h3 : k ≤ 3) : (grp k).q.m < 256 ^ (grp k).size := by
  obtain rfl | rfl | rfl : k = 1 ∨ k = 2 ∨ k = 3 := by omega
  all_goals decide


theorem recV_t {k : Nat} (h1 : 1 ≤ k) (h3 : k ≤ 3) {x y z r : Nat} (hx : x < (grp k).q.m) (hy : y < (grp k).q.m) (hr : z % (grp k).q.m = r) : recV (grp k) (T (grp k) x) (T (grp k) y) z = T (grp k) r := by
  unfold recV
  rw [T_sc (grp_ok k h1 h3) (grp_fits k h1 h3) hx, T_sc (grp_ok k h1 h3) (grp_fits k h1 h3) hy, hr]
  rfl
theorem recE_t {k : Nat} (h1 : 1 ≤ k) (h3 : k ≤ 3) {x y : Nat} (hx : x < (grp k).q.m) (hy : y < (grp k).q.m) : recE (grp k) (T (grp k) x) (T (grp k) y) = 0 := by
  unfold recE
  rw [T_sc (grp_ok k h1 h3) (grp_fits k h1 h3) hx, T_sc (grp_ok k h1 h3) (grp_fits k h1 h3) hy]
  rfl

set_option maxRecDepth 100000 in
theorem lawAdd_t (k : Nat) (h1 : 1 ≤ k) (h3 : k ≤ 3) (x y r : Nat) (hx : x < (grp k).q.m) (hy : y < (grp k).q.m) (hr : (x + y) % (grp k).q.m = r) (w : World) :
    Calls Try.prog 47 #[.int .i64 (k : Int), .string (T (grp k) x), .string (T (grp k) y)] w fun e w' => e = .returned (.string (T (grp k) r)) ∧ Below w.heap.size w w' := by
  have hA := Add_some k h1 h3 (T (grp k) x) (T (grp k) y) w
  rw [recV_t (r := r) h1 h3 hx hy (by rw [T_num (grp_ok k h1 h3) (Nat.le_of_lt hx) (grp_fits k h1 h3), T_num (grp_ok k h1 h3) (Nat.le_of_lt hy) (grp_fits k h1 h3)]; exact hr), recE_t h1 h3 hx hy] at hA
  have HA := Lib.hid hA
  clear hA hr
  go_enter Try.func47, Try.ntmps47
  go_wp2_with fail
  refine HA.out.mono ?_
  rintro e w1 ⟨rfl, hb⟩
  have HB := Lib.hid hb
  clear hb
  go_wp2_with fail
  go_ret
  exact ⟨rfl, HB.out⟩

set_option maxRecDepth 100000 in
theorem lawMul_t (k : Nat) (h1 : 1 ≤ k) (h3 : k ≤ 3) (x y r : Nat) (hx : x < (grp k).q.m) (hy : y < (grp k).q.m) (hr : x * y % (grp k).q.m = r) (w : World) :
    Calls Try.prog 48 #[.int .i64 (k : Int), .string (T (grp k) x), .string (T (grp k) y)] w fun e w' => e = .returned (.string (T (grp k) r)) ∧ Below w.heap.size w w' := by
  have hA := Mul_some k h1 h3 (T (grp k) x) (T (grp k) y) w
  rw [recV_t (r := r) h1 h3 hx hy (by rw [T_num (grp_ok k h1 h3) (Nat.le_of_lt hx) (grp_fits k h1 h3), T_num (grp_ok k h1 h3) (Nat.le_of_lt hy) (grp_fits k h1 h3)]; exact hr), recE_t h1 h3 hx hy] at hA
  have HA := Lib.hid hA
  clear hA hr
  go_enter Try.func48, Try.ntmps48
  go_wp2_with fail
  refine HA.out.mono ?_
  rintro e w1 ⟨rfl, hb⟩
  have HB := Lib.hid hb
  clear hb
  go_wp2_with fail
  go_ret
  exact ⟨rfl, HB.out⟩

theorem sub_t (k : Nat) (h1 : 1 ≤ k) (h3 : k ≤ 3) (x y r : Nat) (hx : x < (grp k).q.m) (hy : y < (grp k).q.m) (hr : (x + ((grp k).q.m - y)) % (grp k).q.m = r) (w : World) :
    Calls Try.prog 36 #[.int .i64 (k : Int), .string (T (grp k) x), .string (T (grp k) y)] w (Ans (.string (T (grp k) r)) 0 w) := by
  have hA := Sub_some k h1 h3 (T (grp k) x) (T (grp k) y) w
  rwa [recV_t (r := r) h1 h3 hx hy (by rw [T_num (grp_ok k h1 h3) (Nat.le_of_lt hx) (grp_fits k h1 h3), T_num (grp_ok k h1 h3) (Nat.le_of_lt hy) (grp_fits k h1 h3)]; exact hr), recE_t h1 h3 hx hy] at hA

theorem inv_zero_t (k : Nat) (h1 : 1 ≤ k) (h3 : k ≤ 3) (w : World) : Calls Try.prog 33 #[.int .i64 (k : Int), .string (T (grp k) 0)] w (Ans (.string ⟨#[]⟩) 5 w) := by
  have hq : 0 < (grp k).q.m := (grp_ok k h1 h3).q.pos
  have hA := Inv_some k h1 h3 (T (grp k) 0) w
  have e1 : numOf (T (grp k) 0) = 0 := T_num (grp_ok k h1 h3) (Nat.zero_le _) (grp_fits k h1 h3)
  have e2 := T_sc (grp_ok k h1 h3) (grp_fits k h1 h3) hq
  rwa [show invV (grp k) (T (grp k) 0) = ⟨#[]⟩ by unfold invV; rw [if_neg (by simp [e1])], show invE (grp k) (T (grp k) 0) = 5 by unfold invE; rw [if_pos e2, if_pos e1]] at hA

theorem inv_t (k : Nat) (h1 : 1 ≤ k) (h3 : k ≤ 3) (x r : Nat) (h0 : 0 < x) (hx : x < (grp k).q.m) (hr : x ^ ((grp k).q.m - 2) % (grp k).q.m = r) (w : World) : Calls Try.prog 33 #[.int .i64 (k : Int), .string (T (grp k) x)] w (Ans (.string (T (grp k) r)) 0 w) := by
  have hA := Inv_some k h1 h3 (T (grp k) x) w
  have e1 : numOf (T (grp k) x) = x := T_num (grp_ok k h1 h3) (Nat.le_of_lt hx) (grp_fits k h1 h3)
  have e2 := T_sc (grp_ok k h1 h3) (grp_fits k h1 h3) hx
  rwa [show invV (grp k) (T (grp k) x) = T (grp k) r by unfold invV; rw [if_pos ⟨e2, by omega⟩, e1, hr]; rfl, show invE (grp k) (T (grp k) x) = 0 by unfold invE; rw [if_pos e2, if_neg (by omega)]] at hA

theorem number_t (k : Nat) (h1 : 1 ≤ k) (h3 : k ≤ 3) (n : Int) (r : Nat) (hn1 : -9223372036854775808 ≤ n) (hn2 : n ≤ 9223372036854775807) (hr : modI (grp k).q.m n = r) (w : World) : Calls Try.prog 27 #[.int .i64 (k : Int), .int .i64 n] w (Ans (.string (T (grp k) r)) 0 w) := by
  subst hr
  exact Number_some k h1 h3 n hn1 hn2 w

theorem scal_t (k : Nat) (h1 : 1 ≤ k) (h3 : k ≤ 3) (x : Nat) (hx : x < (grp k).q.m) (w : World) : Calls Try.prog 29 #[.int .i64 (k : Int), .string (T (grp k) x)] w fun e w' => e = .returned (.bool true) ∧ Below w.heap.size w w' := by
  have h9 := Scalar_some k h1 h3 (T (grp k) x) w
  rwa [T_sc (grp_ok k h1 h3) (grp_fits k h1 h3) hx] at h9

end Go.Proofs.Ytdmldnpadojflaa
