/- The package group: Power. No condition. -/
import Derived.Test.YtdmldnpadojflaaGroupProd
namespace Go.Proofs.Ytdmldnpadojflaa
open Go.RowKit

def powV (G : GP) (a n : ByteArray) : ByteArray := if isEl G.q.m G.size a = false then ⟨#[]⟩ else if isSc G.q.m G.size n = false then ⟨#[]⟩ else textS (lowN G (numOf a ^ numOf n)) G.size
def powE (G : GP) (a n : ByteArray) : Int := if isEl G.q.m G.size a = false then 7 else if isSc G.q.m G.size n = false then 6 else 0

theorem powV_eq (G : GP) (a n : ByteArray) : proV G [a] [n] = powV G a n := by
  unfold proV powV
  rw [if_neg (by simp), if_neg (by simp)]
  unfold prodV
  rw [Nat.one_mul]
  rfl
theorem powE_eq (G : GP) (a n : ByteArray) : proE G [a] [n] = powE G a n := by
  unfold proE powE
  rw [if_neg (by simp), if_neg (by simp)]
  rfl

set_option maxRecDepth 100000 in
set_option maxHeartbeats 400000 in
theorem Power_none (k : Int) (hk : ¬ (1 ≤ k ∧ k ≤ 3)) (a n : ByteArray) (w : World) : Calls Try.prog 45 #[.int .i64 k, .string a, .string n] w (Ans (.string ⟨#[]⟩) 1 w) := by
  go_enter Try.func45, Try.ntmps45
  go_wp2_with fail
  have hz := (box2 w (.string a) (.string n) 9 9).1
  refine (Product_none k hk _ _ 1 1 1 1 _).mono ?_
  rintro e w1 ⟨rfl, hb⟩
  have HB := Lib.hid (below_up hz hb)
  clear hb hz
  go_wp2_with fail
  go_ret2
  exact ⟨rfl, HB.out⟩

theorem Sl.of_bx {W : World} {b : Nat} {t : TypeId} {cs : List Value} (h : Bx W b t cs) : Sl W W.heap.size (some ⟨b, 0, none⟩) cs := by
  have h1 := Sl.of_block h
  simpa using h1

set_option maxRecDepth 100000 in
set_option maxHeartbeats 400000 in
theorem Power_some (k : Nat) (h1 : 1 ≤ k) (h3 : k ≤ 3) (a n : ByteArray) (w : World) : Calls Try.prog 45 #[.int .i64 (k : Int), .string a, .string n] w (Ans (.string (powV (grp k) a n)) (powE (grp k) a n) w) := by
  go_enter Try.func45, Try.ntmps45
  go_wp2_with fail
  have hz := box2 w (.string a) (.string n) 9 9
  have hp := Product_some k h1 h3 [a] [n] (some ⟨w.heap.size, 0, none⟩) (some ⟨w.heap.size + 1, 0, none⟩) 1 1 1 1 rfl rfl _ (Sl.of_bx hz.2.1) (Sl.of_bx hz.2.2)
  rw [powV_eq, powE_eq] at hp
  refine hp.mono ?_
  rintro e w1 ⟨rfl, hb⟩
  have HB := Lib.hid (below_up hz.1 hb)
  clear hb hz hp
  go_wp2_with fail
  go_ret2
  exact ⟨rfl, HB.out⟩

end Go.Proofs.Ytdmldnpadojflaa
