/- Texts of this seat, one behind the other: what SigmaSound leans on. No condition beyond those that each names. -/
import Derived.Test.YtipgjookfdkciaaZSigmaSound3
import Derived.Deep.OwnRows

set_option maxRecDepth 100000
set_option maxHeartbeats 4000000
set_option linter.unusedVariables false
set_option linter.unusedSimpArgs false
namespace Go.Proofs.Ytipgjookfdkciaa
open Go.RowKit
def ScalQ (G : GP) (er : Nat) (l : List ByteArray) (w : World) (e : Ending) (w' : World) : Prop :=
 Below w.heap.size w w' ∧ ∃ v, e = .returned (.tuple #[v, .int .i64 (er : Int)]) ∧ (er = 0 → ∃ a c, v = .slice a l.length c ∧ Sl w' w'.heap.size a (l.flatMap (limC G.q.m)) ∧ (∀ x, a = some x → w.heap.size ≤ x.block))
def ScalR (G : GP) (n : Nat) (l : List ByteArray) (w : World) (e : Ending) (w' : World) : Prop := ScalQ G (scE G n l) l w e w'
theorem scalars_any (G : GP) (ok : G.Ok) (gb n : Nat) (a : Option Addr) (c : Nat) (l : List ByteArray) (al : Option Addr) (cl : Nat) (hn : l.length ≤ 8796093022207) (w : World) (hG : GroupAt w gb G) (hS : Sl w w.heap.size al (l.map Value.string)) :
  Calls Try.prog 155 #[.agg #[.pointer (some ⟨gb, 0, none⟩), .slice a n c], .slice al l.length cl] w (ScalR G n l w) := by
 have OK := Lib.hid ok
 have HG := Lib.hid hG
 have HS := Lib.hid hS
 clear ok hG hS
 obtain ⟨z, hz⟩ : ∃ z, scE G n l = z := ⟨_, rfl⟩
 have hzz : z = if l.length = n then if l.all (isSc G.q.m G.size) = true then 0 else 6 else 2 := hz.symm
 unfold ScalR
 rw [hz]
 clear hz
 by_cases h1 : l.length = n
 ·have hd : ((l.length : Int) != (n : Int)) = false := by simp; omega
  rw [if_pos h1] at hzz
  obtain ⟨b, hb⟩ : ∃ b, l.all (isSc G.q.m G.size) = b := ⟨_, rfl⟩
  rw [hb] at hzz
  have HBB := Lib.hid hb
  clear hb h1
  go_enter Try.func155, Try.ntmps155
  go_wp2_with fail
  obtain ⟨w1, hq1, hb9, hz9, Hbs⟩ := new1 w 157 [.pointer (some ⟨gb, 0, none⟩), .slice a n c]
  rw [hq1]
  clear hq1
  replace HG := Lib.hid (HG.out.up hb9)
  have HB := Lib.hid hb9
  have HZS := hz9
  clear hb9 hz9
  have bs_ := Hbs.out.c2
  go_wp2_with fail
  refine (allSc_v G OK.out gb l b HBB.out l.length rfl al cl hn w1 HG.out (HS.out.up HB.out)).mono ?_
  rintro e w2 ⟨vx, rfl, hb9, hx9⟩
  clear bs_
  replace Hbs := Lib.hid (Hbs.out.up hb9)
  replace HG := Lib.hid (HG.out.up hb9)
  replace HB := hbu HB hb9
  replace HZS := sz HZS hb9.size
  have HX := Lib.hid hx9
  clear hx9 hb9
  have bs_ := Hbs.out.c2
  cases b
  ·obtain rfl : z = 6 := by rw [hzz, if_neg (by decide)]
   clear hzz
   go_wp2_with fail
   go_ret2
   exact ⟨HB.out, .slice none 0 0, rfl, fun h => by cases h⟩
  ·obtain rfl : z = 0 := by rw [hzz, if_pos rfl]
   clear hzz
   obtain ⟨ax, cx, rfl, hsx, hfx⟩ := HX.out rfl
   have HSX := Lib.hid hsx
   have HFX := Lib.hid (show ∀ x, ax = some x → w.heap.size ≤ x.block from fun x hx => Nat.le_trans (by have a0 := HZS.out; omega) (hfx x hx))
   clear hsx hfx HX
   go_wp2_with fail
   go_ret2
   exact ⟨HB.out, .slice ax l.length cx, rfl, fun _ => ⟨ax, cx, rfl, HSX.out, HFX.out⟩⟩
 ·have hd : ((l.length : Int) != (n : Int)) = true := by simp; omega
  obtain rfl : z = 2 := by rw [hzz, if_neg h1]
  clear hzz h1
  go_enter Try.func155, Try.ntmps155
  go_wp2_with fail
  obtain ⟨w1, hq1, hb9, hz9, Hbs⟩ := new1 w 157 [.pointer (some ⟨gb, 0, none⟩), .slice a n c]
  rw [hq1]
  clear hq1
  have HB := Lib.hid hb9
  have HZS := hz9
  clear hb9 hz9
  have bs_ := Hbs.out.c2
  go_wp2_with fail
  go_ret2
  exact ⟨HB.out, .slice none 0 0, rfl, fun h => by cases h⟩
def openE (G : GP) (l : List ClaimA) (xs : List ByteArray) : Nat := if wrongE G l ≠ 0 then wrongE G l else scE G l.length xs
def OpenOk (G : GP) (l : List ClaimA) (xs : List ByteArray) (w' : World) (p q v : Value) : Prop := ∃ gb rs a c a' c', p = .pointer (some ⟨gb, 0, none⟩) ∧ q = .slice a rs.length c ∧ v = .slice a' xs.length c' ∧ rs.map ClaimR.k = l ∧ GroupAt w' gb G ∧ SetAt G w' a rs ∧ (∀ r ∈ rs, r.Src w') ∧ Sl w' w'.heap.size a' (xs.flatMap (limC G.q.m))
def OpenS (G : GP) (er : Nat) (l : List ClaimA) (xs : List ByteArray) (w : World) (e : Ending) (w' : World) : Prop :=
 Below w.heap.size w w' ∧ ∃ pp qa qn qc v, e = .returned (.tuple #[.agg #[.pointer pp, .slice qa qn qc], v, .int .i64 (er : Int)]) ∧ (er = 0 → OpenOk G l xs w' (.pointer pp) (.slice qa qn qc) v)
theorem open_none (k : Int) (hk : ¬ (1 ≤ k ∧ k ≤ 3)) (l : List ClaimA) (xs : List ByteArray) (v1 v2 : Value) (w : World) : Calls Try.prog 112 #[.int .i64 k, v1, v2] w (OpenS (grp 1) 1 l xs w) := by
 go_enter Try.func112, Try.ntmps112
 go_wp2_with fail
 obtain ⟨w1, hq1, hb9, hz9, Hbr⟩ := new1 w 157 [.pointer none, .slice none 0 0]
 rw [hq1]
 clear hq1
 have HB := Lib.hid hb9
 have HZS := hz9
 clear hb9 hz9
 have br_ := Hbr.out.c2
 go_wp2_with fail
 refine (of_none k hk _).mono ?_
 rintro e w2 ⟨rfl, rfl⟩
 have f2_br := Hbr.out.frozen
 have o2_br_ := br_; clear br_
 obtain ⟨w2, hq2, hg9, hz9, hx9⟩ := put2 Hbr 0 (.pointer none) 1 (.slice none 0 0) [.pointer none, .slice none 0 0] rfl
 replace HB := hbg HB hg9 (by have g0 := HZS.out; omega)
 replace HZS := sz HZS hz9.out
 replace Hbr := hx9
 clear hx9 hg9 hz9
 have br_ := Hbr.out.c2
 go_wp2_with fail
 clear hq2 o2_br_ f2_br
 simp [bodyPost, results, Try.results112, go_sem, br_]
 exact ⟨HB.out, _, _, _, _, _, rfl, fun h => by cases h⟩
theorem open_some (k : Nat) (h1 : 1 ≤ k) (h3 : k ≤ 3) (l : List ClaimA) (al : Option Addr) (cl : Nat) (xs : List ByteArray) (ax : Option Addr) (cx : Nat) (hn : xs.length ≤ 8796093022207) (w : World) (hC : ClaimsAt w al l) (hS : Sl w w.heap.size ax (xs.map Value.string)) :
  Calls Try.prog 112 #[.int .i64 (k : Int), .slice al l.length cl, .slice ax xs.length cx] w (OpenS (grp k) (openE (grp k) l xs) l xs w) := by
 have OK := Lib.hid (grp_ok k h1 h3)
 have HC := Lib.hid hC
 have HS := Lib.hid hS
 clear hC hS
 obtain ⟨z, hz⟩ : ∃ z, wrongE (grp k) l = z := ⟨_, rfl⟩
 obtain ⟨y, hy⟩ : ∃ z, scE (grp k) l.length xs = z := ⟨_, rfl⟩
 have hoe : openE (grp k) l xs = if z ≠ 0 then z else y := by unfold openE; rw [hz, hy]
 rw [hoe]
 have HZ := Lib.hid hz
 have HY := Lib.hid hy
 clear hoe hz hy
 by_cases h0 : z = 0
 ·subst h0
  rw [if_neg (by decide)]
  go_enter Try.func112, Try.ntmps112
  go_wp2_with fail
  obtain ⟨w1, hq1, hb9, hz9, Hbr⟩ := new1 w 157 [.pointer none, .slice none 0 0]
  rw [hq1]
  clear hq1
  have HB := Lib.hid hb9
  have HZS := hz9
  clear hb9 hz9
  have br_ := Hbr.out.c2
  go_wp2_with fail
  refine (of_some k h1 h3 w1).mono ?_
  rintro e w2 ⟨rfl, hg9, hb9⟩
  clear br_
  replace Hbr := Lib.hid (Hbr.out.up hb9)
  replace HB := hbu HB hb9
  replace HZS := sz HZS hb9.size
  have HG := Lib.hid hg9
  clear hg9 hb9
  have br_ := Hbr.out.c2
  have HsG := Lib.hid HG.out.lt
  replace HZS := sz HZS HsG.out
  go_wp2_with fail
  refine (sread_any (grp k) OK.out _ l al cl w2 HG.out (HC.out.up HB.out)).mono ?_
  rintro e w3 ⟨hb9, hx9⟩
  clear br_
  replace Hbr := Lib.hid (Hbr.out.up hb9)
  replace HG := Lib.hid (HG.out.up hb9)
  replace HB := hbu HB hb9
  replace HZS := sz HZS hb9.size
  have HX := Lib.hid hx9
  clear hx9 hb9
  have br_ := Hbr.out.c2
  obtain ⟨rs, a, c, rfl, hrk, hset, hnew, bl, ol, hal, hrp⟩ : ∃ rs a c, e = .returned (.tuple #[.agg #[.pointer (some ⟨_, 0, none⟩), .slice a rs.length c], .int .i64 0]) ∧ rs.map ClaimR.k = l ∧ SetAt (grp k) w3 a rs ∧ SetNew w2.heap.size a rs ∧ (∃ bl ol, al = some ⟨bl, ol, none⟩ ∧ RsP bl ol rs) := by
   have h9 := HX.out
   rwa [if_pos HZ.out] at h9
  clear HX
  have HRL := Lib.hid (show rs.length = l.length by rw [← hrk, List.length_map])
  have HRK := Lib.hid hrk
  have HSET := Lib.hid hset
  have HNEW := Lib.hid (hnew.mono (show w.heap.size + 1 ≤ w2.heap.size by have a0 := HZS.out; have a1 := HZS.out; omega))
  have HSRC := Lib.hid (src_all hrk hrp (hal ▸ HC.out))
  clear hrk hset hnew hal hrp
  have BS := Lib.hid (Below.refl w3.heap.size w3)
  have o4_br_ := br_; clear br_
  obtain ⟨w4, hq4, hb9, hz9, Hbs⟩ := new1 w3 157 [.pointer (some ⟨w1.heap.size, 0, none⟩), .slice a rs.length c]
  replace Hbr := Lib.hid (Hbr.out.up hb9)
  replace HG := Lib.hid (HG.out.up hb9)
  replace BS := hbu BS hb9
  replace HB := hbu HB hb9
  replace HZS := sz HZS hz9.out
  clear hb9 hz9
  have br_ := Hbr.out.c2
  have bs_ := Hbs.out.c2
  go_wp2_with fail
  clear hq4 o4_br_
  refine (scalars_any (grp k) OK.out _ rs.length a c xs ax cx hn w4 HG.out (HS.out.up HB.out)).mono ?_
  rintro e w5 ⟨hb9, v, rfl, hx9⟩
  clear br_
  replace Hbr := Lib.hid (Hbr.out.up hb9)
  clear bs_
  replace Hbs := Lib.hid (Hbs.out.up hb9)
  replace HG := Lib.hid (HG.out.up hb9)
  replace BS := hbu BS hb9
  replace HB := hbu HB hb9
  replace HZS := sz HZS hb9.size
  have HX := Lib.hid hx9
  clear hx9 hb9
  have br_ := Hbr.out.c2
  have bs_ := Hbs.out.c2
  have hy9 : scE (grp k) rs.length xs = y := by rw [HRL.out]; exact HY.out
  rw [hy9] at HX ⊢
  clear hy9
  have HSET2 := Lib.hid (HSET.out.up BS.out)
  have HX2 := Lib.hid (show y = 0 → ∃ a' c', v = .slice a' xs.length c' ∧ Sl w5 w5.heap.size a' (xs.flatMap (limC (grp k).q.m)) ∧ (∀ x, a' = some x → w.heap.size + 1 ≤ x.block) from fun h => let ⟨a', c', e1, e2, e3⟩ := HX.out h; ⟨a', c', e1, e2, fun x hx => Nat.le_trans (by have a0 := HZS.out; have a1 := HZS.out; have a2 := HZS.out; have a3 := HZS.out; omega) (e3 x hx)⟩)
  clear HX
  have HKB := Lib.hid (Kept.refl (fun q9 => q9 = w.heap.size) w5)
  have f6_br := Hbr.out.frozen
  have o6_br_ := br_; clear br_
  have o6_bs_ := bs_; clear bs_
  obtain ⟨w6, hq6, hg9, hz9, hx9⟩ := put2 Hbr 0 (.pointer (some ⟨w1.heap.size, 0, none⟩)) 1 (.slice a rs.length c) [.pointer (some ⟨w1.heap.size, 0, none⟩), .slice a rs.length c] rfl
  replace Hbs := Lib.hid (Hbs.out.grown hg9.out (sne (by have g0 := HZS.out; omega)))
  replace HG := Lib.hid (HG.out.grown hg9.out (sne (by have g0 := HZS.out; omega)))
  replace HKB := Lib.hid (Kept.grown HKB.out hg9.out (fun q9 e9 => by obtain rfl := Option.some.inj e9; exact Or.inr (rfl)))
  replace HB := hbg HB hg9 (by have g0 := HZS.out; omega)
  replace HZS := sz HZS hz9.out
  replace Hbr := hx9
  clear hx9 hg9 hz9
  have br_ := Hbr.out.c2
  have bs_ := Hbs.out.c2
  go_wp2_with fail
  clear hq6 o6_bs_ o6_br_ f6_br
  have HX3 := Lib.hid (show y = 0 → OpenOk (grp k) l xs w6 (.pointer (some ⟨w1.heap.size, 0, none⟩)) (.slice a rs.length c) v from fun h => let ⟨a', c', e1, e2, e3⟩ := HX2.out h; ⟨w1.heap.size, rs, a, c, a', c', rfl, rfl, e1, HRK.out, HG.out, HSET2.out.keptP HKB.out HNEW.out (fun q hq => by subst hq; omega), fun r hr => (HSRC.out r hr).up HB.out, e2.kept HKB.out (fun x hx hq => by have := e3 x hx; have hq : x.block = w.heap.size := hq; omega)⟩)
  simp [bodyPost, results, Try.results112, go_sem, br_]
  exact ⟨HB.out, _, _, _, _, _, rfl, HX3.out⟩
 ·have hd : ((z : Int) != 0) = true := by simp; omega
  rw [if_pos h0]
  clear h0
  go_enter Try.func112, Try.ntmps112
  go_wp2_with fail
  obtain ⟨w1, hq1, hb9, hz9, Hbr⟩ := new1 w 157 [.pointer none, .slice none 0 0]
  rw [hq1]
  clear hq1
  have HB := Lib.hid hb9
  have HZS := hz9
  clear hb9 hz9
  have br_ := Hbr.out.c2
  go_wp2_with fail
  refine (of_some k h1 h3 w1).mono ?_
  rintro e w2 ⟨rfl, hg9, hb9⟩
  clear br_
  replace Hbr := Lib.hid (Hbr.out.up hb9)
  replace HB := hbu HB hb9
  replace HZS := sz HZS hb9.size
  have HG := Lib.hid hg9
  clear hg9 hb9
  have br_ := Hbr.out.c2
  have HsG := Lib.hid HG.out.lt
  replace HZS := sz HZS HsG.out
  go_wp2_with fail
  refine (sread_any (grp k) OK.out _ l al cl w2 HG.out (HC.out.up HB.out)).mono ?_
  rintro e w3 ⟨hb9, hx9⟩
  clear br_
  replace Hbr := Lib.hid (Hbr.out.up hb9)
  replace HG := Lib.hid (HG.out.up hb9)
  replace HB := hbu HB hb9
  replace HZS := sz HZS hb9.size
  have HX := Lib.hid hx9
  clear hx9 hb9
  have br_ := Hbr.out.c2
  obtain rfl : e = .returned (.tuple #[set0, .int .i64 (z : Int)]) := by
   have h9 := HX.out
   rw [HZ.out, if_neg (by rintro rfl; simp at hd)] at h9
   exact h9
  clear HX
  unfold set0
  have o4_br_ := br_; clear br_
  obtain ⟨w4, hq4, hb9, hz9, Hbs⟩ := new1 w3 157 [.pointer none, .slice none 0 0]
  replace Hbr := Lib.hid (Hbr.out.up hb9)
  replace HG := Lib.hid (HG.out.up hb9)
  replace HB := hbu HB hb9
  replace HZS := sz HZS hz9.out
  clear hb9 hz9
  have br_ := Hbr.out.c2
  have bs_ := Hbs.out.c2
  have f5_bs := Hbs.out.frozen
  have o5_br_ := br_; clear br_
  have o5_bs_ := bs_; clear bs_
  obtain ⟨w5, hq5, hg9, hz9, hx9⟩ := put2 Hbs 0 (.pointer none) 1 (.slice none 0 0) [.pointer none, .slice none 0 0] rfl
  replace Hbr := Lib.hid (Hbr.out.grown hg9.out (sne (by have g0 := HZS.out; omega)))
  replace HG := Lib.hid (HG.out.grown hg9.out (sne (by have g0 := HZS.out; omega)))
  replace HB := hbg HB hg9 (by have g0 := HZS.out; omega)
  replace HZS := sz HZS hz9.out
  replace Hbs := hx9
  clear hx9 hg9 hz9
  have br_ := Hbr.out.c2
  have bs_ := Hbs.out.c2
  have f6_br := Hbr.out.frozen
  have o6_br_ := br_; clear br_
  have o6_bs_ := bs_; clear bs_
  obtain ⟨w6, hq6, hg9, hz9, hx9⟩ := put2 Hbr 0 (.pointer none) 1 (.slice none 0 0) [.pointer none, .slice none 0 0] rfl
  replace Hbs := Lib.hid (Hbs.out.grown hg9.out (sne (by have g0 := HZS.out; omega)))
  replace HG := Lib.hid (HG.out.grown hg9.out (sne (by have g0 := HZS.out; omega)))
  replace HB := hbg HB hg9 (by have g0 := HZS.out; omega)
  replace HZS := sz HZS hz9.out
  replace Hbr := hx9
  clear hx9 hg9 hz9
  have br_ := Hbr.out.c2
  have bs_ := Hbs.out.c2
  go_wp2_with fail
  clear hq6 o6_bs_ o6_br_ f6_br hq5 o5_bs_ o5_br_ f5_bs hq4 o4_br_
  simp [bodyPost, results, Try.results112, go_sem, br_]
  exact ⟨HB.out, _, _, _, _, _, rfl, fun h => by subst h; simp at hd⟩
end Go.Proofs.Ytipgjookfdkciaa
namespace Go.Proofs.Ytipgjookfdkciaa
open Go.RowKit
def limN (m n : Nat) : List Value := [.int .u64 (dig (mont m n) 0 : Int), .int .u64 (dig (mont m n) 1 : Int), .int .u64 (dig (mont m n) 2 : Int), .int .u64 (dig (mont m n) 3 : Int)]
def powC (G : GP) (x : Nat) (b : ByteArray) : List Value := limN G.p.m (numOf b ^ (x % G.q.m))
theorem powC_len (G : GP) (x : Nat) (b : ByteArray) : (powC G x b).length = 4 := rfl
theorem SetAt.at {G : GP} {w : World} {a : Option Addr} {rs : List ClaimR} (h : SetAt G w a rs) (i : Nat) (hi : i < rs.length) : ∃ b o, a = some ⟨b, o, none⟩ ∧ b < w.heap.size :=
 let ⟨b, o, e, hb, _⟩ := h.s.elem ClaimR.cells_len (by omega) i hi
 ⟨b, o, e, hb⟩
theorem SetAt.cells {G : GP} {w w1 : World} {b o : Nat} {rs : List ClaimR} (h : SetAt G w (some ⟨b, o, none⟩) rs) (hb : Below w.heap.size w w1) (i : Nat) (hi : i < rs.length) : ∀ j v, (rs[i].cells)[j]? = some v → w1.cell? ⟨b, o + i * 3 + j, none⟩ = some v :=
 ((h.s.up hb).elemS ClaimR.cells_len (by omega) i hi).2
theorem powers_any (G : GP) (ok : G.Ok) (gb : Nat) (rs : List ClaimR) (a : Option Addr) (c i : Nat) (hi : i < rs.length) (x : Nat) (hlen : rs[i].k.bases.length ≤ 8) (w : World) (hG : GroupAt w gb G) (hS : SetAt G w a rs) :
  Calls Try.prog 156 #[.agg #[.pointer (some ⟨gb, 0, none⟩), .slice a rs.length c], .int .i64 (i : Int), scV G x] w
   (fun e w' => ∃ a' c', e = .returned (.slice a' rs[i].k.bases.length c') ∧ Below w.heap.size w w' ∧ Sl w' w'.heap.size a' (rs[i].k.bases.flatMap (powC G x))) := by
 obtain ⟨ba, oa, rfl, hba⟩ := hS.at i hi
 have HCC := Lib.hid (fun w1 (hb : Below w.heap.size w w1) => hS.cells hb i hi)
 have HRB := Lib.hid (hS.e _ (List.getElem_mem hi)).b
 have HBA := Lib.hid hba
 have HGB := Lib.hid hG.lt
 have HG := Lib.hid hG
 have OK := Lib.hid ok
 have hin : (i : Nat) < rs.length := hi
 generalize rs[i] = r at *
 generalize rs.length = n at *
 obtain ⟨m, hm⟩ : ∃ m, r.k.bases.length = m := ⟨_, rfl⟩
 have HM := Lib.hid hm
 rw [hm] at hlen ⊢
 clear hS hba hG ok hm hi
 unfold scV limbV
 have hc_1 := HCC.out w (Below.refl _ _) 1 _ rfl
 rw [HM.out] at hc_1
 have hba9 := HBA.out
 go_enter Try.func156, Try.ntmps156
 go_wp2_with fail
 have HZS := HBA
 replace HZS := sz HZS HGB.out
 obtain ⟨w1, hq1, hb9, hz9, Hbs, Hbx⟩ := new2 w 157 [.pointer (some ⟨gb, 0, none⟩), .slice (some ⟨ba, oa, none⟩) n c] 91 [.int .u64 (dig (mont G.q.m x) 0 : Int), .int .u64 (dig (mont G.q.m x) 1 : Int), .int .u64 (dig (mont G.q.m x) 2 : Int), .int .u64 (dig (mont G.q.m x) 3 : Int)]
 rw [hq1]
 clear hq1
 replace HG := Lib.hid (HG.out.up hb9)
 have HB := Lib.hid hb9
 replace HZS := sz HZS hz9.out
 clear hb9 hz9
 have bs_ := Hbs.out.c2
 have bx_ := Hbx.out.c4
 have BL := Lib.hid (Below.refl w1.heap.size w1)
 clear hc_1 hba9
 go_wp2_with fail
 go_loopw [17, 7] (fun i v wr => ∃ (j : Nat) (g : Option Addr) (c9 : Nat), j ≤ m ∧ i = .int .i64 j ∧ v = .slice g j c9 ∧ Hid (Below w1.heap.size w1 wr) ∧ Hid (RowO w1.heap.size wr 111 4 (.slice g j c9) j ((r.k.bases.take j).flatMap (powC G x)))) (fun i _ _ => m - (intOf i).toNat)
 case atStart => exact ⟨0, none, 0, Nat.zero_le _, rfl, rfl, BL, RowO.nil⟩
 case round =>
  obtain ⟨j, g, c9, hj, rfl, rfl, HL9, Hr⟩ := hrel
  have hb9 := HL9.out
  clear HL9 bs_
  replace Hbs := Lib.hid (Hbs.out.up hb9)
  clear bx_
  replace Hbx := Lib.hid (Hbx.out.up hb9)
  replace HG := Lib.hid (HG.out.up hb9)
  replace BL := hbu BL hb9
  replace HB := hbu HB hb9
  replace HZS := sz HZS hb9.size
  clear hb9
  have bs_ := Hbs.out.c2
  have bx_ := Hbx.out.c4
  by_cases hjm : j < m
  ·have hjl : j < r.k.bases.length := by rw [HM.out]; exact hjm
   have hce := ((HRB.out.up HB.out).elemS (limC_len _) (by omega) j hjl).2
   have HSN := Lib.hid (flat_snoc (powC G x) r.k.bases j hjl)
   generalize r.k.bases[j] = b at *
   have hce_0 := hce 0 _ rfl
   rw [Nat.add_zero] at hce_0
   have hce_1 := hce 1 _ rfl
   have hce_2 := hce 2 _ rfl
   have hce_3 := hce 3 _ rfl
   clear hce
   have o2_bs_ := bs_; clear bs_
   have o2_bx_ := bx_; clear bx_
   obtain ⟨w2, hq2, hb9, hz9, Hbe⟩ := new1 wr 111 [.int .u64 (dig (mont G.p.m (numOf b)) 0 : Int), .int .u64 (dig (mont G.p.m (numOf b)) 1 : Int), .int .u64 (dig (mont G.p.m (numOf b)) 2 : Int), .int .u64 (dig (mont G.p.m (numOf b)) 3 : Int)]
   replace Hbs := Lib.hid (Hbs.out.up hb9)
   replace Hbx := Lib.hid (Hbx.out.up hb9)
   replace HG := Lib.hid (HG.out.up hb9)
   replace Hr := Lib.hid (Hr.out.up hb9)
   replace BL := hbu BL hb9
   replace HB := hbu HB hb9
   replace HZS := sz HZS hz9.out
   clear hb9 hz9
   have bs_ := Hbs.out.c2
   have bx_ := Hbx.out.c4
   have be_ := Hbe.out.c4
   go_wp2_with fail
   clear hq2 o2_bx_ o2_bs_ hce_0 hce_1 hce_2 hce_3
   refine (gPower_any G OK.out gb (numOf b) x w2 HG.out).mono ?_
   rintro e w3 ⟨rfl, hb9⟩
   clear bs_
   replace Hbs := Lib.hid (Hbs.out.up hb9)
   clear bx_
   replace Hbx := Lib.hid (Hbx.out.up hb9)
   clear be_
   replace Hbe := Lib.hid (Hbe.out.up hb9)
   replace HG := Lib.hid (HG.out.up hb9)
   replace Hr := Lib.hid (Hr.out.up hb9)
   replace BL := hbu BL hb9
   replace HB := hbu HB hb9
   replace HZS := sz HZS hb9.size
   clear hb9
   have bs_ := Hbs.out.c2
   have bx_ := Hbx.out.c4
   have be_ := Hbe.out.c4
   unfold elV limbV
   clear be_ Hbe
   obtain ⟨i9, hi9, hz90, hz91, hz92⟩ := info_parts infoElem
   go_wp2_with (at_builtin; refine wpList_pushR (w1.heap.size) w3 (by have g0 := HZS.out; omega) rfl _ _ 148 rfl 111 i9 _ 4 32 Try.underlying148 hi9 hz90 hz91 hz92 rfl (by omega) ((.slice g j c9)) (j) (((r.k.bases.take j).flatMap (powC G x))) rfl Hr.out _ _ _ rfl rfl rfl (by simp [Value.oneCell']) (by omega) (by unfold maxLen; omega) ?_)
   intro g4 c4 w4 hown9 hg9
   clear bs_ bx_
   have hb9 := Below.grown HB.out hg9 (by have g0 := HZS.out; omega) (fun q hq => Nat.le_trans (show w.heap.size ≤ w1.heap.size by have g0 := HZS.out; omega) (Hr.out.lt q hq).1)
   replace Hbs := Lib.hid (Hbs.out.grown hg9 (fun e9 => by have a1 := Hr.out.lt _ e9; have g0 := HZS.out; omega))
   replace Hbx := Lib.hid (Hbx.out.grown hg9 (fun e9 => by have a1 := Hr.out.lt _ e9; have g0 := HZS.out; omega))
   replace HG := Lib.hid (HG.out.grown hg9 (fun e9 => by have a1 := Hr.out.lt _ e9; have g0 := HZS.out; omega))
   replace BL := Lib.hid (Below.grown BL.out hg9 (by have g0 := HZS.out; omega) (fun q hq => Nat.le_trans (show w1.heap.size ≤ w1.heap.size by have g0 := HZS.out; omega) (Hr.out.lt q hq).1))
   replace HZS := sz HZS hg9.size
   clear Hr HB
   have Hr := Lib.hid hown9
   have HB := Lib.hid hb9
   clear hb9 hown9 hg9 hi9 hz90 hz91 hz92
   have bs_ := Hbs.out.c2
   have bx_ := Hbx.out.c4
   go_wp2_with fail
   go_roundw
   case rel => exact ⟨j + 1, _, _, by omega, by go_num, rfl, BL, Hr.out.eq HSN.out.symm rfl⟩
   case measure => simp [intOf]; omega
  ·have hjn : j = m := by omega
   subst hjn
   have hT : r.k.bases.take j = r.k.bases := List.take_of_length_le (by rw [HM.out]; exact Nat.le_refl _)
   rw [hT] at Hr
   clear hT
   go_wp2_with fail
   go_ret
   exact ⟨g, c9, rfl, HB.out, Hr.out.sl⟩
end Go.Proofs.Ytipgjookfdkciaa
namespace Go.Proofs.Ytipgjookfdkciaa
open Go.RowKit
structure PrfA where
 c : ByteArray
 aa : Option Addr
 ca : Nat
 l : List ByteArray
def PrfA.cells (p : PrfA) : List Value := [.string p.c, .slice p.aa p.l.length p.ca]
def PrfA.val (p : PrfA) : Value := .agg #[.string p.c, .slice p.aa p.l.length p.ca]
structure PrfA.At (p : PrfA) (w : World) : Prop where
 s : Sl w w.heap.size p.aa (p.l.map Value.string)
 n : p.aa = none → p.ca = 0
theorem PrfA.At.up {p : PrfA} {w w' : World} (h : p.At w) (hb : Below w.heap.size w w') : p.At w' := ⟨h.s.up hb, h.n⟩
def exI (G : GP) (c d : ByteArray) : Nat := ((numOf c + (G.q.m - numOf d)) % G.q.m) ^ (G.q.m - 2) % G.q.m
def exF (G : GP) (d : Nat) (x y : ByteArray) : ByteArray := textS (d * ((numOf x + (G.q.m - numOf y)) % G.q.m) % G.q.m) G.size
def exE (G : GP) (p q : PrfA) : Int := if p.l.length = q.l.length ∧ p.l.length ≠ 0 then (if ((p.c :: p.l).all (isSc G.q.m G.size) && (q.c :: q.l).all (isSc G.q.m G.size)) = true then (if p.c = q.c then 9 else 0) else 6) else 2
def exL (G : GP) (p q : PrfA) : List ByteArray := if exE G p q = 0 then List.zipWith (exF G (exI G p.c q.c)) p.l q.l else []
def ExtR (er : Int) (L : List ByteArray) (w : World) (e : Ending) (w' : World) : Prop :=
 Below w.heap.size w w' ∧ ∃ a c, e = .returned (.tuple #[.slice a L.length c, .int .i64 er]) ∧ Sl w' w'.heap.size a (L.map Value.string) ∧ (a = none ↔ L.length = 0) ∧ (a = none → c = 0)
theorem extR_none (er : Int) {w w' : World} (h : Below w.heap.size w w') : ExtR er [] w (.returned (.tuple #[.slice none 0 0, .int .i64 er])) w' :=
 ⟨h, none, 0, rfl, Or.inl rfl, by simp, fun _ => rfl⟩
theorem zip_snoc (f : ByteArray → ByteArray → ByteArray) (l m : List ByteArray) (j : Nat) (hl : j < l.length) (hm : j < m.length) : ((List.zipWith f l m).take (j + 1)).map Value.string = ((List.zipWith f l m).take j).map Value.string ++ [.string (f l[j] m[j])] := by
 rw [List.take_succ_eq_append_getElem (by rw [List.length_zipWith]; omega), List.map_append, List.getElem_zipWith]
 rfl
theorem zip_len (f : ByteArray → ByteArray → ByteArray) (l m : List ByteArray) (n : Nat) (hl : l.length = n) (hm : m.length = n) : (List.zipWith f l m).length = n := by
 rw [List.length_zipWith, hl, hm, Nat.min_self]
theorem zip_take (f : ByteArray → ByteArray → ByteArray) (l m : List ByteArray) (n : Nat) (hl : l.length = n) (hm : m.length = n) : (List.zipWith f l m).take n = List.zipWith f l m := List.take_of_length_le (by rw [zip_len f l m n hl hm]; exact Nat.le_refl _)
theorem RowO.someG {N n c : Nat} {w : World} {e : TypeId} {size k : Nat} {a : Option Addr} {xs : List Value} (h : RowO N w e size (.slice a k c) n xs) (h0 : n ≠ 0) : ∃ g, a = Option.some ⟨g, 0, none⟩ := by
 rcases h.2 with ⟨_, h1⟩ | ⟨g, cap, cur, hv, _⟩
 ·exact absurd h1 h0
 ·simp only [Value.slice.injEq] at hv
  exact ⟨g, hv.1⟩
theorem ex_eq (G : GP) (c d a b : ByteArray) : textS ((numOf c + (G.q.m - numOf d)) ^ (G.q.m - 2) * (numOf a + (G.q.m - numOf b)) % G.q.m) G.size = exF G (exI G c d) a b := by
 have h1 := Nat.mul_mod ((numOf c + (G.q.m - numOf d)) ^ (G.q.m - 2)) (numOf a + (G.q.m - numOf b)) G.q.m
 rw [Nat.pow_mod (numOf c + (G.q.m - numOf d)) (G.q.m - 2) G.q.m] at h1
 rw [h1]
 rfl
theorem ext_none (k : Int) (hk : ¬ (1 ≤ k ∧ k ≤ 3)) (p q : PrfA) (w : World) : Calls Try.prog 15 #[.int .i64 k, p.val, q.val] w (ExtR 1 [] w) := by
 unfold PrfA.val
 go_enter Try.func15, Try.ntmps15
 go_wp2_with fail
 obtain ⟨w1, hq1, hb9, hz9, Hbp, Hbq⟩ := new2 w 24 [.string p.c, .slice p.aa p.l.length p.ca] 24 [.string q.c, .slice q.aa q.l.length q.ca]
 rw [hq1]
 clear hq1
 have HB := Lib.hid hb9
 have HZS := hz9
 clear hb9 hz9
 have bp_ := Hbp.out.c2
 have bq_ := Hbq.out.c2
 go_wp2_with fail
 refine (of_none k hk _).mono ?_
 rintro e w2 ⟨rfl, rfl⟩
 go_wp2_with fail
 go_ret2
 exact extR_none 1 HB.out
theorem ext_form (k : Nat) (h1 : 1 ≤ k) (h3 : k ≤ 3) (p q : PrfA) (hno : ¬ (p.l.length = q.l.length ∧ p.l.length ≠ 0)) (w : World) : Calls Try.prog 15 #[.int .i64 (k : Int), p.val, q.val] w (ExtR 2 [] w) := by
 unfold PrfA.val
 generalize p.l.length = n at *
 generalize q.l.length = m at *
 by_cases hnm : n = m
 ·have hd1 : ((n : Int) != (m : Int)) = false := by simp; omega
  have hd2 : ((n : Int) == 0) = true := by simp; omega
  clear hno hnm
  go_enter Try.func15, Try.ntmps15
  go_wp2_with fail
  obtain ⟨w1, hq1, hb9, hz9, Hbp, Hbq⟩ := new2 w 24 [.string p.c, .slice p.aa n p.ca] 24 [.string q.c, .slice q.aa m q.ca]
  rw [hq1]
  clear hq1
  have HB := Lib.hid hb9
  have HZS := hz9
  clear hb9 hz9
  have bp_ := Hbp.out.c2
  have bq_ := Hbq.out.c2
  go_wp2_with fail
  refine (of_some k h1 h3 w1).mono ?_
  rintro e w2 ⟨rfl, hg9, hb9⟩
  clear bp_
  replace Hbp := Lib.hid (Hbp.out.up hb9)
  clear bq_
  replace Hbq := Lib.hid (Hbq.out.up hb9)
  replace HB := hbu HB hb9
  replace HZS := sz HZS hb9.size
  have HG := Lib.hid hg9
  clear hg9 hb9
  have bp_ := Hbp.out.c2
  have bq_ := Hbq.out.c2
  go_wp2_with fail
  go_ret2
  exact extR_none 2 HB.out
 ·have hd1 : ((n : Int) != (m : Int)) = true := by simp; omega
  clear hno hnm
  go_enter Try.func15, Try.ntmps15
  go_wp2_with fail
  obtain ⟨w1, hq1, hb9, hz9, Hbp, Hbq⟩ := new2 w 24 [.string p.c, .slice p.aa n p.ca] 24 [.string q.c, .slice q.aa m q.ca]
  rw [hq1]
  clear hq1
  have HB := Lib.hid hb9
  have HZS := hz9
  clear hb9 hz9
  have bp_ := Hbp.out.c2
  have bq_ := Hbq.out.c2
  go_wp2_with fail
  refine (of_some k h1 h3 w1).mono ?_
  rintro e w2 ⟨rfl, hg9, hb9⟩
  clear bp_
  replace Hbp := Lib.hid (Hbp.out.up hb9)
  clear bq_
  replace Hbq := Lib.hid (Hbq.out.up hb9)
  replace HB := hbu HB hb9
  replace HZS := sz HZS hb9.size
  have HG := Lib.hid hg9
  clear hg9 hb9
  have bp_ := Hbp.out.c2
  have bq_ := Hbq.out.c2
  go_wp2_with fail
  go_ret2
  exact extR_none 2 HB.out
theorem ext_body (k : Nat) (h1 : 1 ≤ k) (h3 : k ≤ 3) (c d : ByteArray) (l m : List ByteArray) (n : Nat) (hl : l.length = n) (hm : m.length = n) (hn0 : n ≠ 0) (hn : n ≤ 8796093022206) (aa ab : Option Addr) (ca cb : Nat) (b1 b2 be : Bool) (hb1 : (c :: l).all (isSc (grp k).q.m (grp k).size) = b1) (hb2 : (d :: m).all (isSc (grp k).q.m (grp k).size) = b2)
  (er : Int) (L : List ByteArray) (hbe : b1 = true → b2 = true → be = decide (mont (grp k).q.m (numOf c) = mont (grp k).q.m (numOf d))) (hr6 : (b1 && b2) = false → er = 6 ∧ L = []) (hr9 : (b1 && b2) = true → be = true → er = 9 ∧ L = []) (hr0 : (b1 && b2) = true → be = false → er = 0 ∧ L = List.zipWith (exF (grp k) (exI (grp k) c d)) l m)
  (w : World) (hA : Sl w w.heap.size aa (l.map Value.string)) (hA0 : aa = none → ca = 0) (hB : Sl w w.heap.size ab (m.map Value.string)) (hB0 : ab = none → cb = 0) :
  Calls Try.prog 15 #[.int .i64 (k : Int), .agg #[.string c, .slice aa n ca], .agg #[.string d, .slice ab n cb]] w (ExtR er L w) := by
 have OK := Lib.hid (grp_ok k h1 h3)
 have HA := Lib.hid hA
 have HA0 := Lib.hid hA0
 have HBB := Lib.hid hB
 have HB0 := Lib.hid hB0
 have HL := Lib.hid hl
 have HM := Lib.hid hm
 have HB1 := Lib.hid hb1
 have HB2 := Lib.hid hb2
 have HR6 := Lib.hid hr6
 have HR9 := Lib.hid hr9
 have HR0 := Lib.hid hr0
 have HBE := Lib.hid hbe
 have hd1 : ((n : Int) != (n : Int)) = false := by simp
 have hd2 : ((n : Int) == 0) = false := by simp; omega
 clear hA hA0 hB hB0 hl hm hb1 hb2 hr6 hr9 hr0 hbe
 go_enter Try.func15, Try.ntmps15
 go_wp2_with fail
 obtain ⟨w1, hq1, hb9, hz9, Hbp, Hbq⟩ := new2 w 24 [.string c, .slice aa n ca] 24 [.string d, .slice ab n cb]
 rw [hq1]
 clear hq1
 have HB := Lib.hid hb9
 have HZS := hz9
 clear hb9 hz9
 have bp_ := Hbp.out.c2
 have bq_ := Hbq.out.c2
 go_wp2_with fail
 refine (of_some k h1 h3 w1).mono ?_
 rintro e w2 ⟨rfl, hg9, hb9⟩
 clear bp_
 replace Hbp := Lib.hid (Hbp.out.up hb9)
 clear bq_
 replace Hbq := Lib.hid (Hbq.out.up hb9)
 replace HB := hbu HB hb9
 replace HZS := sz HZS hb9.size
 have HG := Lib.hid hg9
 clear hg9 hb9
 have bp_ := Hbp.out.c2
 have bq_ := Hbq.out.c2
 have HsG := Lib.hid HG.out.lt
 replace HZS := sz HZS HsG.out
 have o3_bp_ := bp_; clear bp_
 have o3_bq_ := bq_; clear bq_
 obtain ⟨w3, hq3, hb9, hz9, Hbs⟩ := new1 w2 9 [.string c]
 replace Hbp := Lib.hid (Hbp.out.up hb9)
 replace Hbq := Lib.hid (Hbq.out.up hb9)
 replace HG := Lib.hid (HG.out.up hb9)
 replace HB := hbu HB hb9
 replace HZS := sz HZS hz9.out
 clear hb9 hz9
 have bp_ := Hbp.out.c2
 have bq_ := Hbq.out.c2
 have bs_ := Hbs.out.c1
 have Hr := Lib.hid (RowO.of_bx (n := 1) (size := 1) Hbs.out (Nat.le_refl _) rfl (by decide))
 clear bs_ Hbs
 obtain ⟨i9, hi9, hz90, hz91, hz92⟩ := info_parts infoStr
 go_wp2_with (at_builtin; refine wpList_joinR (w2.heap.size) w3 (by have g0 := HZS.out; omega) rfl _ _ 22 rfl 9 i9 _ 1 16 Try.underlying22 hi9 hz90 hz91 hz92 rfl (by omega) ((.slice (some ⟨w2.heap.size, 0, none⟩) 1 1)) (1) ([.string c]) rfl Hr.out (aa) (n) (ca) (l.map Value.string) rfl (by rw [List.length_map, HL.out, Nat.mul_one]) ((HA.out.up HB.out)) (HA0.out) (by simp [Value.oneCell']) (by omega) (by unfold maxLen; omega) ?_)
 intro a4 c4 w4 hown9 hg9
 clear hq3 o3_bq_ o3_bp_ bp_ bq_
 have hb9 := Below.grown HB.out hg9 (by have g0 := HZS.out; omega) (fun q hq => Nat.le_trans (show w.heap.size ≤ w2.heap.size by have g0 := HZS.out; omega) (Hr.out.lt q hq).1)
 replace Hbp := Lib.hid (Hbp.out.grown hg9 (fun e9 => by have a1 := Hr.out.lt _ e9; have g0 := HZS.out; omega))
 replace Hbq := Lib.hid (Hbq.out.grown hg9 (fun e9 => by have a1 := Hr.out.lt _ e9; have g0 := HZS.out; omega))
 replace HG := Lib.hid (HG.out.grown hg9 (fun e9 => by have a1 := Hr.out.lt _ e9; have g0 := HZS.out; omega))
 replace HZS := sz HZS hg9.size
 clear Hr HB
 have Hr := Lib.hid hown9
 have HB := Lib.hid hb9
 clear hb9 hown9 hg9 hi9 hz90 hz91 hz92
 have bp_ := Hbp.out.c2
 have bq_ := Hbq.out.c2
 go_wp2_with fail
 refine (allSc_v (grp k) OK.out _ (c :: l) b1 HB1.out (1 + n) (by rw [List.length_cons, HL.out, Nat.add_comm]) _ _ (by omega) w4 HG.out Hr.out.sl).mono ?_
 rintro e w5 ⟨vx, rfl, hb9, hx9⟩
 clear bp_
 replace Hbp := Lib.hid (Hbp.out.up hb9)
 clear bq_
 replace Hbq := Lib.hid (Hbq.out.up hb9)
 replace HG := Lib.hid (HG.out.up hb9)
 replace Hr := Lib.hid (Hr.out.up hb9)
 replace HB := hbu HB hb9
 replace HZS := sz HZS hb9.size
 have HX := Lib.hid hx9
 clear hx9 hb9
 have bp_ := Hbp.out.c2
 have bq_ := Hbq.out.c2
 clear Hr
 have BX := Lib.hid (Below.refl w5.heap.size w5)
 have o6_bp_ := bp_; clear bp_
 have o6_bq_ := bq_; clear bq_
 obtain ⟨w6, hq6, hb9, hz9, Hbt⟩ := new1 w5 9 [.string d]
 replace Hbp := Lib.hid (Hbp.out.up hb9)
 replace Hbq := Lib.hid (Hbq.out.up hb9)
 replace HG := Lib.hid (HG.out.up hb9)
 replace BX := hbu BX hb9
 replace HB := hbu HB hb9
 replace HZS := sz HZS hz9.out
 clear hb9 hz9
 have bp_ := Hbp.out.c2
 have bq_ := Hbq.out.c2
 have bt_ := Hbt.out.c1
 have Hs := Lib.hid (RowO.of_bx (n := 1) (size := 1) Hbt.out (Nat.le_refl _) rfl (by decide))
 clear bt_ Hbt
 obtain ⟨i9, hi9, hz90, hz91, hz92⟩ := info_parts infoStr
 go_wp2_with (at_builtin; refine wpList_joinR (w5.heap.size) w6 (by have g0 := HZS.out; omega) rfl _ _ 22 rfl 9 i9 _ 1 16 Try.underlying22 hi9 hz90 hz91 hz92 rfl (by omega) ((.slice (some ⟨w5.heap.size, 0, none⟩) 1 1)) (1) ([.string d]) rfl Hs.out (ab) (n) (cb) (m.map Value.string) rfl (by rw [List.length_map, HM.out, Nat.mul_one]) ((HBB.out.up HB.out)) (HB0.out) (by simp [Value.oneCell']) (by omega) (by unfold maxLen; omega) ?_)
 intro a7 c7 w7 hown9 hg9
 clear hq6 o6_bq_ o6_bp_ bp_ bq_
 have hb9 := Below.grown HB.out hg9 (by have g0 := HZS.out; omega) (fun q hq => Nat.le_trans (show w.heap.size ≤ w5.heap.size by have g0 := HZS.out; omega) (Hs.out.lt q hq).1)
 replace Hbp := Lib.hid (Hbp.out.grown hg9 (fun e9 => by have a1 := Hs.out.lt _ e9; have g0 := HZS.out; omega))
 replace Hbq := Lib.hid (Hbq.out.grown hg9 (fun e9 => by have a1 := Hs.out.lt _ e9; have g0 := HZS.out; omega))
 replace HG := Lib.hid (HG.out.grown hg9 (fun e9 => by have a1 := Hs.out.lt _ e9; have g0 := HZS.out; omega))
 replace BX := Lib.hid (Below.grown BX.out hg9 (by have g0 := HZS.out; omega) (fun q hq => Nat.le_trans (show w5.heap.size ≤ w5.heap.size by have g0 := HZS.out; omega) (Hs.out.lt q hq).1))
 replace HZS := sz HZS hg9.size
 clear Hs HB
 have Hs := Lib.hid hown9
 have HB := Lib.hid hb9
 clear hb9 hown9 hg9 hi9 hz90 hz91 hz92
 have bp_ := Hbp.out.c2
 have bq_ := Hbq.out.c2
 go_wp2_with fail
 refine (allSc_v (grp k) OK.out _ (d :: m) b2 HB2.out (1 + n) (by rw [List.length_cons, HM.out, Nat.add_comm]) _ _ (by omega) w7 HG.out Hs.out.sl).mono ?_
 rintro e w8 ⟨vy, rfl, hb9, hy9⟩
 clear bp_
 replace Hbp := Lib.hid (Hbp.out.up hb9)
 clear bq_
 replace Hbq := Lib.hid (Hbq.out.up hb9)
 replace HG := Lib.hid (HG.out.up hb9)
 replace Hs := Lib.hid (Hs.out.up hb9)
 replace BX := hbu BX hb9
 replace HB := hbu HB hb9
 replace HZS := sz HZS hb9.size
 have HY := Lib.hid hy9
 clear hy9 hb9
 have bp_ := Hbp.out.c2
 have bq_ := Hbq.out.c2
 clear Hs
 cases b1
 ·obtain ⟨rfl, rfl⟩ := HR6.out rfl
  go_wp2_with fail
  go_ret2
  exact extR_none 6 HB.out
 ·cases b2
  ·obtain ⟨rfl, rfl⟩ := HR6.out rfl
   go_wp2_with fail
   go_ret2
   exact extR_none 6 HB.out
  ·obtain ⟨ax, cx, rfl, hsx⟩ := HX.out rfl
   obtain ⟨ay, cy, rfl, hsy⟩ := HY.out rfl
   have HSX := Lib.hid (hsx.1.up BX.out)
   have HSY := Lib.hid hsy.1
   clear hsx hsy HX HY
   have hbe9 : be = decide (mont (grp k).q.m (numOf c) = mont (grp k).q.m (numOf d)) := HBE.out (by simp) (by simp)
   have HDL := Lib.hid (isSc_le (List.all_eq_true.1 HB2.out d (by simp)))
   have HML := Lib.hid (fun s (hs : s ∈ m) => isSc_le (List.all_eq_true.1 HB2.out s (by simp [hs])))
   obtain ⟨bx, ox, rfl, hbx⟩ := HSX.out.adr (flat_ne (limC_len _) (by omega) (by simp))
   obtain ⟨by_, oy, rfl, hby⟩ := HSY.out.adr (flat_ne (limC_len _) (by omega) (by simp))
   have HBXL := Lib.hid hbx
   have HBYL := Lib.hid hby
   replace HZS := sz HZS HBXL.out
   replace HZS := sz HZS HBYL.out
   have BK := Lib.hid (Below.refl w8.heap.size w8)
   go_upto_region 10 with fail
   have hcx := (HSX.out.elemS (limC_len _) (by omega) 0 (by simp)).2
   have hcy := (HSY.out.elemS (limC_len _) (by omega) 0 (by simp)).2
   have hcx_0 := hcx 0 _ rfl
   rw [Nat.add_zero] at hcx_0
   have hcx_1 := hcx 1 _ rfl
   have hcx_2 := hcx 2 _ rfl
   have hcx_3 := hcx 3 _ rfl
   clear hcx
   have hcy_0 := hcy 0 _ rfl
   rw [Nat.add_zero] at hcy_0
   have hcy_1 := hcy 1 _ rfl
   have hcy_2 := hcy 2 _ rfl
   have hcy_3 := hcy 3 _ rfl
   clear hcy
   simp only [Nat.zero_mul, Nat.add_zero, List.getElem_cons_zero] at hcx_0 hcx_1 hcx_2 hcx_3 hcy_0 hcy_1 hcy_2 hcy_3
   have HEQ := Lib.hid fun W => binScal (w := W) (eqScal (mont (grp k).q.m (numOf c)) (mont (grp k).q.m (numOf d)) (OK.out.q.mont _) (OK.out.q.mont _) W be hbe9)
   clear hbe9
   have hl_bp := Hbp.out.lt
   have hl_bq := Hbq.out.lt
   refine wp_region_over (by kernel_rfl) (by kernel_rfl) ?_
   have hov_bp := fun (E : Over w8) o => E.cell (b := w.heap.size) o hl_bp
   have hov_bq := fun (E : Over w8) o => E.cell (b := w.heap.size + 1) o hl_bq
   have hov_bx := fun (E : Over w8) o => E.cell (b := bx) o hbx
   have hov_by_ := fun (E : Over w8) o => E.cell (b := by_) o hby
   repeat (first | (refine wpQuiet_bin rfl .eql _ _ 91 _ rfl _ _ (.bool be) rfl rfl (fun _ => guardScal _ _ _ _ _ _) (fun _ => HEQ.out _) ?_; simp only [Act.put, List.setIfInBounds_toArray, List.set_cons_succ, List.set_cons_zero]) | go_big_quiet_step (first | fail))
   all_goals (try unfold elV limbV)
   repeat (first | (refine wpQuiet_bin rfl .eql _ _ 91 _ rfl _ _ (.bool be) rfl rfl (fun _ => guardScal _ _ _ _ _ _) (fun _ => HEQ.out _) ?_; simp only [Act.put, List.setIfInBounds_toArray, List.set_cons_succ, List.set_cons_zero]) | go_big_quiet_step (first | fail))
   all_goals (try unfold elV limbV)
   repeat (first | (refine wpQuiet_bin rfl .eql _ _ 91 _ rfl _ _ (.bool be) rfl rfl (fun _ => guardScal _ _ _ _ _ _) (fun _ => HEQ.out _) ?_; simp only [Act.put, List.setIfInBounds_toArray, List.set_cons_succ, List.set_cons_zero]) | go_big_quiet_step (first | fail))
   all_goals (try unfold ciphV)
   refine wpQuiet_nil ?_
   rintro _ ⟨E, rfl⟩
   clear hov_bp hl_bp hov_bq hl_bq hov_bx hov_by_ bp_
   replace Hbp := Lib.hid (Hbp.out.up E.h)
   clear bq_
   replace Hbq := Lib.hid (Hbq.out.up E.h)
   replace HG := Lib.hid (HG.out.up E.h)
   replace BX := hbu BX E.h
   replace BK := hbu BK E.h
   replace HB := hbu HB E.h
   replace HZS := sz HZS E.h.size
   obtain ⟨w9, hq9⟩ : ∃ W9 : World, E.w = W9 := ⟨_, rfl⟩
   rw [hq9] at Hbp Hbq HG BX BK HB HZS ⊢
   clear hq9 E
   have bp_ := Hbp.out.c2
   have bq_ := Hbq.out.c2
   clear hcx_0 hcx_1 hcx_2 hcx_3 hcy_0 hcy_1 hcy_2 hcy_3 HEQ hbx hby
   cases be
   ·obtain ⟨rfl, rfl⟩ := HR0.out rfl rfl
    clear HR0 HR6 HR9
    go_upto_region 12 with fail
    have hcx := ((HSX.out.up BK.out).elemS (limC_len _) (by omega) 0 (by simp)).2
    have hcy := ((HSY.out.up BK.out).elemS (limC_len _) (by omega) 0 (by simp)).2
    have hcx_0 := hcx 0 _ rfl
    rw [Nat.add_zero] at hcx_0
    have hcx_1 := hcx 1 _ rfl
    have hcx_2 := hcx 2 _ rfl
    have hcx_3 := hcx 3 _ rfl
    clear hcx
    have hcy_0 := hcy 0 _ rfl
    rw [Nat.add_zero] at hcy_0
    have hcy_1 := hcy 1 _ rfl
    have hcy_2 := hcy 2 _ rfl
    have hcy_3 := hcy 3 _ rfl
    clear hcy
    simp only [Nat.zero_mul, Nat.add_zero, List.getElem_cons_zero] at hcx_0 hcx_1 hcx_2 hcx_3 hcy_0 hcy_1 hcy_2 hcy_3
    have hbx := Nat.lt_of_lt_of_le HBXL.out BK.out.size
    have hby := Nat.lt_of_lt_of_le HBYL.out BK.out.size
    go_cut [13] from 14 to 111 (fun v9 wq9 => ∃ b9, v9 = .pointer (some ⟨b9, 0, none⟩) ∧ Hid (w9.heap.size ≤ b9) ∧ Hid (Bx wq9 b9 91 [.int .u64 (dig (mont (grp k).q.m ((numOf c + ((grp k).q.m - numOf d)) ^ ((grp k).q.m - 2))) 0 : Int), .int .u64 (dig (mont (grp k).q.m ((numOf c + ((grp k).q.m - numOf d)) ^ ((grp k).q.m - 2))) 1 : Int), .int .u64 (dig (mont (grp k).q.m ((numOf c + ((grp k).q.m - numOf d)) ^ ((grp k).q.m - 2))) 2 : Int), .int .u64 (dig (mont (grp k).q.m ((numOf c + ((grp k).q.m - numOf d)) ^ ((grp k).q.m - 2))) 3 : Int)]) ∧ Hid (Below w9.heap.size w9 wq9))
    case first =>
     have HT := Lib.hid (show Below w9.heap.size w9 w9.drew from (Below.refl _ _).drew)
     have hl_bp := Hbp.out.lt
     have hl_bq := Hbq.out.lt
     refine wp_region_tree (fun wq9 => ∃ E : Over w9, wq9 = E.w) ((.qs [0, 1, 2, 3, 4, 5, 6, 7] (.two 8 (.two 9 (.a 10 (.a 11 .done)) 10 (.a 9 (.a 11 .done))) 10 (.a 8 (.a 9 (.a 11 .done)))))) (by kernel_rfl) (by kernel_rfl) (fun _ _ d _ _ h => by cases d <;> exact h) ⟨⟨_, HT.out⟩, rfl⟩ ?_
     have hov_bp := fun (E : Over w9) o => E.cell (b := w.heap.size) o hl_bp
     have hov_bq := fun (E : Over w9) o => E.cell (b := w.heap.size + 1) o hl_bq
     have hov_bx := fun (E : Over w9) o => E.cell (b := bx) o hbx
     have hov_by_ := fun (E : Over w9) o => E.cell (b := by_) o hby
     obtain ⟨wd, hwd⟩ : ∃ W9 : World, w9.drew = W9 := ⟨_, rfl⟩
     rw [hwd] at HT ⊢
     clear hwd
     simp only [Tree.qs]
     repeat (refine tree_q rfl rfl ?_; go_big_quiet_step (fail); refine wpQuiet_nil ?_)
     refine tree_two rfl rfl ?ta1 ?ta2
     case ta1 =>
      intro K hK
      go_simp
      refine (gSub_any (grp k) OK.out _ (numOf c) (numOf d) HDL.out _ (HG.out.up HT.out)).mono ?_
      rintro e wz3 ⟨rfl, hb9⟩
      replace HT := Lib.hid (below_up HT.out hb9)
      clear hb9
      refine hK _ _ ⟨⟨⟨wz3, HT.out⟩, rfl⟩, ?_⟩
      clear hK K
      refine tree_two rfl rfl ?ta4 ?ta5
      case ta4 =>
       intro K hK
       go_simp
       refine (gInv_any (grp k) OK.out _ (numOf c + ((grp k).q.m - numOf d)) _ (HG.out.up HT.out)).mono ?_
       rintro e wz6 ⟨rfl, hb9⟩
       replace HT := Lib.hid (below_up HT.out hb9)
       unfold scV limbV
       clear hb9
       refine hK _ _ ⟨⟨⟨wz6, HT.out⟩, rfl⟩, ?_⟩
       clear hK K
       refine tree_a rfl (fun K hK => ?_)
       go_simp
       have hb9 : Below wz6.heap.size wz6 (wz6.alloc (Obj.cells #[.int .u64 0, .int .u64 0, .int .u64 0, .int .u64 0] 91)) := (Below.refl _ _).alloc (Nat.le_refl _) _
       have hx9 : Bx (wz6.alloc (Obj.cells #[.int .u64 0, .int .u64 0, .int .u64 0, .int .u64 0] 91)) wz6.heap.size 91 [.int .u64 0, .int .u64 0, .int .u64 0, .int .u64 0] := Bx.new _ _ _ _ rfl
       obtain ⟨wz7, hq9⟩ : ∃ W9 : World, (wz6.alloc (Obj.cells #[.int .u64 0, .int .u64 0, .int .u64 0, .int .u64 0] 91)) = W9 := ⟨_, rfl⟩
       rw [hq9] at hb9 hx9
       try rw [hq9]
       clear hq9
       have HLE := Lib.hid HT.out.size
       replace HT := Lib.hid (below_up HT.out hb9)
       have HX := Lib.hid hx9
       clear hb9 hx9
       refine hK _ _ ⟨⟨⟨wz7, HT.out⟩, rfl⟩, ?_⟩
       clear hK K
       refine tree_a rfl (fun K hK => ?_)
       have fz_0 := HX.out.frozen 0
       have cz_0 := HX.out.cell (i := 0) rfl
       have fz_1 := HX.out.frozen 1
       have cz_1 := HX.out.cell (i := 1) rfl
       have fz_2 := HX.out.frozen 2
       have cz_2 := HX.out.cell (i := 2) rfl
       have fz_3 := HX.out.frozen 3
       have cz_3 := HX.out.cell (i := 3) rfl
       go_simp
       have hx9 : Bx ((((wz7.setCell ⟨wz6.heap.size, 0, none⟩ (.int .u64 (dig (mont (grp k).q.m ((numOf c + ((grp k).q.m - numOf d)) ^ ((grp k).q.m - 2))) 0 : Int))).setCell ⟨wz6.heap.size, 1, none⟩ (.int .u64 (dig (mont (grp k).q.m ((numOf c + ((grp k).q.m - numOf d)) ^ ((grp k).q.m - 2))) 1 : Int))).setCell ⟨wz6.heap.size, 2, none⟩ (.int .u64 (dig (mont (grp k).q.m ((numOf c + ((grp k).q.m - numOf d)) ^ ((grp k).q.m - 2))) 2 : Int))).setCell ⟨wz6.heap.size, 3, none⟩ (.int .u64 (dig (mont (grp k).q.m ((numOf c + ((grp k).q.m - numOf d)) ^ ((grp k).q.m - 2))) 3 : Int))) wz6.heap.size 91 [.int .u64 (dig (mont (grp k).q.m ((numOf c + ((grp k).q.m - numOf d)) ^ ((grp k).q.m - 2))) 0 : Int), .int .u64 (dig (mont (grp k).q.m ((numOf c + ((grp k).q.m - numOf d)) ^ ((grp k).q.m - 2))) 1 : Int), .int .u64 (dig (mont (grp k).q.m ((numOf c + ((grp k).q.m - numOf d)) ^ ((grp k).q.m - 2))) 2 : Int), .int .u64 (dig (mont (grp k).q.m ((numOf c + ((grp k).q.m - numOf d)) ^ ((grp k).q.m - 2))) 3 : Int)] := ((((HX.out.set 0 (.int .u64 (dig (mont (grp k).q.m ((numOf c + ((grp k).q.m - numOf d)) ^ ((grp k).q.m - 2))) 0 : Int))).set 1 (.int .u64 (dig (mont (grp k).q.m ((numOf c + ((grp k).q.m - numOf d)) ^ ((grp k).q.m - 2))) 1 : Int))).set 2 (.int .u64 (dig (mont (grp k).q.m ((numOf c + ((grp k).q.m - numOf d)) ^ ((grp k).q.m - 2))) 2 : Int))).set 3 (.int .u64 (dig (mont (grp k).q.m ((numOf c + ((grp k).q.m - numOf d)) ^ ((grp k).q.m - 2))) 3 : Int)))
       have hb9 : Below w9.heap.size w9 ((((wz7.setCell ⟨wz6.heap.size, 0, none⟩ (.int .u64 (dig (mont (grp k).q.m ((numOf c + ((grp k).q.m - numOf d)) ^ ((grp k).q.m - 2))) 0 : Int))).setCell ⟨wz6.heap.size, 1, none⟩ (.int .u64 (dig (mont (grp k).q.m ((numOf c + ((grp k).q.m - numOf d)) ^ ((grp k).q.m - 2))) 1 : Int))).setCell ⟨wz6.heap.size, 2, none⟩ (.int .u64 (dig (mont (grp k).q.m ((numOf c + ((grp k).q.m - numOf d)) ^ ((grp k).q.m - 2))) 2 : Int))).setCell ⟨wz6.heap.size, 3, none⟩ (.int .u64 (dig (mont (grp k).q.m ((numOf c + ((grp k).q.m - numOf d)) ^ ((grp k).q.m - 2))) 3 : Int))) := ((((HT.out.setCell (show w9.heap.size ≤ wz6.heap.size from HLE.out) _).setCell (show w9.heap.size ≤ wz6.heap.size from HLE.out) _).setCell (show w9.heap.size ≤ wz6.heap.size from HLE.out) _).setCell (show w9.heap.size ≤ wz6.heap.size from HLE.out) _)
       obtain ⟨wy, hq9⟩ : ∃ W9 : World, ((((wz7.setCell ⟨wz6.heap.size, 0, none⟩ (.int .u64 (dig (mont (grp k).q.m ((numOf c + ((grp k).q.m - numOf d)) ^ ((grp k).q.m - 2))) 0 : Int))).setCell ⟨wz6.heap.size, 1, none⟩ (.int .u64 (dig (mont (grp k).q.m ((numOf c + ((grp k).q.m - numOf d)) ^ ((grp k).q.m - 2))) 1 : Int))).setCell ⟨wz6.heap.size, 2, none⟩ (.int .u64 (dig (mont (grp k).q.m ((numOf c + ((grp k).q.m - numOf d)) ^ ((grp k).q.m - 2))) 2 : Int))).setCell ⟨wz6.heap.size, 3, none⟩ (.int .u64 (dig (mont (grp k).q.m ((numOf c + ((grp k).q.m - numOf d)) ^ ((grp k).q.m - 2))) 3 : Int))) = W9 := ⟨_, rfl⟩
       rw [hq9] at hx9 hb9
       try rw [hq9]
       clear hq9
       refine hK _ _ ⟨⟨⟨wy, hb9⟩, rfl⟩, ?_⟩
       refine tree_end ?_
       clear hK K
       go_wp2_with fail
       go_meet
       case rel => exact ⟨_, rfl, HLE.out, hx9, hb9⟩
      case ta5 =>
       intro K hK
       go_simp
       have hb9 : Below wz3.heap.size wz3 (wz3.alloc (Obj.cells #[.int .u64 0, .int .u64 0, .int .u64 0, .int .u64 0] 91)) := (Below.refl _ _).alloc (Nat.le_refl _) _
       have hx9 : Bx (wz3.alloc (Obj.cells #[.int .u64 0, .int .u64 0, .int .u64 0, .int .u64 0] 91)) wz3.heap.size 91 [.int .u64 0, .int .u64 0, .int .u64 0, .int .u64 0] := Bx.new _ _ _ _ rfl
       obtain ⟨wz9, hq9⟩ : ∃ W9 : World, (wz3.alloc (Obj.cells #[.int .u64 0, .int .u64 0, .int .u64 0, .int .u64 0] 91)) = W9 := ⟨_, rfl⟩
       rw [hq9] at hb9 hx9
       try rw [hq9]
       clear hq9
       have HLE := Lib.hid HT.out.size
       replace HT := Lib.hid (below_up HT.out hb9)
       have HX := Lib.hid hx9
       clear hb9 hx9
       refine hK _ _ ⟨⟨⟨wz9, HT.out⟩, rfl⟩, ?_⟩
       clear hK K
       refine tree_a rfl (fun K hK => ?_)
       go_simp
       refine (gInv_any (grp k) OK.out _ (numOf c + ((grp k).q.m - numOf d)) _ (HG.out.up HT.out)).mono ?_
       rintro e wz10 ⟨rfl, hb9⟩
       replace HX := Lib.hid (HX.out.up hb9)
       replace HT := Lib.hid (below_up HT.out hb9)
       unfold scV limbV
       clear hb9
       refine hK _ _ ⟨⟨⟨wz10, HT.out⟩, rfl⟩, ?_⟩
       clear hK K
       refine tree_a rfl (fun K hK => ?_)
       have fz_0 := HX.out.frozen 0
       have cz_0 := HX.out.cell (i := 0) rfl
       have fz_1 := HX.out.frozen 1
       have cz_1 := HX.out.cell (i := 1) rfl
       have fz_2 := HX.out.frozen 2
       have cz_2 := HX.out.cell (i := 2) rfl
       have fz_3 := HX.out.frozen 3
       have cz_3 := HX.out.cell (i := 3) rfl
       go_simp
       have hx9 : Bx ((((wz10.setCell ⟨wz3.heap.size, 0, none⟩ (.int .u64 (dig (mont (grp k).q.m ((numOf c + ((grp k).q.m - numOf d)) ^ ((grp k).q.m - 2))) 0 : Int))).setCell ⟨wz3.heap.size, 1, none⟩ (.int .u64 (dig (mont (grp k).q.m ((numOf c + ((grp k).q.m - numOf d)) ^ ((grp k).q.m - 2))) 1 : Int))).setCell ⟨wz3.heap.size, 2, none⟩ (.int .u64 (dig (mont (grp k).q.m ((numOf c + ((grp k).q.m - numOf d)) ^ ((grp k).q.m - 2))) 2 : Int))).setCell ⟨wz3.heap.size, 3, none⟩ (.int .u64 (dig (mont (grp k).q.m ((numOf c + ((grp k).q.m - numOf d)) ^ ((grp k).q.m - 2))) 3 : Int))) wz3.heap.size 91 [.int .u64 (dig (mont (grp k).q.m ((numOf c + ((grp k).q.m - numOf d)) ^ ((grp k).q.m - 2))) 0 : Int), .int .u64 (dig (mont (grp k).q.m ((numOf c + ((grp k).q.m - numOf d)) ^ ((grp k).q.m - 2))) 1 : Int), .int .u64 (dig (mont (grp k).q.m ((numOf c + ((grp k).q.m - numOf d)) ^ ((grp k).q.m - 2))) 2 : Int), .int .u64 (dig (mont (grp k).q.m ((numOf c + ((grp k).q.m - numOf d)) ^ ((grp k).q.m - 2))) 3 : Int)] := ((((HX.out.set 0 (.int .u64 (dig (mont (grp k).q.m ((numOf c + ((grp k).q.m - numOf d)) ^ ((grp k).q.m - 2))) 0 : Int))).set 1 (.int .u64 (dig (mont (grp k).q.m ((numOf c + ((grp k).q.m - numOf d)) ^ ((grp k).q.m - 2))) 1 : Int))).set 2 (.int .u64 (dig (mont (grp k).q.m ((numOf c + ((grp k).q.m - numOf d)) ^ ((grp k).q.m - 2))) 2 : Int))).set 3 (.int .u64 (dig (mont (grp k).q.m ((numOf c + ((grp k).q.m - numOf d)) ^ ((grp k).q.m - 2))) 3 : Int)))
       have hb9 : Below w9.heap.size w9 ((((wz10.setCell ⟨wz3.heap.size, 0, none⟩ (.int .u64 (dig (mont (grp k).q.m ((numOf c + ((grp k).q.m - numOf d)) ^ ((grp k).q.m - 2))) 0 : Int))).setCell ⟨wz3.heap.size, 1, none⟩ (.int .u64 (dig (mont (grp k).q.m ((numOf c + ((grp k).q.m - numOf d)) ^ ((grp k).q.m - 2))) 1 : Int))).setCell ⟨wz3.heap.size, 2, none⟩ (.int .u64 (dig (mont (grp k).q.m ((numOf c + ((grp k).q.m - numOf d)) ^ ((grp k).q.m - 2))) 2 : Int))).setCell ⟨wz3.heap.size, 3, none⟩ (.int .u64 (dig (mont (grp k).q.m ((numOf c + ((grp k).q.m - numOf d)) ^ ((grp k).q.m - 2))) 3 : Int))) := ((((HT.out.setCell (show w9.heap.size ≤ wz3.heap.size from HLE.out) _).setCell (show w9.heap.size ≤ wz3.heap.size from HLE.out) _).setCell (show w9.heap.size ≤ wz3.heap.size from HLE.out) _).setCell (show w9.heap.size ≤ wz3.heap.size from HLE.out) _)
       obtain ⟨wy, hq9⟩ : ∃ W9 : World, ((((wz10.setCell ⟨wz3.heap.size, 0, none⟩ (.int .u64 (dig (mont (grp k).q.m ((numOf c + ((grp k).q.m - numOf d)) ^ ((grp k).q.m - 2))) 0 : Int))).setCell ⟨wz3.heap.size, 1, none⟩ (.int .u64 (dig (mont (grp k).q.m ((numOf c + ((grp k).q.m - numOf d)) ^ ((grp k).q.m - 2))) 1 : Int))).setCell ⟨wz3.heap.size, 2, none⟩ (.int .u64 (dig (mont (grp k).q.m ((numOf c + ((grp k).q.m - numOf d)) ^ ((grp k).q.m - 2))) 2 : Int))).setCell ⟨wz3.heap.size, 3, none⟩ (.int .u64 (dig (mont (grp k).q.m ((numOf c + ((grp k).q.m - numOf d)) ^ ((grp k).q.m - 2))) 3 : Int))) = W9 := ⟨_, rfl⟩
       rw [hq9] at hx9 hb9
       try rw [hq9]
       clear hq9
       refine hK _ _ ⟨⟨⟨wy, hb9⟩, rfl⟩, ?_⟩
       refine tree_end ?_
       clear hK K
       go_wp2_with fail
       go_meet
       case rel => exact ⟨_, rfl, HLE.out, hx9, hb9⟩
     case ta2 =>
      intro K hK
      go_simp
      have hb9 : Below wd.heap.size wd (wd.alloc (Obj.cells #[.int .u64 0, .int .u64 0, .int .u64 0, .int .u64 0] 91)) := (Below.refl _ _).alloc (Nat.le_refl _) _
      have hx9 : Bx (wd.alloc (Obj.cells #[.int .u64 0, .int .u64 0, .int .u64 0, .int .u64 0] 91)) wd.heap.size 91 [.int .u64 0, .int .u64 0, .int .u64 0, .int .u64 0] := Bx.new _ _ _ _ rfl
      obtain ⟨wz12, hq9⟩ : ∃ W9 : World, (wd.alloc (Obj.cells #[.int .u64 0, .int .u64 0, .int .u64 0, .int .u64 0] 91)) = W9 := ⟨_, rfl⟩
      rw [hq9] at hb9 hx9
      try rw [hq9]
      clear hq9
      have HLE := Lib.hid HT.out.size
      replace HT := Lib.hid (below_up HT.out hb9)
      have HX := Lib.hid hx9
      clear hb9 hx9
      refine hK _ _ ⟨⟨⟨wz12, HT.out⟩, rfl⟩, ?_⟩
      clear hK K
      refine tree_a rfl (fun K hK => ?_)
      go_simp
      refine (gSub_any (grp k) OK.out _ (numOf c) (numOf d) HDL.out _ (HG.out.up HT.out)).mono ?_
      rintro e wz13 ⟨rfl, hb9⟩
      replace HX := Lib.hid (HX.out.up hb9)
      replace HT := Lib.hid (below_up HT.out hb9)
      clear hb9
      refine hK _ _ ⟨⟨⟨wz13, HT.out⟩, rfl⟩, ?_⟩
      clear hK K
      refine tree_a rfl (fun K hK => ?_)
      go_simp
      refine (gInv_any (grp k) OK.out _ (numOf c + ((grp k).q.m - numOf d)) _ (HG.out.up HT.out)).mono ?_
      rintro e wz14 ⟨rfl, hb9⟩
      replace HX := Lib.hid (HX.out.up hb9)
      replace HT := Lib.hid (below_up HT.out hb9)
      unfold scV limbV
      clear hb9
      refine hK _ _ ⟨⟨⟨wz14, HT.out⟩, rfl⟩, ?_⟩
      clear hK K
      refine tree_a rfl (fun K hK => ?_)
      have fz_0 := HX.out.frozen 0
      have cz_0 := HX.out.cell (i := 0) rfl
      have fz_1 := HX.out.frozen 1
      have cz_1 := HX.out.cell (i := 1) rfl
      have fz_2 := HX.out.frozen 2
      have cz_2 := HX.out.cell (i := 2) rfl
      have fz_3 := HX.out.frozen 3
      have cz_3 := HX.out.cell (i := 3) rfl
      go_simp
      have hx9 : Bx ((((wz14.setCell ⟨wd.heap.size, 0, none⟩ (.int .u64 (dig (mont (grp k).q.m ((numOf c + ((grp k).q.m - numOf d)) ^ ((grp k).q.m - 2))) 0 : Int))).setCell ⟨wd.heap.size, 1, none⟩ (.int .u64 (dig (mont (grp k).q.m ((numOf c + ((grp k).q.m - numOf d)) ^ ((grp k).q.m - 2))) 1 : Int))).setCell ⟨wd.heap.size, 2, none⟩ (.int .u64 (dig (mont (grp k).q.m ((numOf c + ((grp k).q.m - numOf d)) ^ ((grp k).q.m - 2))) 2 : Int))).setCell ⟨wd.heap.size, 3, none⟩ (.int .u64 (dig (mont (grp k).q.m ((numOf c + ((grp k).q.m - numOf d)) ^ ((grp k).q.m - 2))) 3 : Int))) wd.heap.size 91 [.int .u64 (dig (mont (grp k).q.m ((numOf c + ((grp k).q.m - numOf d)) ^ ((grp k).q.m - 2))) 0 : Int), .int .u64 (dig (mont (grp k).q.m ((numOf c + ((grp k).q.m - numOf d)) ^ ((grp k).q.m - 2))) 1 : Int), .int .u64 (dig (mont (grp k).q.m ((numOf c + ((grp k).q.m - numOf d)) ^ ((grp k).q.m - 2))) 2 : Int), .int .u64 (dig (mont (grp k).q.m ((numOf c + ((grp k).q.m - numOf d)) ^ ((grp k).q.m - 2))) 3 : Int)] := ((((HX.out.set 0 (.int .u64 (dig (mont (grp k).q.m ((numOf c + ((grp k).q.m - numOf d)) ^ ((grp k).q.m - 2))) 0 : Int))).set 1 (.int .u64 (dig (mont (grp k).q.m ((numOf c + ((grp k).q.m - numOf d)) ^ ((grp k).q.m - 2))) 1 : Int))).set 2 (.int .u64 (dig (mont (grp k).q.m ((numOf c + ((grp k).q.m - numOf d)) ^ ((grp k).q.m - 2))) 2 : Int))).set 3 (.int .u64 (dig (mont (grp k).q.m ((numOf c + ((grp k).q.m - numOf d)) ^ ((grp k).q.m - 2))) 3 : Int)))
      have hb9 : Below w9.heap.size w9 ((((wz14.setCell ⟨wd.heap.size, 0, none⟩ (.int .u64 (dig (mont (grp k).q.m ((numOf c + ((grp k).q.m - numOf d)) ^ ((grp k).q.m - 2))) 0 : Int))).setCell ⟨wd.heap.size, 1, none⟩ (.int .u64 (dig (mont (grp k).q.m ((numOf c + ((grp k).q.m - numOf d)) ^ ((grp k).q.m - 2))) 1 : Int))).setCell ⟨wd.heap.size, 2, none⟩ (.int .u64 (dig (mont (grp k).q.m ((numOf c + ((grp k).q.m - numOf d)) ^ ((grp k).q.m - 2))) 2 : Int))).setCell ⟨wd.heap.size, 3, none⟩ (.int .u64 (dig (mont (grp k).q.m ((numOf c + ((grp k).q.m - numOf d)) ^ ((grp k).q.m - 2))) 3 : Int))) := ((((HT.out.setCell (show w9.heap.size ≤ wd.heap.size from HLE.out) _).setCell (show w9.heap.size ≤ wd.heap.size from HLE.out) _).setCell (show w9.heap.size ≤ wd.heap.size from HLE.out) _).setCell (show w9.heap.size ≤ wd.heap.size from HLE.out) _)
      obtain ⟨wy, hq9⟩ : ∃ W9 : World, ((((wz14.setCell ⟨wd.heap.size, 0, none⟩ (.int .u64 (dig (mont (grp k).q.m ((numOf c + ((grp k).q.m - numOf d)) ^ ((grp k).q.m - 2))) 0 : Int))).setCell ⟨wd.heap.size, 1, none⟩ (.int .u64 (dig (mont (grp k).q.m ((numOf c + ((grp k).q.m - numOf d)) ^ ((grp k).q.m - 2))) 1 : Int))).setCell ⟨wd.heap.size, 2, none⟩ (.int .u64 (dig (mont (grp k).q.m ((numOf c + ((grp k).q.m - numOf d)) ^ ((grp k).q.m - 2))) 2 : Int))).setCell ⟨wd.heap.size, 3, none⟩ (.int .u64 (dig (mont (grp k).q.m ((numOf c + ((grp k).q.m - numOf d)) ^ ((grp k).q.m - 2))) 3 : Int))) = W9 := ⟨_, rfl⟩
      rw [hq9] at hx9 hb9
      try rw [hq9]
      clear hq9
      refine hK _ _ ⟨⟨⟨wy, hb9⟩, rfl⟩, ?_⟩
      refine tree_end ?_
      clear hK K
      go_wp2_with fail
      go_meet
      case rel => exact ⟨_, rfl, HLE.out, hx9, hb9⟩
    case rest =>
     clear hcx_0 hcx_1 hcx_2 hcx_3 hcy_0 hcy_1 hcy_2 hcy_3 hbx hby
     obtain ⟨bper, rfl, Hzper, hx9, hb9⟩ := hcut
     replace hb9 := hb9.out
     clear bp_
     replace Hbp := Lib.hid (Hbp.out.up hb9)
     clear bq_
     replace Hbq := Lib.hid (Hbq.out.up hb9)
     replace HG := Lib.hid (HG.out.up hb9)
     replace BX := hbu BX hb9
     replace BK := hbu BK hb9
     replace HB := hbu HB hb9
     replace HZS := sz HZS hb9.size
     clear hb9
     have Hper := hx9
     clear hx9
     replace HZS := sz HZS Hzper.out
     replace HZS := sz HZS Hper.out.lt
     have bp_ := Hbp.out.c2
     have bq_ := Hbq.out.c2
     have per_ := Hper.out.c4
     have BL := Lib.hid (Below.refl wc.heap.size wc)
     go_wp2_with fail
     go_loopw [87, 14] (fun i v wr => ∃ (j : Nat) (g : Option Addr) (c9 : Nat), j ≤ n ∧ i = .int .i64 j ∧ v = .slice g j c9 ∧ Hid (Below wc.heap.size wc wr) ∧ Hid (RowO wc.heap.size wr 9 1 (.slice g j c9) j (((List.zipWith (exF (grp k) (exI (grp k) c d)) l m).take j).map Value.string))) (fun i _ _ => n - (intOf i).toNat)
     case atStart => exact ⟨0, none, 0, Nat.zero_le _, rfl, rfl, BL, RowO.nil⟩
     case round =>
      obtain ⟨j, g, c9, hj, rfl, rfl, HL9, Hr⟩ := hrel
      have hb9 := HL9.out
      clear HL9 bp_
      replace Hbp := Lib.hid (Hbp.out.up hb9)
      clear bq_
      replace Hbq := Lib.hid (Hbq.out.up hb9)
      clear per_
      replace Hper := Lib.hid (Hper.out.up hb9)
      replace HG := Lib.hid (HG.out.up hb9)
      replace BX := hbu BX hb9
      replace BK := hbu BK hb9
      replace BL := hbu BL hb9
      replace HB := hbu HB hb9
      replace HZS := sz HZS hb9.size
      clear hb9
      have bp_ := Hbp.out.c2
      have bq_ := Hbq.out.c2
      have per_ := Hper.out.c4
      by_cases hjn : j < n
      ·have hjl : j < l.length := by rw [HL.out]; exact hjn
       have hjm : j < m.length := by rw [HM.out]; exact hjn
       have hcx := ((HSX.out.up BK.out).elemS (limC_len _) (by omega) (j + 1) (by simpa using hjl)).2
       have hcy := ((HSY.out.up BK.out).elemS (limC_len _) (by omega) (j + 1) (by simpa using hjm)).2
       have hcx_0 := hcx 0 _ rfl
       rw [Nat.add_zero] at hcx_0
       have hcx_1 := hcx 1 _ rfl
       have hcx_2 := hcx 2 _ rfl
       have hcx_3 := hcx 3 _ rfl
       clear hcx
       have hcy_0 := hcy 0 _ rfl
       rw [Nat.add_zero] at hcy_0
       have hcy_1 := hcy 1 _ rfl
       have hcy_2 := hcy 2 _ rfl
       have hcy_3 := hcy 3 _ rfl
       clear hcy
       simp only [List.getElem_cons_succ] at hcx_0 hcx_1 hcx_2 hcx_3 hcy_0 hcy_1 hcy_2 hcy_3
       have hbx := Nat.lt_of_lt_of_le HBXL.out BK.out.size
       have hby := Nat.lt_of_lt_of_le HBYL.out BK.out.size
       have HBN := Lib.hid (HML.out m[j] (List.getElem_mem hjm))
       have HSN := Lib.hid (zip_snoc (exF (grp k) (exI (grp k) c d)) l m j hjl hjm)
       generalize l[j] = a at *
       generalize m[j] = b at *
       go_wp2_with fail
       have HT := Lib.hid (show Below wr.heap.size wr wr.drew from (Below.refl _ _).drew)
       have hl_bp := Hbp.out.lt
       have hl_bq := Hbq.out.lt
       have hl_per := Hper.out.lt
       refine wp_region_tree (fun wq9 => ∃ E : But wr (Value.ownBlock (.slice g j c9)), wq9 = E.w) ((.qs [0, 1, 2, 3, 4, 5, 6, 7, 8, 9, 10, 11, 12, 13, 14] (.a 15 (.a 16 (.a 17 (.a 18 (.a 19 (.qs [20] .done)))))))) (by kernel_rfl) (by kernel_rfl) (fun _ _ d _ _ h => by cases d <;> exact h) ⟨⟨_, ((below_grown HT.out).but _)⟩, rfl⟩ ?_
       have hov_bp := fun (E : But wr (Value.ownBlock (.slice g j c9))) o => E.cell (b := w.heap.size) o hl_bp (by intro e9; have a1 := Hr.out.lt _ e9; have g0 := HZS.out; omega)
       have hov_bq := fun (E : But wr (Value.ownBlock (.slice g j c9))) o => E.cell (b := w.heap.size + 1) o hl_bq (by intro e9; have a1 := Hr.out.lt _ e9; have g0 := HZS.out; omega)
       have hov_per := fun (E : But wr (Value.ownBlock (.slice g j c9))) o => E.cell (b := bper) o hl_per (by intro e9; have a1 := Hr.out.lt _ e9; have g0 := HZS.out; omega)
       have hov_bx := fun (E : But wr (Value.ownBlock (.slice g j c9))) o => E.cell (b := bx) o hbx (by intro e9; have a1 := Hr.out.lt _ e9; have g0 := HZS.out; omega)
       have hov_by_ := fun (E : But wr (Value.ownBlock (.slice g j c9))) o => E.cell (b := by_) o hby (by intro e9; have a1 := Hr.out.lt _ e9; have g0 := HZS.out; omega)
       simp only [Tree.qs]
       repeat (refine tree_q rfl rfl ?_; go_big_quiet_step (fail); refine wpQuiet_nil ?_)
       refine tree_a rfl (fun K hK => ?_)
       go_simp
       refine (gSub_any (grp k) OK.out _ (numOf a) (numOf b) HBN.out _ (HG.out.up HT.out)).mono ?_
       rintro e w10 ⟨rfl, hb9⟩
       replace HT := Lib.hid (below_up HT.out hb9)
       replace HZS := sz HZS (show wr.heap.size ≤ w10.heap.size from HT.out.size)
       clear hb9
       refine hK _ _ ⟨⟨⟨w10, ((below_grown HT.out).but _)⟩, rfl⟩, ?_⟩
       clear hK K
       repeat (refine tree_q rfl rfl ?_; go_big_quiet_step (fail); refine wpQuiet_nil ?_)
       refine tree_a rfl (fun K hK => ?_)
       go_simp
       refine (gMul_any (grp k) OK.out _ ((numOf c + ((grp k).q.m - numOf d)) ^ ((grp k).q.m - 2)) (numOf a + ((grp k).q.m - numOf b)) _ (HG.out.up HT.out)).mono ?_
       rintro e w11 ⟨rfl, hb9⟩
       replace HT := Lib.hid (below_up HT.out hb9)
       replace HZS := sz HZS (show wr.heap.size ≤ w11.heap.size from HT.out.size)
       clear hb9
       refine hK _ _ ⟨⟨⟨w11, ((below_grown HT.out).but _)⟩, rfl⟩, ?_⟩
       clear hK K
       repeat (refine tree_q rfl rfl ?_; go_big_quiet_step (fail); refine wpQuiet_nil ?_)
       refine tree_a rfl (fun K hK => ?_)
       go_simp
       refine (gPut_any (grp k) OK.out _ _ _ (HG.out.up HT.out)).mono ?_
       rintro e w12 ⟨rfl, hb9⟩
       replace HT := Lib.hid (below_up HT.out hb9)
       replace HZS := sz HZS (show wr.heap.size ≤ w12.heap.size from HT.out.size)
       clear hb9
       rw [ex_eq]
       refine hK _ _ ⟨⟨⟨w12, ((below_grown HT.out).but _)⟩, rfl⟩, ?_⟩
       clear hK K
       repeat (refine tree_q rfl rfl ?_; go_big_quiet_step (fail); refine wpQuiet_nil ?_)
       clear hov_bp hl_bp hov_bq hl_bq hov_per hl_per hov_bx hov_by_
       refine tree_a rfl (fun K hK => ?_)
       go_simp
       refine hK _ _ ⟨⟨⟨_, (below_grown (HT.out.alloc HT.out.size _)).but _⟩, rfl⟩, ?_⟩
       clear hK K
       obtain ⟨i9, hi9, hz90, hz91, hz92⟩ := info_parts infoStr
       have HG1 := Lib.hid ((below_grown HT.out).but (Value.ownBlock (.slice g j c9)))
       clear bp_
       replace Hbp := Lib.hid (Hbp.out.up HT.out)
       clear bq_
       replace Hbq := Lib.hid (Hbq.out.up HT.out)
       clear per_
       replace Hper := Lib.hid (Hper.out.up HT.out)
       replace HG := Lib.hid (HG.out.up HT.out)
       replace Hr := Lib.hid (Hr.out.up HT.out)
       replace BX := hbu BX HT.out
       replace BK := hbu BK HT.out
       replace BL := hbu BL HT.out
       replace HB := hbu HB HT.out
       replace HZS := sz HZS HT.out.size
       refine tree_a rfl (fun K hK => ?_)
       refine step_pushR (wc.heap.size) w12 (by have g0 := HZS.out; omega) rfl _ _ 22 rfl 9 i9 _ 1 16 Try.underlying22 hi9 hz90 hz91 hz92 rfl (by omega) ((.slice g j c9)) (j) ((((List.zipWith (exF (grp k) (exI (grp k) c d)) l m).take j).map Value.string)) rfl Hr.out _ _ _ rfl rfl rfl (by simp [Value.oneCell']) (by omega) (by unfold maxLen; omega) ?_
       intro g13 c13 w13 hown9 hg9
       have HGR := Lib.hid (HG1.out.trans hg9)
       have hb9 := Below.grown HB.out hg9 (by have g0 := HZS.out; omega) (fun q hq => Nat.le_trans (show w.heap.size ≤ wc.heap.size by have g0 := HZS.out; omega) (Hr.out.lt q hq).1)
       replace Hbp := Lib.hid (Hbp.out.grown hg9 (fun e9 => by have a1 := Hr.out.lt _ e9; have g0 := HZS.out; omega))
       replace Hbq := Lib.hid (Hbq.out.grown hg9 (fun e9 => by have a1 := Hr.out.lt _ e9; have g0 := HZS.out; omega))
       replace Hper := Lib.hid (Hper.out.grown hg9 (fun e9 => by have a1 := Hr.out.lt _ e9; have g0 := HZS.out; omega))
       replace HG := Lib.hid (HG.out.grown hg9 (fun e9 => by have a1 := Hr.out.lt _ e9; have g0 := HZS.out; omega))
       replace BX := Lib.hid (Below.grown BX.out hg9 (by have g0 := HZS.out; omega) (fun q hq => Nat.le_trans (show w5.heap.size ≤ wc.heap.size by have g0 := HZS.out; omega) (Hr.out.lt q hq).1))
       replace BK := Lib.hid (Below.grown BK.out hg9 (by have g0 := HZS.out; omega) (fun q hq => Nat.le_trans (show w8.heap.size ≤ wc.heap.size by have g0 := HZS.out; omega) (Hr.out.lt q hq).1))
       replace BL := Lib.hid (Below.grown BL.out hg9 (by have g0 := HZS.out; omega) (fun q hq => Nat.le_trans (show wc.heap.size ≤ wc.heap.size by have g0 := HZS.out; omega) (Hr.out.lt q hq).1))
       replace HZS := sz HZS hg9.size
       clear Hr HB HT HG1
       have Hr := Lib.hid hown9
       have HB := Lib.hid hb9
       clear hb9 hown9 hg9 hi9 hz90 hz91 hz92
       refine hK _ _ ⟨⟨⟨w13, HGR.out⟩, rfl⟩, ?_⟩
       clear hK K HGR
       have bp_ := Hbp.out.c2
       have bq_ := Hbq.out.c2
       have per_ := Hper.out.c4
       try simp only [Act.put, List.setIfInBounds_toArray, List.set_cons_succ, List.set_cons_zero]
       repeat (refine tree_q rfl rfl ?_; go_big_quiet_step (fail); refine wpQuiet_nil ?_)
       refine tree_end ?_
       go_wp2_with fail
       go_roundw
       case rel => exact ⟨j + 1, _, _, by omega, by go_num, rfl, BL, Hr.out.eq HSN.out.symm rfl⟩
       case measure => simp [intOf]; omega
      ·have hjn' : j = n := by omega
       subst hjn'
       have HLN := Lib.hid (zip_len (exF (grp k) (exI (grp k) c d)) l m j HL.out HM.out)
       have HT := Lib.hid (zip_take (exF (grp k) (exI (grp k) c d)) l m j HL.out HM.out)
       rw [HT.out] at Hr
       obtain ⟨g0, rfl⟩ := RowO.someG Hr.out hn0
       go_wp2_with fail
       go_ret2
       exact ⟨HB.out, _, c9, by rw [HLN.out]; rfl, Hr.out.sl, by rw [HLN.out]; simp [hn0], by simp⟩
   ·obtain ⟨rfl, rfl⟩ := HR9.out rfl rfl
    clear HR0 HR6 HR9
    go_wp2_with fail
    go_ret2
    exact extR_none 9 HB.out
end Go.Proofs.Ytipgjookfdkciaa
namespace Go.Proofs.Ytipgjookfdkciaa
open Go.RowKit
def exEk (k : Int) (p q : PrfA) : Int := if 1 ≤ k ∧ k ≤ 3 then exE (grp k.toNat) p q else 1
def exLk (k : Int) (p q : PrfA) : List ByteArray := if 1 ≤ k ∧ k ≤ 3 then exL (grp k.toNat) p q else []
theorem isSc_numOf {G : GP} {s t : ByteArray} (h : isSc G.q.m G.size s = true) (g : isSc G.q.m G.size t = true) (e : numOf s = numOf t) : s = t := numOf_inj (by
 unfold isSc at h g
 simp only [Bool.and_eq_true, decide_eq_true_eq] at h g
 rw [h.1, g.1]) e
theorem isSc_lt1 {G : GP} {s : ByteArray} (h : isSc G.q.m G.size s = true) : numOf s < G.q.m := by
 unfold isSc at h
 simp only [Bool.and_eq_true, decide_eq_true_eq] at h
 exact h.2
theorem ext_any (k : Int) (p q : PrfA) (hp : p.l.length ≤ 8796093022206) (w : World) (hP : p.At w) (hQ : q.At w) : Calls Try.prog 15 #[.int .i64 k, p.val, q.val] w (ExtR (exEk k p q) (exLk k p q) w) := by
 by_cases hk : 1 ≤ k ∧ k ≤ 3
 ·unfold exEk exLk
  rw [if_pos hk, if_pos hk]
  obtain ⟨j, rfl⟩ : ∃ j : Nat, k = j := ⟨k.toNat, by omega⟩
  simp only [Int.toNat_natCast]
  have h1 : 1 ≤ j := by omega
  have h3 : j ≤ 3 := by omega
  have ok := grp_ok j h1 h3
  by_cases hf : p.l.length = q.l.length ∧ p.l.length ≠ 0
  ·have hee : exE (grp j) p q = if ((p.c :: p.l).all (isSc (grp j).q.m (grp j).size) && (q.c :: q.l).all (isSc (grp j).q.m (grp j).size)) = true then (if p.c = q.c then 9 else 0) else 6 := by unfold exE; rw [if_pos hf]
   have h := ext_body j h1 h3 p.c q.c p.l q.l p.l.length rfl hf.1.symm hf.2 (by omega) p.aa q.aa p.ca q.ca _ _ (decide (mont (grp j).q.m (numOf p.c) = mont (grp j).q.m (numOf q.c))) rfl rfl (exE (grp j) p q) (exL (grp j) p q) (fun _ _ => rfl) ?_ ?_ ?_ w hP.s hP.n hQ.s hQ.n
   ·unfold PrfA.val
    rwa [← hf.1]
   ·intro h9
    rw [h9, if_neg (by decide)] at hee
    exact ⟨hee, by unfold exL; rw [hee, if_neg (by decide)]⟩
   ·intro h9 h8
    rw [h9, if_pos rfl] at hee
    have h7 := (Bool.and_eq_true _ _).mp h9
    have e1 : p.c = q.c := isSc_numOf (List.all_eq_true.1 h7.1 _ (by simp)) (List.all_eq_true.1 h7.2 _ (by simp)) (mont_inj ok.q.low (isSc_lt1 (List.all_eq_true.1 h7.1 _ (by simp))) (isSc_lt1 (List.all_eq_true.1 h7.2 _ (by simp))) (of_decide_eq_true h8))
    rw [if_pos e1] at hee
    exact ⟨hee, by unfold exL; rw [hee, if_neg (by decide)]⟩
   ·intro h9 h8
    rw [h9, if_pos rfl] at hee
    have e1 : ¬ p.c = q.c := fun e => of_decide_eq_false h8 (by rw [e])
    rw [if_neg e1] at hee
    exact ⟨hee, by unfold exL; rw [hee, if_pos rfl]⟩
  ·have hee : exE (grp j) p q = 2 := by unfold exE; rw [if_neg hf]
   have hll : exL (grp j) p q = [] := by unfold exL; rw [hee, if_neg (by decide)]
   rw [hee, hll]
   exact ext_form j h1 h3 p q hf w
 ·unfold exEk exLk
  rw [if_neg hk, if_neg hk]
  exact ext_none k hk p q w
theorem RowsAt.cell {w0 w : World} {a : Option Addr} {l : List RowA} (h : RowsAt w0 a l) (hb : Below w0.heap.size w0 w) (i : Nat) (hi : i < l.length) :
  ∃ b off, a = some ⟨b, off, none⟩ ∧ b < w0.heap.size ∧ b < w.heap.size ∧ w.cell? ⟨b, off + i, none⟩ = some (.slice l[i].a l[i].l.length l[i].c) := by
 obtain ⟨b, off, e, h1, h2, h3⟩ := h.s.elemUp hb RowA.cells_len (by omega) i hi
 exact ⟨b, off, e, h1, h2, by have := h3 0 _ rfl; rwa [Nat.mul_one, Nat.add_zero] at this⟩
end Go.Proofs.Ytipgjookfdkciaa
namespace Go.Proofs.Ytipgjookfdkciaa
open Go.RowKit
theorem bx_made (w : World) (e : TypeId) (z : Value) (n : Nat) : Bx (w.alloc (.cells (madeCells #[z] n) e)) w.heap.size e (List.replicate n z) := by
 have h : madeCells #[z] n = (List.replicate n z).toArray := by
  apply Array.ext
  ·simp [madeCells]
  ·intro i h1 h2
   simp [madeCells, Nat.mod_one]
 rw [h]
 exact Bx.new w e _ _ rfl
theorem mid_get {xs ys : List Value} {v : Value} {j : Nat} (h : xs.length = j) : (xs ++ v :: ys)[j]? = some v := by subst h; simp
theorem mid_set {xs ys : List Value} {v u : Value} {j : Nat} (h : xs.length = j) : (xs ++ v :: ys).set j u = xs ++ u :: ys := by subst h; simp
theorem rows_len (ro : List RowA) : (ro.flatMap RowA.cells).length = ro.length := by rw [flat_len RowA.cells 1 RowA.cells_len, Nat.mul_one]
def eachL (G : GP) (val : Nat → Nat → Nat) (i m : Nat) : List ByteArray := (List.range m).map fun t => textS (lowN G (val i t)) G.size
def RowsF (L : List (List ByteArray)) (w : World) (e : Ending) (w' : World) : Prop :=
 Below w.heap.size w w' ∧ ∃ a c ro, e = .returned (.slice a L.length c) ∧ ro.map RowA.l = L ∧ RowsAt w' a ro ∧ (∀ r ∈ ro, r.Ok) ∧ (∀ x, a = some x → w.heap.size ≤ x.block) ∧ ∀ r ∈ ro, ∀ x, r.a = some x → w.heap.size ≤ x.block
theorem fresh_le {n m : Nat} {a : Option Addr} {ro : List RowA} (h : (∀ r ∈ ro, r.Ok) ∧ (∀ x, a = some x → m ≤ x.block) ∧ ∀ r ∈ ro, ∀ x, r.a = some x → m ≤ x.block) (hn : n ≤ m) : (∀ r ∈ ro, r.Ok) ∧ (∀ x, a = some x → n ≤ x.block) ∧ ∀ r ∈ ro, ∀ x, r.a = some x → n ≤ x.block :=
 ⟨h.1, fun x hx => Nat.le_trans hn (h.2.1 x hx), fun r hr x hx => Nat.le_trans hn (h.2.2 r hr x hx)⟩
def eachA (G : GP) (val : Nat → Nat → Nat) (ms : List Nat) (j : Nat) : List (List ByteArray) := (List.range j).map fun i => eachL G val i (ms.getD i 0)
theorem eachA_snoc (G : GP) (val : Nat → Nat → Nat) (ms : List Nat) (j : Nat) : eachA G val ms (j + 1) = eachA G val ms j ++ [eachL G val j (ms.getD j 0)] := by unfold eachA; rw [List.range_succ, List.map_append]; rfl
theorem eachA_len (G : GP) (val : Nat → Nat → Nat) (ms : List Nat) (j : Nat) : (eachA G val ms j).length = j := by unfold eachA; simp
theorem eachL_snoc (G : GP) (val : Nat → Nat → Nat) (i t : Nat) : (eachL G val i (t + 1)).map Value.string = (eachL G val i t).map Value.string ++ [.string (textS (lowN G (val i t)) G.size)] := by unfold eachL; rw [List.range_succ, List.map_append, List.map_append]; rfl
theorem eachL_len (G : GP) (val : Nat → Nat → Nat) (i t : Nat) : (eachL G val i t).length = t := by unfold eachL; simp
def RowsNew (n : Nat) (w : World) (ro : List RowA) : Prop := ∀ r ∈ ro, RowA.At w r ∧ (∀ x, r.a = some x → n ≤ x.block) ∧ r.Ok
theorem RowsNew.kept {n b : Nat} {w w1 : World} {ro : List RowA} (h : RowsNew n w ro) (hk : Kept (fun q => q = b) w w1) (hb : b < n) : RowsNew n w1 ro := fun r hr =>
 let ⟨h1, h2, h3⟩ := h r hr
 ⟨Sl.kept h1 hk (fun x hx e => by have := h2 x hx; have e : x.block = b := e; omega), h2, h3⟩
theorem infoStrs : (Try.prog.info? 22).map (fun i => (i.zero, i.size, i.bytes)) = some (some (.slice none 0 0), 1, 24) := by kernel_rfl
theorem RowO.none_cap {N n c k size : Nat} {w : World} {e : TypeId} {a : Option Addr} {xs : List Value} (h : RowO N w e size (.slice a k c) n xs) (hx : a = none) : c = 0 := by
 rcases h.2 with ⟨hv, _⟩ | ⟨g, cap, cur, hv, hN, _⟩
 ·simp only [Value.slice.injEq] at hv
  exact hv.2.2
 ·simp only [Value.slice.injEq] at hv
  rw [hv.1] at hx
  cases hx
theorem RowO.rowOk {N n c k : Nat} {w : World} {e : TypeId} {a : Option Addr} {L : List ByteArray} (h : RowO N w e 1 (.slice a k c) n (L.map Value.string)) : RowA.Ok ⟨a, c, L⟩ := by
 have hl := h.1
 rw [List.length_map, Nat.mul_one] at hl
 refine ⟨fun hx => RowO.none_cap h hx, ?_⟩
 show L.length ≤ c
 rcases h.2 with ⟨hv, h0⟩ | ⟨g, cap, cur, hv, hN, _, hc, _⟩
 ·omega
 ·simp only [Value.slice.injEq] at hv
  omega
theorem eachFirst (G : GP) (ok : G.Ok) (gb : Nat) (rs : List ClaimR) (n : Nat) (hrs : rs.length = n) (hn : n ≤ 64) (ms : List Nat) (hms : rs.map (fun r => r.k.bases.length) = ms) (hm8 : ∀ r ∈ rs, r.k.bases.length ≤ 8) (a : Option Addr) (c : Nat) (p1 p2 : Value) (val : Nat → Nat → Nat) (w : World) (hG : GroupAt w gb G) (hS : SetAt G w a rs)
  (hcall : ∀ w1, Below w.heap.size w w1 → ∀ i t : Nat, i < n → t < ms.getD i 0 → Calls Try.prog 160 #[.int .i64 (i : Int), .int .i64 (t : Int), p1, p2] w1 (Gives (elV G (val i t)) w1)) :
  Calls Try.prog 159 #[.agg #[.pointer (some ⟨gb, 0, none⟩), .slice a n c], .func (.func 160) #[] #[p1, p2]] w (RowsF (eachA G val ms n) w) := by
 have HRS := Lib.hid hrs
 have HMS := Lib.hid hms
 have HM8 := Lib.hid hm8
 have HG := Lib.hid hG
 have HGB := Lib.hid hG.lt
 have OK := Lib.hid ok
 have HS := Lib.hid hS
 have HCALL := Lib.hid hcall
 clear hrs hms hm8 hG ok hS hcall
 have hmk := Go.run_make_row' (P := Try.prog) 25 22 (.slice none 0 0) 24 Try.underlying25 infoStrs rfl .i64 .i64 n (by omega) (by omega)
 go_enter Try.func159, Try.ntmps159
 have HZS := HGB
 go_upto_region 1 with fail
 obtain ⟨w1, hq1, hb9, hz9, Hbs⟩ := new1 w 157 [.pointer (some ⟨gb, 0, none⟩), .slice a n c]
 rw [hq1]
 clear hq1
 replace HG := Lib.hid (HG.out.up hb9)
 have HB := Lib.hid hb9
 replace HZS := sz HZS hz9.out
 clear hb9 hz9
 have bs_ := Hbs.out.c2
 go_upto_region 2 with fail
 have hmb := bx_made w1 22 (.slice none 0 0) n
 have hb9 : Below w1.heap.size w1 (w1.alloc (.cells (madeCells #[.slice none 0 0] n) 22)) := (Below.refl _ _).alloc (Nat.le_refl _) _
 have hz9 : (w1.alloc (.cells (madeCells #[.slice none 0 0] n) 22)).heap.size = w1.heap.size + 1 := by simp
 obtain ⟨wm, hq9⟩ : ∃ W9 : World, (w1.alloc (.cells (madeCells #[.slice none 0 0] n) 22)) = W9 := ⟨_, rfl⟩
 rw [hq9] at hmb hb9 hz9 ⊢
 clear hq9 hmk
 have HZM := Lib.hid hz9
 have HZ9 := Lib.hid HB.out.size
 clear hz9
 replace HZS := sz HZS HZM.out
 clear bs_
 replace Hbs := Lib.hid (Hbs.out.up hb9)
 replace HG := Lib.hid (HG.out.up hb9)
 replace HB := hbu HB hb9
 replace HZS := sz HZS hb9.size
 clear hb9
 have bs_ := Hbs.out.c2
 have Hob := Lib.hid hmb
 clear hmb
 have HK := Lib.hid (Kept.refl (fun q9 => q9 = w1.heap.size) wm)
 go_wp2_with fail
 go_loopw [15] (fun i wr => ∃ (j : Nat) (ro : List RowA), j ≤ n ∧ i = .int .i64 j ∧ Hid (ro.length = j) ∧ Hid (ro.map RowA.l = eachA G val ms j) ∧ Hid (Kept (fun q => q = w1.heap.size) wm wr) ∧ Hid (Bx wr w1.heap.size 22 (ro.flatMap RowA.cells ++ List.replicate (n - j) (.slice none 0 0))) ∧ Hid (RowsNew wm.heap.size wr ro)) (fun i _ => n - (intOf i).toNat)
 case atStart => exact ⟨0, [], Nat.zero_le _, rfl, rfl, rfl, HK, by simpa using Hob, fun _ h => by cases h⟩
 case round =>
  obtain ⟨j, ro, hj, rfl, HRL, HRM, HK, Hob9, HRN⟩ := hrel
  have hg9 := HK.out
  clear bs_ Hob
  replace Hbs := Lib.hid (Hbs.out.keptP hg9 (show ¬ (_ = w1.heap.size) by have g0 := HZS.out; omega))
  replace HG := Lib.hid (HG.out.keptP hg9 (show ¬ (_ = w1.heap.size) by have g0 := HZS.out; omega))
  replace HB := Lib.hid (Below.keptP HB.out hg9 (by have g0 := HZS.out; omega) (fun q9 h9 => (show w.heap.size ≤ _ by subst h9; have g0 := HZS.out; omega)))
  replace HZS := sz HZS (show wm.heap.size ≤ wr.heap.size from hg9.size)
  clear hg9
  have bs_ := Hbs.out.c2
  have Hob := Hob9
  clear Hob9
  by_cases hjn : j < n
  ·have hjr : j < rs.length := by rw [HRS.out]; exact hjn
   obtain ⟨ba, oa, rfl, hba0⟩ := HS.out.at j hjr
   have HCC := Lib.hid (fun w1 (hb : Below w.heap.size w w1) => HS.out.cells hb j hjr)
   have HMJ := Lib.hid (show rs[j].k.bases.length = ms.getD j 0 by rw [← HMS.out]; simp [List.getD, hjr])
   have HM1 := Lib.hid (HM8.out _ (List.getElem_mem hjr))
   generalize rs[j] = r at *
   obtain ⟨m, hm⟩ : ∃ m, ms.getD j 0 = m := ⟨_, rfl⟩
   rw [hm] at HMJ
   have HMM := Lib.hid hm
   have hm8 : m ≤ 8 := by rw [← HMJ.out]; exact HM1.out
   rw [show n - j = (n - j - 1) + 1 by omega, List.replicate_succ] at Hob
   clear hm
   obtain ⟨wo, rfl⟩ : ∃ wo : World, wo = wr := ⟨_, rfl⟩
   have hc := HCC.out _ HB.out
   have hc_1 := hc 1 _ rfl
   rw [HMJ.out] at hc_1
   clear hc
   have HRN2 := HRN
   have HK2 := Lib.hid (Kept.refl (fun q9 => q9 = w1.heap.size) wo)
   have hba9 := hba0
   go_wp2_with fail
   clear hc_1 hba9
   go_loopw [25] (fun i wr => ∃ (t : Nat) (g : Option Addr) (c9 : Nat), t ≤ m ∧ i = .int .i64 t ∧ Hid (Kept (fun q => q = w1.heap.size) wo wr) ∧ Hid (Bx wr w1.heap.size 22 (ro.flatMap RowA.cells ++ (.slice g t c9) :: List.replicate (n - j - 1) (.slice none 0 0))) ∧ Hid (RowO wo.heap.size wr 9 1 (.slice g t c9) t ((eachL G val j t).map Value.string))) (fun i _ => m - (intOf i).toNat)
   case atStart => exact ⟨0, none, 0, Nat.zero_le _, rfl, HK2, Hob, RowO.nil⟩
   case round =>
    obtain ⟨t, g, c9, ht, rfl, HK2, Hob9, Hr⟩ := hrel
    have hg9 := HK2.out
    clear bs_ Hob
    replace Hbs := Lib.hid (Hbs.out.keptP hg9 (show ¬ (_ = w1.heap.size) by have g0 := HZS.out; omega))
    replace HG := Lib.hid (HG.out.keptP hg9 (show ¬ (_ = w1.heap.size) by have g0 := HZS.out; omega))
    replace HB := Lib.hid (Below.keptP HB.out hg9 (by have g0 := HZS.out; omega) (fun q9 h9 => (show w.heap.size ≤ _ by subst h9; have g0 := HZS.out; omega)))
    replace HZS := sz HZS (show wo.heap.size ≤ wr.heap.size from hg9.size)
    clear hg9
    have bs_ := Hbs.out.c2
    have Hob := Hob9
    clear Hob9
    by_cases htm : t < m
    ·have hob : w1.heap.size < wr.heap.size := Hob.out.lt
     have hoc : wr.cell? ⟨w1.heap.size, j, none⟩ = some (.slice g t c9) := Hob.out.cell (mid_get (by rw [rows_len, HRL.out]))
     go_wp2_with fail
     have HT := Lib.hid (show Below wr.heap.size wr wr.drew from (Below.refl _ _).drew)
     have hl_bs := Hbs.out.lt
     refine wp_region_treek (fun wq9 => ∃ E : But wr (Value.ownBlock (.slice g t c9)), wq9 = E.w) 16 ((.qs [0, 1, 2, 3, 4] (.e 5 [] (.qs [6] (.e 7 [] (.qs [8, 9, 10] (.a 11 (.a 12 (.a 13 (.a 14 (.qs [15] (.a 16 .done)))))))))))) (by kernel_rfl) (by kernel_rfl) (fun _ _ d _ _ h => by cases d <;> exact h) ⟨⟨_, ((below_grown HT.out).but _)⟩, rfl⟩ ?_
     have hov_bs := fun (E : But wr (Value.ownBlock (.slice g t c9))) o => E.cell (b := w.heap.size) o hl_bs (by intro e9; have a1 := Hr.out.lt _ e9; have g0 := HZS.out; omega)
     have hov_w1_heap_size := fun (E : But wr (Value.ownBlock (.slice g t c9))) o => E.cell (b := w1.heap.size) o hob (by intro e9; have a1 := Hr.out.lt _ e9; have g0 := HZS.out; omega)
     simp only [TreeK.qs]
     repeat (first | (refine treek_q rfl rfl ?_; go_big_quiet_step (fail); refine wpQuiet_nil ?_) | (refine treek_e rfl rfl ?_; go_big_quiet_step (fail); refine wpQuiet_nil ?_))
     refine treek_a rfl (fun K hK => ?_)
     go_simp
     refine (HCALL.out _ (below_up HB.out HT.out) j t hjn (by rw [HMM.out]; exact htm)).mono ?_
     rintro e w2 ⟨rfl, hb9⟩
     replace HT := Lib.hid (below_up HT.out hb9)
     replace HZS := sz HZS (show wr.heap.size ≤ w2.heap.size from HT.out.size)
     clear hb9
     refine hK _ _ ⟨fun _ => ⟨⟨w2, ((below_grown HT.out).but _)⟩, rfl⟩, ?_⟩
     clear hK K
     repeat (first | (refine treek_q rfl rfl ?_; go_big_quiet_step (fail); refine wpQuiet_nil ?_) | (refine treek_e rfl rfl ?_; go_big_quiet_step (fail); refine wpQuiet_nil ?_))
     refine treek_a rfl (fun K hK => ?_)
     go_simp
     refine (gText_any G OK.out gb (val j t) _ (HG.out.up HT.out)).mono ?_
     rintro e w3 ⟨rfl, hb9⟩
     replace HT := Lib.hid (below_up HT.out hb9)
     replace HZS := sz HZS (show wr.heap.size ≤ w3.heap.size from HT.out.size)
     clear hb9
     refine hK _ _ ⟨fun _ => ⟨⟨w3, ((below_grown HT.out).but _)⟩, rfl⟩, ?_⟩
     clear hK K
     repeat (first | (refine treek_q rfl rfl ?_; go_big_quiet_step (fail); refine wpQuiet_nil ?_) | (refine treek_e rfl rfl ?_; go_big_quiet_step (fail); refine wpQuiet_nil ?_))
     clear hoc hob hov_bs hl_bs hov_w1_heap_size
     refine treek_a rfl (fun K hK => ?_)
     go_simp
     refine hK _ _ ⟨fun _ => ⟨⟨_, (below_grown (HT.out.alloc HT.out.size _)).but _⟩, rfl⟩, ?_⟩
     clear hK K
     obtain ⟨i9, hi9, hz90, hz91, hz92⟩ := info_parts infoStr
     have HG1 := Lib.hid ((below_grown HT.out).but (Value.ownBlock (.slice g t c9)))
     clear bs_
     replace Hbs := Lib.hid (Hbs.out.up HT.out)
     replace Hob := Lib.hid (Hob.out.up HT.out)
     replace HG := Lib.hid (HG.out.up HT.out)
     replace Hr := Lib.hid (Hr.out.up HT.out)
     replace HK2 := Lib.hid (Kept.up HK2.out HT.out)
     replace HB := hbu HB HT.out
     replace HZS := sz HZS HT.out.size
     refine treek_a rfl (fun K hK => ?_)
     refine step_pushF (wo.heap.size) w3 (by have g0 := HZS.out; omega) rfl _ _ 22 rfl 9 i9 _ 1 16 Try.underlying22 hi9 hz90 hz91 hz92 rfl (by omega) ((.slice g t c9)) (t) (((eachL G val j t).map Value.string)) rfl Hr.out _ _ _ rfl rfl rfl (by simp [Value.oneCell']) (by omega) (by unfold maxLen; omega) ?_
     intro g4 c4 w4 hown9 hg9 hf9
     have HF9 := Lib.hid hf9
     clear hf9
     have HGR := Lib.hid (HG1.out.trans hg9)
     have hb9 := Below.grown HB.out hg9 (by have g0 := HZS.out; omega) (fun q hq => Nat.le_trans (show w.heap.size ≤ wo.heap.size by have g0 := HZS.out; omega) (Hr.out.lt q hq).1)
     replace Hbs := Lib.hid (Hbs.out.grown hg9 (fun e9 => by have a1 := Hr.out.lt _ e9; have g0 := HZS.out; omega))
     replace Hob := Lib.hid (Hob.out.grown hg9 (fun e9 => by have a1 := Hr.out.lt _ e9; have g0 := HZS.out; omega))
     replace HG := Lib.hid (HG.out.grown hg9 (fun e9 => by have a1 := Hr.out.lt _ e9; have g0 := HZS.out; omega))
     replace HK2 := Lib.hid (Kept.grown HK2.out hg9 (fun q hq => Or.inl (Nat.le_trans (show wo.heap.size ≤ wo.heap.size by have g0 := HZS.out; omega) (Hr.out.lt q hq).1)))
     replace HZS := sz HZS hg9.size
     clear Hr HB HT HG1
     have Hr := Lib.hid hown9
     have HB := Lib.hid hb9
     clear hb9 hown9 hg9 hi9 hz90 hz91 hz92
     refine hK _ _ ⟨fun _ => ⟨⟨w4, HGR.out⟩, rfl⟩, ?_⟩
     clear hK K HGR
     try simp only [Act.put, List.setIfInBounds_toArray, List.set_cons_succ, List.set_cons_zero]
     repeat (first | (refine treek_q rfl rfl ?_; go_big_quiet_step (fail); refine wpQuiet_nil ?_) | (refine treek_e rfl rfl ?_; go_big_quiet_step (fail); refine wpQuiet_nil ?_))
     replace HZS := sz HZS (Hr.out.lt g4 rfl).1
     have hoc := Hob.out.cell (mid_get (v := .slice g t c9) (ys := List.replicate (n - j - 1) (.slice none 0 0)) (show (ro.flatMap RowA.cells).length = j by rw [rows_len, HRL.out]))
     have bs_ := Hbs.out.c2
     have f5_ob := Hob.out.frozen
     have o5_bs_ := bs_; clear bs_
     obtain ⟨w5, hq5, hg9, hz9, hx9⟩ := put1 Hob j (.slice (some ⟨g4, 0, none⟩) (t + 1) c4) _ rfl
     replace Hbs := Lib.hid (Hbs.out.grown hg9.out (sne (by have g0 := HZS.out; omega)))
     replace HG := Lib.hid (HG.out.grown hg9.out (sne (by have g0 := HZS.out; omega)))
     replace Hr := Lib.hid (RowO.grown Hr.out hg9.out (fun q9 e8 e9 => by have a1 := Hr.out.lt _ e8; have a0 := Option.some.inj e9; have g0 := HZS.out; omega))
     replace HK2 := Lib.hid (Kept.grown HK2.out hg9.out (fun q9 e9 => by obtain rfl := Option.some.inj e9; exact Or.inr (rfl)))
     replace HB := hbg HB hg9 (by have g0 := HZS.out; omega)
     replace HZS := sz HZS hz9.out
     replace Hob := hx9
     clear hx9 hg9 hz9
     have bs_ := Hbs.out.c2
     refine treek_a rfl (fun K hK => ?_)
     go_simp
     try rw [hq5]
     refine hK _ _ ⟨fun h9 => absurd rfl h9, ?_⟩
     clear hK K hq5 o5_bs_ f5_ob hoc
     refine treek_end ?_
     go_wp2_with fail
     go_roundw
     case rel => exact ⟨t + 1, _, _, by omega, by go_num, HK2, Lib.hid (by have h9 := Hob.out; rwa [mid_set (by rw [rows_len, HRL.out])] at h9), Hr.out.eq (eachL_snoc G val j t).symm rfl⟩
     case measure => simp [intOf]; omega
    ·have htm' : t = m := by omega
     subst htm'
     have HROW := Lib.hid (show RowsNew wm.heap.size wr (ro ++ [⟨g, c9, eachL G val j t⟩]) from fun x hx => by
      rcases List.mem_append.1 hx with hx | hx
      ·exact (HRN.out.kept HK2.out (by have a0 := HZM.out; omega)) x hx
      ·obtain rfl := List.mem_singleton.1 hx
       exact ⟨Hr.out.sl, fun y hy => Nat.le_trans (by have a1 := HZS.out; omega) (RowO.own_le Hr.out hy), RowO.rowOk Hr.out⟩)
     go_wp2_with fail
     go_roundw
     case rel => exact ⟨j + 1, ro ++ [⟨g, c9, eachL G val j t⟩], by omega, by go_num, Lib.hid (by rw [List.length_append, HRL.out]; rfl), Lib.hid (by rw [List.map_append, HRM.out, eachA_snoc, HMM.out]; rfl), Lib.hid (HK.out.trans HK2.out), Lib.hid (by rw [List.flatMap_append]; have h9 := Hob.out; simpa [RowA.cells, eachL_len, Nat.sub_sub] using h9), HROW⟩
     case measure => simp [intOf]; omega
  ·have hjn' : j = n := by omega
   subst hjn'
   have hsl : Sl wr wr.heap.size (some ⟨w1.heap.size, 0, none⟩) (ro.flatMap RowA.cells) := by
    have h9 := Hob.out
    rw [Nat.sub_self, List.replicate_zero, List.append_nil] at h9
    simpa using Sl.of_block h9
   have HSL := Lib.hid hsl
   clear hsl
   go_wp2_with fail
   go_ret
   exact ⟨HB.out, _, j, ro, by rw [eachA_len]; rfl, HRM.out, ⟨HSL.out, fun r hr => (HRN.out r hr).1⟩, fun r hr => (HRN.out r hr).2.2, fun x hx => by cases hx; show w.heap.size ≤ w1.heap.size; have a0 := HZ9.out; omega, fun r hr x hx => Nat.le_trans (show w.heap.size ≤ wm.heap.size by have a0 := HZ9.out; have a1 := HZM.out; omega) ((HRN.out r hr).2.1 x hx)⟩
theorem eachBack (G : GP) (ok : G.Ok) (gb : Nat) (rs : List ClaimR) (n : Nat) (hrs : rs.length = n) (hn : n ≤ 64) (ms : List Nat) (hms : rs.map (fun r => r.k.bases.length) = ms) (hm8 : ∀ r ∈ rs, r.k.bases.length ≤ 8) (a : Option Addr) (c : Nat) (p1 p2 p3 : Value) (val : Nat → Nat → Nat) (w : World) (hG : GroupAt w gb G) (hS : SetAt G w a rs)
  (hcall : ∀ w1, Below w.heap.size w w1 → ∀ i t : Nat, i < n → t < ms.getD i 0 → Calls Try.prog 162 #[.int .i64 (i : Int), .int .i64 (t : Int), p1, p2, p3] w1 (Gives (elV G (val i t)) w1)) :
  Calls Try.prog 159 #[.agg #[.pointer (some ⟨gb, 0, none⟩), .slice a n c], .func (.func 162) #[] #[p1, p2, p3]] w (RowsF (eachA G val ms n) w) := by
 have HRS := Lib.hid hrs
 have HMS := Lib.hid hms
 have HM8 := Lib.hid hm8
 have HG := Lib.hid hG
 have HGB := Lib.hid hG.lt
 have OK := Lib.hid ok
 have HS := Lib.hid hS
 have HCALL := Lib.hid hcall
 clear hrs hms hm8 hG ok hS hcall
 have hmk := Go.run_make_row' (P := Try.prog) 25 22 (.slice none 0 0) 24 Try.underlying25 infoStrs rfl .i64 .i64 n (by omega) (by omega)
 go_enter Try.func159, Try.ntmps159
 have HZS := HGB
 go_upto_region 1 with fail
 obtain ⟨w1, hq1, hb9, hz9, Hbs⟩ := new1 w 157 [.pointer (some ⟨gb, 0, none⟩), .slice a n c]
 rw [hq1]
 clear hq1
 replace HG := Lib.hid (HG.out.up hb9)
 have HB := Lib.hid hb9
 replace HZS := sz HZS hz9.out
 clear hb9 hz9
 have bs_ := Hbs.out.c2
 go_upto_region 2 with fail
 have hmb := bx_made w1 22 (.slice none 0 0) n
 have hb9 : Below w1.heap.size w1 (w1.alloc (.cells (madeCells #[.slice none 0 0] n) 22)) := (Below.refl _ _).alloc (Nat.le_refl _) _
 have hz9 : (w1.alloc (.cells (madeCells #[.slice none 0 0] n) 22)).heap.size = w1.heap.size + 1 := by simp
 obtain ⟨wm, hq9⟩ : ∃ W9 : World, (w1.alloc (.cells (madeCells #[.slice none 0 0] n) 22)) = W9 := ⟨_, rfl⟩
 rw [hq9] at hmb hb9 hz9 ⊢
 clear hq9 hmk
 have HZM := Lib.hid hz9
 have HZ9 := Lib.hid HB.out.size
 clear hz9
 replace HZS := sz HZS HZM.out
 clear bs_
 replace Hbs := Lib.hid (Hbs.out.up hb9)
 replace HG := Lib.hid (HG.out.up hb9)
 replace HB := hbu HB hb9
 replace HZS := sz HZS hb9.size
 clear hb9
 have bs_ := Hbs.out.c2
 have Hob := Lib.hid hmb
 clear hmb
 have HK := Lib.hid (Kept.refl (fun q9 => q9 = w1.heap.size) wm)
 go_wp2_with fail
 go_loopw [15] (fun i wr => ∃ (j : Nat) (ro : List RowA), j ≤ n ∧ i = .int .i64 j ∧ Hid (ro.length = j) ∧ Hid (ro.map RowA.l = eachA G val ms j) ∧ Hid (Kept (fun q => q = w1.heap.size) wm wr) ∧ Hid (Bx wr w1.heap.size 22 (ro.flatMap RowA.cells ++ List.replicate (n - j) (.slice none 0 0))) ∧ Hid (RowsNew wm.heap.size wr ro)) (fun i _ => n - (intOf i).toNat)
 case atStart => exact ⟨0, [], Nat.zero_le _, rfl, rfl, rfl, HK, by simpa using Hob, fun _ h => by cases h⟩
 case round =>
  obtain ⟨j, ro, hj, rfl, HRL, HRM, HK, Hob9, HRN⟩ := hrel
  have hg9 := HK.out
  clear bs_ Hob
  replace Hbs := Lib.hid (Hbs.out.keptP hg9 (show ¬ (_ = w1.heap.size) by have g0 := HZS.out; omega))
  replace HG := Lib.hid (HG.out.keptP hg9 (show ¬ (_ = w1.heap.size) by have g0 := HZS.out; omega))
  replace HB := Lib.hid (Below.keptP HB.out hg9 (by have g0 := HZS.out; omega) (fun q9 h9 => (show w.heap.size ≤ _ by subst h9; have g0 := HZS.out; omega)))
  replace HZS := sz HZS (show wm.heap.size ≤ wr.heap.size from hg9.size)
  clear hg9
  have bs_ := Hbs.out.c2
  have Hob := Hob9
  clear Hob9
  by_cases hjn : j < n
  ·have hjr : j < rs.length := by rw [HRS.out]; exact hjn
   obtain ⟨ba, oa, rfl, hba0⟩ := HS.out.at j hjr
   have HCC := Lib.hid (fun w1 (hb : Below w.heap.size w w1) => HS.out.cells hb j hjr)
   have HMJ := Lib.hid (show rs[j].k.bases.length = ms.getD j 0 by rw [← HMS.out]; simp [List.getD, hjr])
   have HM1 := Lib.hid (HM8.out _ (List.getElem_mem hjr))
   generalize rs[j] = r at *
   obtain ⟨m, hm⟩ : ∃ m, ms.getD j 0 = m := ⟨_, rfl⟩
   rw [hm] at HMJ
   have HMM := Lib.hid hm
   have hm8 : m ≤ 8 := by rw [← HMJ.out]; exact HM1.out
   rw [show n - j = (n - j - 1) + 1 by omega, List.replicate_succ] at Hob
   clear hm
   obtain ⟨wo, rfl⟩ : ∃ wo : World, wo = wr := ⟨_, rfl⟩
   have hc := HCC.out _ HB.out
   have hc_1 := hc 1 _ rfl
   rw [HMJ.out] at hc_1
   clear hc
   have HRN2 := HRN
   have HK2 := Lib.hid (Kept.refl (fun q9 => q9 = w1.heap.size) wo)
   have hba9 := hba0
   go_wp2_with fail
   clear hc_1 hba9
   go_loopw [25] (fun i wr => ∃ (t : Nat) (g : Option Addr) (c9 : Nat), t ≤ m ∧ i = .int .i64 t ∧ Hid (Kept (fun q => q = w1.heap.size) wo wr) ∧ Hid (Bx wr w1.heap.size 22 (ro.flatMap RowA.cells ++ (.slice g t c9) :: List.replicate (n - j - 1) (.slice none 0 0))) ∧ Hid (RowO wo.heap.size wr 9 1 (.slice g t c9) t ((eachL G val j t).map Value.string))) (fun i _ => m - (intOf i).toNat)
   case atStart => exact ⟨0, none, 0, Nat.zero_le _, rfl, HK2, Hob, RowO.nil⟩
   case round =>
    obtain ⟨t, g, c9, ht, rfl, HK2, Hob9, Hr⟩ := hrel
    have hg9 := HK2.out
    clear bs_ Hob
    replace Hbs := Lib.hid (Hbs.out.keptP hg9 (show ¬ (_ = w1.heap.size) by have g0 := HZS.out; omega))
    replace HG := Lib.hid (HG.out.keptP hg9 (show ¬ (_ = w1.heap.size) by have g0 := HZS.out; omega))
    replace HB := Lib.hid (Below.keptP HB.out hg9 (by have g0 := HZS.out; omega) (fun q9 h9 => (show w.heap.size ≤ _ by subst h9; have g0 := HZS.out; omega)))
    replace HZS := sz HZS (show wo.heap.size ≤ wr.heap.size from hg9.size)
    clear hg9
    have bs_ := Hbs.out.c2
    have Hob := Hob9
    clear Hob9
    by_cases htm : t < m
    ·have hob : w1.heap.size < wr.heap.size := Hob.out.lt
     have hoc : wr.cell? ⟨w1.heap.size, j, none⟩ = some (.slice g t c9) := Hob.out.cell (mid_get (by rw [rows_len, HRL.out]))
     go_wp2_with fail
     have HT := Lib.hid (show Below wr.heap.size wr wr.drew from (Below.refl _ _).drew)
     have hl_bs := Hbs.out.lt
     refine wp_region_treek (fun wq9 => ∃ E : But wr (Value.ownBlock (.slice g t c9)), wq9 = E.w) 16 ((.qs [0, 1, 2, 3, 4] (.e 5 [] (.qs [6] (.e 7 [] (.qs [8, 9, 10] (.a 11 (.a 12 (.a 13 (.a 14 (.qs [15] (.a 16 .done)))))))))))) (by kernel_rfl) (by kernel_rfl) (fun _ _ d _ _ h => by cases d <;> exact h) ⟨⟨_, ((below_grown HT.out).but _)⟩, rfl⟩ ?_
     have hov_bs := fun (E : But wr (Value.ownBlock (.slice g t c9))) o => E.cell (b := w.heap.size) o hl_bs (by intro e9; have a1 := Hr.out.lt _ e9; have g0 := HZS.out; omega)
     have hov_w1_heap_size := fun (E : But wr (Value.ownBlock (.slice g t c9))) o => E.cell (b := w1.heap.size) o hob (by intro e9; have a1 := Hr.out.lt _ e9; have g0 := HZS.out; omega)
     simp only [TreeK.qs]
     repeat (first | (refine treek_q rfl rfl ?_; go_big_quiet_step (fail); refine wpQuiet_nil ?_) | (refine treek_e rfl rfl ?_; go_big_quiet_step (fail); refine wpQuiet_nil ?_))
     refine treek_a rfl (fun K hK => ?_)
     go_simp
     refine (HCALL.out _ (below_up HB.out HT.out) j t hjn (by rw [HMM.out]; exact htm)).mono ?_
     rintro e w2 ⟨rfl, hb9⟩
     replace HT := Lib.hid (below_up HT.out hb9)
     replace HZS := sz HZS (show wr.heap.size ≤ w2.heap.size from HT.out.size)
     clear hb9
     refine hK _ _ ⟨fun _ => ⟨⟨w2, ((below_grown HT.out).but _)⟩, rfl⟩, ?_⟩
     clear hK K
     repeat (first | (refine treek_q rfl rfl ?_; go_big_quiet_step (fail); refine wpQuiet_nil ?_) | (refine treek_e rfl rfl ?_; go_big_quiet_step (fail); refine wpQuiet_nil ?_))
     refine treek_a rfl (fun K hK => ?_)
     go_simp
     refine (gText_any G OK.out gb (val j t) _ (HG.out.up HT.out)).mono ?_
     rintro e w3 ⟨rfl, hb9⟩
     replace HT := Lib.hid (below_up HT.out hb9)
     replace HZS := sz HZS (show wr.heap.size ≤ w3.heap.size from HT.out.size)
     clear hb9
     refine hK _ _ ⟨fun _ => ⟨⟨w3, ((below_grown HT.out).but _)⟩, rfl⟩, ?_⟩
     clear hK K
     repeat (first | (refine treek_q rfl rfl ?_; go_big_quiet_step (fail); refine wpQuiet_nil ?_) | (refine treek_e rfl rfl ?_; go_big_quiet_step (fail); refine wpQuiet_nil ?_))
     clear hoc hob hov_bs hl_bs hov_w1_heap_size
     refine treek_a rfl (fun K hK => ?_)
     go_simp
     refine hK _ _ ⟨fun _ => ⟨⟨_, (below_grown (HT.out.alloc HT.out.size _)).but _⟩, rfl⟩, ?_⟩
     clear hK K
     obtain ⟨i9, hi9, hz90, hz91, hz92⟩ := info_parts infoStr
     have HG1 := Lib.hid ((below_grown HT.out).but (Value.ownBlock (.slice g t c9)))
     clear bs_
     replace Hbs := Lib.hid (Hbs.out.up HT.out)
     replace Hob := Lib.hid (Hob.out.up HT.out)
     replace HG := Lib.hid (HG.out.up HT.out)
     replace Hr := Lib.hid (Hr.out.up HT.out)
     replace HK2 := Lib.hid (Kept.up HK2.out HT.out)
     replace HB := hbu HB HT.out
     replace HZS := sz HZS HT.out.size
     refine treek_a rfl (fun K hK => ?_)
     refine step_pushF (wo.heap.size) w3 (by have g0 := HZS.out; omega) rfl _ _ 22 rfl 9 i9 _ 1 16 Try.underlying22 hi9 hz90 hz91 hz92 rfl (by omega) ((.slice g t c9)) (t) (((eachL G val j t).map Value.string)) rfl Hr.out _ _ _ rfl rfl rfl (by simp [Value.oneCell']) (by omega) (by unfold maxLen; omega) ?_
     intro g4 c4 w4 hown9 hg9 hf9
     have HF9 := Lib.hid hf9
     clear hf9
     have HGR := Lib.hid (HG1.out.trans hg9)
     have hb9 := Below.grown HB.out hg9 (by have g0 := HZS.out; omega) (fun q hq => Nat.le_trans (show w.heap.size ≤ wo.heap.size by have g0 := HZS.out; omega) (Hr.out.lt q hq).1)
     replace Hbs := Lib.hid (Hbs.out.grown hg9 (fun e9 => by have a1 := Hr.out.lt _ e9; have g0 := HZS.out; omega))
     replace Hob := Lib.hid (Hob.out.grown hg9 (fun e9 => by have a1 := Hr.out.lt _ e9; have g0 := HZS.out; omega))
     replace HG := Lib.hid (HG.out.grown hg9 (fun e9 => by have a1 := Hr.out.lt _ e9; have g0 := HZS.out; omega))
     replace HK2 := Lib.hid (Kept.grown HK2.out hg9 (fun q hq => Or.inl (Nat.le_trans (show wo.heap.size ≤ wo.heap.size by have g0 := HZS.out; omega) (Hr.out.lt q hq).1)))
     replace HZS := sz HZS hg9.size
     clear Hr HB HT HG1
     have Hr := Lib.hid hown9
     have HB := Lib.hid hb9
     clear hb9 hown9 hg9 hi9 hz90 hz91 hz92
     refine hK _ _ ⟨fun _ => ⟨⟨w4, HGR.out⟩, rfl⟩, ?_⟩
     clear hK K HGR
     try simp only [Act.put, List.setIfInBounds_toArray, List.set_cons_succ, List.set_cons_zero]
     repeat (first | (refine treek_q rfl rfl ?_; go_big_quiet_step (fail); refine wpQuiet_nil ?_) | (refine treek_e rfl rfl ?_; go_big_quiet_step (fail); refine wpQuiet_nil ?_))
     replace HZS := sz HZS (Hr.out.lt g4 rfl).1
     have hoc := Hob.out.cell (mid_get (v := .slice g t c9) (ys := List.replicate (n - j - 1) (.slice none 0 0)) (show (ro.flatMap RowA.cells).length = j by rw [rows_len, HRL.out]))
     have bs_ := Hbs.out.c2
     have f5_ob := Hob.out.frozen
     have o5_bs_ := bs_; clear bs_
     obtain ⟨w5, hq5, hg9, hz9, hx9⟩ := put1 Hob j (.slice (some ⟨g4, 0, none⟩) (t + 1) c4) _ rfl
     replace Hbs := Lib.hid (Hbs.out.grown hg9.out (sne (by have g0 := HZS.out; omega)))
     replace HG := Lib.hid (HG.out.grown hg9.out (sne (by have g0 := HZS.out; omega)))
     replace Hr := Lib.hid (RowO.grown Hr.out hg9.out (fun q9 e8 e9 => by have a1 := Hr.out.lt _ e8; have a0 := Option.some.inj e9; have g0 := HZS.out; omega))
     replace HK2 := Lib.hid (Kept.grown HK2.out hg9.out (fun q9 e9 => by obtain rfl := Option.some.inj e9; exact Or.inr (rfl)))
     replace HB := hbg HB hg9 (by have g0 := HZS.out; omega)
     replace HZS := sz HZS hz9.out
     replace Hob := hx9
     clear hx9 hg9 hz9
     have bs_ := Hbs.out.c2
     refine treek_a rfl (fun K hK => ?_)
     go_simp
     try rw [hq5]
     refine hK _ _ ⟨fun h9 => absurd rfl h9, ?_⟩
     clear hK K hq5 o5_bs_ f5_ob hoc
     refine treek_end ?_
     go_wp2_with fail
     go_roundw
     case rel => exact ⟨t + 1, _, _, by omega, by go_num, HK2, Lib.hid (by have h9 := Hob.out; rwa [mid_set (by rw [rows_len, HRL.out])] at h9), Hr.out.eq (eachL_snoc G val j t).symm rfl⟩
     case measure => simp [intOf]; omega
    ·have htm' : t = m := by omega
     subst htm'
     have HROW := Lib.hid (show RowsNew wm.heap.size wr (ro ++ [⟨g, c9, eachL G val j t⟩]) from fun x hx => by
      rcases List.mem_append.1 hx with hx | hx
      ·exact (HRN.out.kept HK2.out (by have a0 := HZM.out; omega)) x hx
      ·obtain rfl := List.mem_singleton.1 hx
       exact ⟨Hr.out.sl, fun y hy => Nat.le_trans (by have a1 := HZS.out; omega) (RowO.own_le Hr.out hy), RowO.rowOk Hr.out⟩)
     go_wp2_with fail
     go_roundw
     case rel => exact ⟨j + 1, ro ++ [⟨g, c9, eachL G val j t⟩], by omega, by go_num, Lib.hid (by rw [List.length_append, HRL.out]; rfl), Lib.hid (by rw [List.map_append, HRM.out, eachA_snoc, HMM.out]; rfl), Lib.hid (HK.out.trans HK2.out), Lib.hid (by rw [List.flatMap_append]; have h9 := Hob.out; simpa [RowA.cells, eachL_len, Nat.sub_sub] using h9), HROW⟩
     case measure => simp [intOf]; omega
  ·have hjn' : j = n := by omega
   subst hjn'
   have hsl : Sl wr wr.heap.size (some ⟨w1.heap.size, 0, none⟩) (ro.flatMap RowA.cells) := by
    have h9 := Hob.out
    rw [Nat.sub_self, List.replicate_zero, List.append_nil] at h9
    simpa using Sl.of_block h9
   have HSL := Lib.hid hsl
   clear hsl
   go_wp2_with fail
   go_ret
   exact ⟨HB.out, _, j, ro, by rw [eachA_len]; rfl, HRM.out, ⟨HSL.out, fun r hr => (HRN.out r hr).1⟩, fun r hr => (HRN.out r hr).2.2, fun x hx => by cases hx; show w.heap.size ≤ w1.heap.size; have a0 := HZ9.out; omega, fun r hr x hx => Nat.le_trans (show w.heap.size ≤ wm.heap.size by have a0 := HZ9.out; have a1 := HZM.out; omega) ((HRN.out r hr).2.1 x hx)⟩
end Go.Proofs.Ytipgjookfdkciaa
namespace Go.Proofs.Ytipgjookfdkciaa
open Go.RowKit
theorem cell_up {W w1 : World} {n b o : Nat} {v : Value} (hb : Below n W w1) (hl : b < n) (h : W.cell? ⟨b, o, none⟩ = some v) : w1.cell? ⟨b, o, none⟩ = some v := (hb.cell (p := ⟨b, o, none⟩) hl).trans h
theorem first1_any (G : GP) (ok : G.Ok) (gb b1 b2 : Nat) (rs : List ClaimR) (n : Nat) (a : Option Addr) (c : Nat) (xs : List ByteArray) (ax : Option Addr) (cx i t : Nat) (hi : i < rs.length) (hix : i < xs.length) (ht : t < rs[i].k.bases.length) (w : World) (hG : GroupAt w gb G) (hS : SetAt G w a rs) (hX : Sl w w.heap.size ax (xs.flatMap (limC G.q.m)))
  (hrs : rs.length = n) (hxs : xs.length = n) (h1 : Bx w b1 157 [.pointer (some ⟨gb, 0, none⟩), .slice a n c]) (h2 : Bx w b2 84 [.slice ax n cx]) :
  Calls Try.prog 160 #[.int .i64 (i : Int), .int .i64 (t : Int), .pointer (some ⟨b1, 0, none⟩), .pointer (some ⟨b2, 0, none⟩)] w (Gives (elV G (numOf rs[i].k.bases[t] ^ (numOf xs[i] % G.q.m))) w) := by
 have HG := Lib.hid hG
 have HGB := Lib.hid hG.lt
 have OK := Lib.hid ok
 have HL1 := Lib.hid h1.lt
 have HL2 := Lib.hid h2.lt
 obtain ⟨ba, oa, rfl, hba0⟩ := hS.at i hi
 obtain ⟨bx, ox, rfl, hbx0⟩ := hX.adr (flat_ne (limC_len _) (by omega) (List.length_pos_iff.1 (by omega)))
 have hca := hS.cells (Below.refl _ _) i hi
 have hcx := (hX.elemS (limC_len _) (by omega) i hix).2
 have hAT := hS.e _ (List.getElem_mem hi)
 have hcb := (hAT.b.elemS (limC_len _) (by omega) t ht).2
 have HBB := Lib.hid hAT.bl
 have HBA := Lib.hid hba0
 have HBX := Lib.hid hbx0
 have hin : i < n := by omega
 have h11 := h1.cell (i := 0) rfl
 have h12 := h1.cell (i := 1) rfl
 have h21 := h2.cell (i := 0) rfl
 generalize xs[i] = x at *
 generalize rs[i] = r at *
 obtain ⟨m, hm⟩ : ∃ m, r.k.bases.length = m := ⟨_, rfl⟩
 have htm : t < m := by omega
 generalize r.k.bases[t] = bb at *
 have hca_0 := hca 0 _ rfl
 rw [Nat.add_zero] at hca_0
 have hca_1 := hca 1 _ rfl
 have hca_2 := hca 2 _ rfl
 clear hca
 have hcx_0 := hcx 0 _ rfl
 rw [Nat.add_zero] at hcx_0
 have hcx_1 := hcx 1 _ rfl
 have hcx_2 := hcx 2 _ rfl
 have hcx_3 := hcx 3 _ rfl
 clear hcx
 have hcb_0 := hcb 0 _ rfl
 rw [Nat.add_zero] at hcb_0
 have hcb_1 := hcb 1 _ rfl
 have hcb_2 := hcb 2 _ rfl
 have hcb_3 := hcb 3 _ rfl
 clear hcb
 rw [hm] at hca_1
 clear hAT hS hX hG ok h1 h2 hi hix ht hrs hxs hm
 unfold Gives elV limbV
 go_enter Try.func160, Try.ntmps160
 go_wp2_with fail
 have HZS := HGB
 replace HZS := sz HZS HL1.out
 replace HZS := sz HZS HL2.out
 replace HZS := sz HZS HBB.out
 replace HZS := sz HZS HBA.out
 replace HZS := sz HZS HBX.out
 have BW := Lib.hid (Below.refl w.heap.size w)
 obtain ⟨w1, hq1, hb9, hz9, Hbr⟩ := new1 w 111 [.int .u64 0, .int .u64 0, .int .u64 0, .int .u64 0]
 rw [hq1]
 clear hq1
 replace HG := Lib.hid (HG.out.up hb9)
 replace BW := hbu BW hb9
 have HB := Lib.hid hb9
 replace HZS := sz HZS hz9.out
 clear hb9 hz9
 have br_ := Hbr.out.c4
 replace h11 := cell_up BW.out HL1.out h11
 replace h12 := cell_up BW.out HL1.out h12
 replace h21 := cell_up BW.out HL2.out h21
 replace hca_0 := cell_up BW.out HBA.out hca_0
 replace hca_1 := cell_up BW.out HBA.out hca_1
 replace hca_2 := cell_up BW.out HBA.out hca_2
 replace hcx_0 := cell_up BW.out HBX.out hcx_0
 replace hcx_1 := cell_up BW.out HBX.out hcx_1
 replace hcx_2 := cell_up BW.out HBX.out hcx_2
 replace hcx_3 := cell_up BW.out HBX.out hcx_3
 replace hcb_0 := cell_up BW.out HBB.out hcb_0
 replace hcb_1 := cell_up BW.out HBB.out hcb_1
 replace hcb_2 := cell_up BW.out HBB.out hcb_2
 replace hcb_3 := cell_up BW.out HBB.out hcb_3
 have hl1 := Nat.lt_of_lt_of_le HL1.out BW.out.size
 have hl2 := Nat.lt_of_lt_of_le HL2.out BW.out.size
 have hba1 := Nat.lt_of_lt_of_le HBA.out BW.out.size
 have hbx1 := Nat.lt_of_lt_of_le HBX.out BW.out.size
 have hbb1 := Nat.lt_of_lt_of_le HBB.out BW.out.size
 clear hba0 hbx0
 have HT := Lib.hid (show Below w1.heap.size w1 w1.drew from (Below.refl _ _).drew)
 refine wp_region_tree (fun wq9 => ∃ E : But w1 (some (w.heap.size)), wq9 = E.w) ((.qs [0, 1, 2, 3, 4, 5, 6, 7, 8, 9, 10, 11, 12, 13, 14] (.a 15 (.a 16 .done)))) (by kernel_rfl) (by kernel_rfl) (fun _ _ d _ _ h => by cases d <;> exact h) ⟨⟨_, ((below_grown HT.out).but _)⟩, rfl⟩ ?_
 have hov_b1 := fun (E : But w1 (some (w.heap.size))) o => E.cell (b := b1) o hl1 (by intro e9; have a0 := Option.some.inj e9; have g0 := HZS.out; omega)
 have hov_b2 := fun (E : But w1 (some (w.heap.size))) o => E.cell (b := b2) o hl2 (by intro e9; have a0 := Option.some.inj e9; have g0 := HZS.out; omega)
 have hov_ba := fun (E : But w1 (some (w.heap.size))) o => E.cell (b := ba) o hba1 (by intro e9; have a0 := Option.some.inj e9; have g0 := HZS.out; omega)
 have hov_bx := fun (E : But w1 (some (w.heap.size))) o => E.cell (b := bx) o hbx1 (by intro e9; have a0 := Option.some.inj e9; have g0 := HZS.out; omega)
 have hov_r_bb := fun (E : But w1 (some (w.heap.size))) o => E.cell (b := r.bb) o hbb1 (by intro e9; have a0 := Option.some.inj e9; have g0 := HZS.out; omega)
 simp only [Tree.qs]
 repeat (refine tree_q rfl rfl ?_; go_big_quiet_step (fail); refine wpQuiet_nil ?_)
 refine tree_a rfl (fun K hK => ?_)
 go_simp
 refine (gPower_any G OK.out gb (numOf bb) (numOf x) _ (HG.out.up HT.out)).mono ?_
 rintro e w2 ⟨rfl, hb9⟩
 replace HT := Lib.hid (below_up HT.out hb9)
 replace HZS := sz HZS (show w1.heap.size ≤ w2.heap.size from HT.out.size)
 clear hb9
 unfold elV limbV
 refine hK _ _ ⟨⟨⟨w2, ((below_grown HT.out).but _)⟩, rfl⟩, ?_⟩
 clear hK K
 repeat (refine tree_q rfl rfl ?_; go_big_quiet_step (fail); refine wpQuiet_nil ?_)
 clear h11 h12 h21 hca_0 hca_1 hca_2 hcx_0 hcx_1 hcx_2 hcx_3 hcb_0 hcb_1 hcb_2 hcb_3 hov_b1 hov_b2 hov_ba hov_bx hov_r_bb
 refine tree_a rfl (fun K hK => ?_)
 clear br_
 replace Hbr := Lib.hid (Hbr.out.up HT.out)
 replace HG := Lib.hid (HG.out.up HT.out)
 replace HB := hbu HB HT.out
 replace HZS := sz HZS HT.out.size
 have br_ := Hbr.out.c4
 have f3_br := Hbr.out.frozen
 have o3_br_ := br_; clear br_
 obtain ⟨w3, hq3, hg9, hz9, hx9⟩ := put4 Hbr 0 (.int .u64 (dig (mont G.p.m (numOf bb ^ (numOf x % G.q.m))) 0 : Int)) 1 (.int .u64 (dig (mont G.p.m (numOf bb ^ (numOf x % G.q.m))) 1 : Int)) 2 (.int .u64 (dig (mont G.p.m (numOf bb ^ (numOf x % G.q.m))) 2 : Int)) 3 (.int .u64 (dig (mont G.p.m (numOf bb ^ (numOf x % G.q.m))) 3 : Int)) [.int .u64 (dig (mont G.p.m (numOf bb ^ (numOf x % G.q.m))) 0 : Int), .int .u64 (dig (mont G.p.m (numOf bb ^ (numOf x % G.q.m))) 1 : Int), .int .u64 (dig (mont G.p.m (numOf bb ^ (numOf x % G.q.m))) 2 : Int), .int .u64 (dig (mont G.p.m (numOf bb ^ (numOf x % G.q.m))) 3 : Int)] rfl
 replace HG := Lib.hid (HG.out.grown hg9.out (sne (by have g0 := HZS.out; omega)))
 replace HB := hbg HB hg9 (by have g0 := HZS.out; omega)
 replace HZS := sz HZS hz9.out
 replace Hbr := hx9
 have HGR := Lib.hid (((below_grown HT.out).but _).trans hg9.out)
 clear hx9 hg9 hz9
 have br_ := Hbr.out.c4
 clear HT
 go_simp
 try rw [hq3]
 refine hK _ _ ⟨⟨⟨w3, HGR.out⟩, rfl⟩, ?_⟩
 clear hK K HGR hq3 o3_br_ f3_br
 repeat (refine tree_q rfl rfl ?_; go_big_quiet_step (fail); refine wpQuiet_nil ?_)
 refine tree_end ?_
 go_wp2_with fail
 simp [bodyPost, results, Try.results160, go_sem, br_]
 exact HB.out
theorem back1_any (G : GP) (ok : G.Ok) (gb b1 b2 b3 y : Nat) (rs : List ClaimR) (n : Nat) (a : Option Addr) (c : Nat) (xs : List ByteArray) (ax : Option Addr) (cx i t : Nat) (hi : i < rs.length) (hix : i < xs.length) (ht : t < rs[i].k.bases.length) (hti : t < rs[i].k.images.length) (w : World) (hG : GroupAt w gb G) (hS : SetAt G w a rs) (hX : Sl w w.heap.size ax (xs.flatMap (limC G.q.m)))
  (hrs : rs.length = n) (hxs : xs.length = n) (h1 : Bx w b1 157 [.pointer (some ⟨gb, 0, none⟩), .slice a n c]) (h2 : Bx w b2 84 [.slice ax n cx]) (h3 : Bx w b3 91 (limN G.q.m y)) :
  Calls Try.prog 162 #[.int .i64 (i : Int), .int .i64 (t : Int), .pointer (some ⟨b1, 0, none⟩), .pointer (some ⟨b2, 0, none⟩), .pointer (some ⟨b3, 0, none⟩)] w (Gives (elV G (numOf rs[i].k.bases[t] ^ (numOf xs[i] % G.q.m) * numOf rs[i].k.images[t] ^ (y % G.q.m))) w) := by
 have HG := Lib.hid hG
 have HGB := Lib.hid hG.lt
 have OK := Lib.hid ok
 have HL1 := Lib.hid h1.lt
 have HL2 := Lib.hid h2.lt
 obtain ⟨ba, oa, rfl, hba0⟩ := hS.at i hi
 obtain ⟨bx, ox, rfl, hbx0⟩ := hX.adr (flat_ne (limC_len _) (by omega) (List.length_pos_iff.1 (by omega)))
 have hca := hS.cells (Below.refl _ _) i hi
 have hcx := (hX.elemS (limC_len _) (by omega) i hix).2
 have hAT := hS.e _ (List.getElem_mem hi)
 have hcb := (hAT.b.elemS (limC_len _) (by omega) t ht).2
 have HBB := Lib.hid hAT.bl
 have HBA := Lib.hid hba0
 have HBX := Lib.hid hbx0
 have HL3 := Lib.hid h3.lt
 have hci := (hAT.i.elemS (limC_len _) (by omega) t hti).2
 have HBI := Lib.hid hAT.il
 have hin : i < n := by omega
 have h11 := h1.cell (i := 0) rfl
 have h12 := h1.cell (i := 1) rfl
 have h21 := h2.cell (i := 0) rfl
 have h30 := h3.cell (i := 0) rfl
 have h31 := h3.cell (i := 1) rfl
 have h32 := h3.cell (i := 2) rfl
 have h33 := h3.cell (i := 3) rfl
 generalize xs[i] = x at *
 generalize rs[i] = r at *
 obtain ⟨m, hm⟩ : ∃ m, r.k.bases.length = m := ⟨_, rfl⟩
 obtain ⟨m2, hm2⟩ : ∃ m, r.k.images.length = m := ⟨_, rfl⟩
 have htm : t < m := by omega
 have htm2 : t < m2 := by omega
 generalize r.k.bases[t] = bb at *
 generalize r.k.images[t] = mm at *
 have hca_0 := hca 0 _ rfl
 rw [Nat.add_zero] at hca_0
 have hca_1 := hca 1 _ rfl
 have hca_2 := hca 2 _ rfl
 clear hca
 have hcx_0 := hcx 0 _ rfl
 rw [Nat.add_zero] at hcx_0
 have hcx_1 := hcx 1 _ rfl
 have hcx_2 := hcx 2 _ rfl
 have hcx_3 := hcx 3 _ rfl
 clear hcx
 have hcb_0 := hcb 0 _ rfl
 rw [Nat.add_zero] at hcb_0
 have hcb_1 := hcb 1 _ rfl
 have hcb_2 := hcb 2 _ rfl
 have hcb_3 := hcb 3 _ rfl
 clear hcb
 have hci_0 := hci 0 _ rfl
 rw [Nat.add_zero] at hci_0
 have hci_1 := hci 1 _ rfl
 have hci_2 := hci 2 _ rfl
 have hci_3 := hci 3 _ rfl
 clear hci
 rw [hm] at hca_1
 rw [hm2] at hca_2
 clear hAT hS hX hG ok h1 h2 h3 hi hix ht hti hrs hxs hm hm2
 unfold Gives elV limbV
 go_enter Try.func162, Try.ntmps162
 go_wp2_with fail
 have HZS := HGB
 replace HZS := sz HZS HL1.out
 replace HZS := sz HZS HL2.out
 replace HZS := sz HZS HL3.out
 replace HZS := sz HZS HBB.out
 replace HZS := sz HZS HBA.out
 replace HZS := sz HZS HBX.out
 replace HZS := sz HZS HBI.out
 have BW := Lib.hid (Below.refl w.heap.size w)
 obtain ⟨w1, hq1, hb9, hz9, Hbr⟩ := new1 w 111 [.int .u64 0, .int .u64 0, .int .u64 0, .int .u64 0]
 rw [hq1]
 clear hq1
 replace HG := Lib.hid (HG.out.up hb9)
 replace BW := hbu BW hb9
 have HB := Lib.hid hb9
 replace HZS := sz HZS hz9.out
 clear hb9 hz9
 have br_ := Hbr.out.c4
 replace h11 := cell_up BW.out HL1.out h11
 replace h12 := cell_up BW.out HL1.out h12
 replace h21 := cell_up BW.out HL2.out h21
 replace hca_0 := cell_up BW.out HBA.out hca_0
 replace hca_1 := cell_up BW.out HBA.out hca_1
 replace hca_2 := cell_up BW.out HBA.out hca_2
 replace hcx_0 := cell_up BW.out HBX.out hcx_0
 replace hcx_1 := cell_up BW.out HBX.out hcx_1
 replace hcx_2 := cell_up BW.out HBX.out hcx_2
 replace hcx_3 := cell_up BW.out HBX.out hcx_3
 replace hcb_0 := cell_up BW.out HBB.out hcb_0
 replace hcb_1 := cell_up BW.out HBB.out hcb_1
 replace hcb_2 := cell_up BW.out HBB.out hcb_2
 replace hcb_3 := cell_up BW.out HBB.out hcb_3
 have hl1 := Nat.lt_of_lt_of_le HL1.out BW.out.size
 have hl2 := Nat.lt_of_lt_of_le HL2.out BW.out.size
 have hba1 := Nat.lt_of_lt_of_le HBA.out BW.out.size
 have hbx1 := Nat.lt_of_lt_of_le HBX.out BW.out.size
 have hbb1 := Nat.lt_of_lt_of_le HBB.out BW.out.size
 clear hba0 hbx0
 replace h30 := cell_up BW.out HL3.out h30
 replace h31 := cell_up BW.out HL3.out h31
 replace h32 := cell_up BW.out HL3.out h32
 replace h33 := cell_up BW.out HL3.out h33
 replace hci_0 := cell_up BW.out HBI.out hci_0
 replace hci_1 := cell_up BW.out HBI.out hci_1
 replace hci_2 := cell_up BW.out HBI.out hci_2
 replace hci_3 := cell_up BW.out HBI.out hci_3
 have hl3 := Nat.lt_of_lt_of_le HL3.out BW.out.size
 have hbi1 := Nat.lt_of_lt_of_le HBI.out BW.out.size
 have HT := Lib.hid (show Below w1.heap.size w1 w1.drew from (Below.refl _ _).drew)
 refine wp_region_tree (fun wq9 => ∃ E : But w1 (some (w.heap.size)), wq9 = E.w) ((.qs [0, 1, 2, 3, 4, 5, 6, 7, 8, 9, 10, 11, 12, 13, 14, 15, 16, 18, 19, 20, 21, 22, 23, 24, 25, 26, 27, 28, 29] (.a 17 (.a 30 (.a 31 (.a 32 .done)))))) (by kernel_rfl) (by kernel_rfl) (fun _ _ d _ _ h => by cases d <;> exact h) ⟨⟨_, ((below_grown HT.out).but _)⟩, rfl⟩ ?_
 have hov_b1 := fun (E : But w1 (some (w.heap.size))) o => E.cell (b := b1) o hl1 (by intro e9; have a0 := Option.some.inj e9; have g0 := HZS.out; omega)
 have hov_b2 := fun (E : But w1 (some (w.heap.size))) o => E.cell (b := b2) o hl2 (by intro e9; have a0 := Option.some.inj e9; have g0 := HZS.out; omega)
 have hov_b3 := fun (E : But w1 (some (w.heap.size))) o => E.cell (b := b3) o hl3 (by intro e9; have a0 := Option.some.inj e9; have g0 := HZS.out; omega)
 have hov_ba := fun (E : But w1 (some (w.heap.size))) o => E.cell (b := ba) o hba1 (by intro e9; have a0 := Option.some.inj e9; have g0 := HZS.out; omega)
 have hov_bx := fun (E : But w1 (some (w.heap.size))) o => E.cell (b := bx) o hbx1 (by intro e9; have a0 := Option.some.inj e9; have g0 := HZS.out; omega)
 have hov_r_bb := fun (E : But w1 (some (w.heap.size))) o => E.cell (b := r.bb) o hbb1 (by intro e9; have a0 := Option.some.inj e9; have g0 := HZS.out; omega)
 have hov_r_ib := fun (E : But w1 (some (w.heap.size))) o => E.cell (b := r.ib) o hbi1 (by intro e9; have a0 := Option.some.inj e9; have g0 := HZS.out; omega)
 simp only [Tree.qs]
 repeat (refine tree_q rfl rfl ?_; go_big_quiet_step (fail); refine wpQuiet_nil ?_)
 refine tree_a rfl (fun K hK => ?_)
 go_simp
 refine (gPower_any G OK.out gb (numOf bb) (numOf x) _ (HG.out.up HT.out)).mono ?_
 rintro e w2 ⟨rfl, hb9⟩
 replace HT := Lib.hid (below_up HT.out hb9)
 replace HZS := sz HZS (show w1.heap.size ≤ w2.heap.size from HT.out.size)
 clear hb9
 refine hK _ _ ⟨⟨⟨w2, ((below_grown HT.out).but _)⟩, rfl⟩, ?_⟩
 clear hK K
 repeat (refine tree_q rfl rfl ?_; go_big_quiet_step (fail); refine wpQuiet_nil ?_)
 refine tree_a rfl (fun K hK => ?_)
 go_simp
 refine (gPower_any G OK.out gb (numOf mm) y _ (HG.out.up HT.out)).mono ?_
 rintro e w3 ⟨rfl, hb9⟩
 replace HT := Lib.hid (below_up HT.out hb9)
 replace HZS := sz HZS (show w1.heap.size ≤ w3.heap.size from HT.out.size)
 clear hb9
 refine hK _ _ ⟨⟨⟨w3, ((below_grown HT.out).but _)⟩, rfl⟩, ?_⟩
 clear hK K
 repeat (refine tree_q rfl rfl ?_; go_big_quiet_step (fail); refine wpQuiet_nil ?_)
 refine tree_a rfl (fun K hK => ?_)
 go_simp
 refine (gTimes_any G OK.out gb (numOf bb ^ (numOf x % G.q.m)) (numOf mm ^ (y % G.q.m)) _ (HG.out.up HT.out)).mono ?_
 rintro e w4 ⟨rfl, hb9⟩
 replace HT := Lib.hid (below_up HT.out hb9)
 replace HZS := sz HZS (show w1.heap.size ≤ w4.heap.size from HT.out.size)
 clear hb9
 unfold elV limbV
 refine hK _ _ ⟨⟨⟨w4, ((below_grown HT.out).but _)⟩, rfl⟩, ?_⟩
 clear hK K
 repeat (refine tree_q rfl rfl ?_; go_big_quiet_step (fail); refine wpQuiet_nil ?_)
 clear h11 h12 h21 h30 h31 h32 h33 hca_0 hca_1 hca_2 hcx_0 hcx_1 hcx_2 hcx_3 hcb_0 hcb_1 hcb_2 hcb_3 hci_0 hci_1 hci_2 hci_3 hov_b1 hov_b2 hov_b3 hov_ba hov_bx hov_r_bb hov_r_ib
 refine tree_a rfl (fun K hK => ?_)
 clear br_
 replace Hbr := Lib.hid (Hbr.out.up HT.out)
 replace HG := Lib.hid (HG.out.up HT.out)
 replace HB := hbu HB HT.out
 replace HZS := sz HZS HT.out.size
 have br_ := Hbr.out.c4
 have f5_br := Hbr.out.frozen
 have o5_br_ := br_; clear br_
 obtain ⟨w5, hq5, hg9, hz9, hx9⟩ := put4 Hbr 0 (.int .u64 (dig (mont G.p.m (numOf bb ^ (numOf x % G.q.m) * numOf mm ^ (y % G.q.m))) 0 : Int)) 1 (.int .u64 (dig (mont G.p.m (numOf bb ^ (numOf x % G.q.m) * numOf mm ^ (y % G.q.m))) 1 : Int)) 2 (.int .u64 (dig (mont G.p.m (numOf bb ^ (numOf x % G.q.m) * numOf mm ^ (y % G.q.m))) 2 : Int)) 3 (.int .u64 (dig (mont G.p.m (numOf bb ^ (numOf x % G.q.m) * numOf mm ^ (y % G.q.m))) 3 : Int)) [.int .u64 (dig (mont G.p.m (numOf bb ^ (numOf x % G.q.m) * numOf mm ^ (y % G.q.m))) 0 : Int), .int .u64 (dig (mont G.p.m (numOf bb ^ (numOf x % G.q.m) * numOf mm ^ (y % G.q.m))) 1 : Int), .int .u64 (dig (mont G.p.m (numOf bb ^ (numOf x % G.q.m) * numOf mm ^ (y % G.q.m))) 2 : Int), .int .u64 (dig (mont G.p.m (numOf bb ^ (numOf x % G.q.m) * numOf mm ^ (y % G.q.m))) 3 : Int)] rfl
 replace HG := Lib.hid (HG.out.grown hg9.out (sne (by have g0 := HZS.out; omega)))
 replace HB := hbg HB hg9 (by have g0 := HZS.out; omega)
 replace HZS := sz HZS hz9.out
 replace Hbr := hx9
 have HGR := Lib.hid (((below_grown HT.out).but _).trans hg9.out)
 clear hx9 hg9 hz9
 have br_ := Hbr.out.c4
 clear HT
 go_simp
 try rw [hq5]
 refine hK _ _ ⟨⟨⟨w5, HGR.out⟩, rfl⟩, ?_⟩
 clear hK K HGR hq5 o5_br_ f5_br
 repeat (refine tree_q rfl rfl ?_; go_big_quiet_step (fail); refine wpQuiet_nil ?_)
 refine tree_end ?_
 go_wp2_with fail
 simp [bodyPost, results, Try.results162, go_sem, br_]
 exact HB.out
end Go.Proofs.Ytipgjookfdkciaa
namespace Go.Proofs.Ytipgjookfdkciaa
open Go.RowKit
def hold2 (G : GP) (x : ByteArray) (b m : ByteArray) : Bool := decide (lowN G (numOf b ^ (numOf x % G.q.m)) = lowN G (numOf m))
def hold1 (G : GP) (k : ClaimA) (x : ByteArray) : Bool := (List.zipWith (hold2 G x) k.bases k.images).all id
def holdP (G : GP) (l : List ClaimA) (xs : List ByteArray) : Bool := (List.zipWith (hold1 G) l xs).all id
theorem gSame_b (G : GP) (ok : G.Ok) (gb x y : Nat) (b : Bool) (hb : decide (lowN G x = lowN G y) = b) (w : World) (hG : GroupAt w gb G) :
  Calls Try.prog 157 #[.pointer (some ⟨gb, 0, none⟩), elV G x, elV G y] w (Gives (.bool b) w) := by
 subst hb
 exact gSame_any G ok gb x y w hG
theorem zalls_snoc {α β : Type} {f : α → β → Bool} {l : List α} {m : List β} {j : Nat} (hl : j < l.length) (hm : j < m.length) (h : ((List.zipWith f l m).take j).all id = true) (h1 : f l[j] m[j] = true) : ((List.zipWith f l m).take (j + 1)).all id = true := by
 rw [List.take_succ_eq_append_getElem (by rw [List.length_zipWith]; omega), List.all_append, h, List.getElem_zipWith, h1]
 rfl
theorem zalls_not {α β : Type} {f : α → β → Bool} {l : List α} {m : List β} {j : Nat} (hl : j < l.length) (hm : j < m.length) (h1 : f l[j] m[j] = false) : (List.zipWith f l m).all id = false := by
 rw [List.all_eq_false]
 exact ⟨(List.zipWith f l m)[j]'(by rw [List.length_zipWith]; omega), List.getElem_mem _, by rw [List.getElem_zipWith]; simp [h1]⟩
theorem zalls_end {α β : Type} {f : α → β → Bool} {l : List α} {m : List β} {n : Nat} (hl : l.length = n) (h : ((List.zipWith f l m).take n).all id = true) : (List.zipWith f l m).all id = true := by
 rwa [List.take_of_length_le (by rw [List.length_zipWith]; omega)] at h
theorem holds_any (G : GP) (ok : G.Ok) (gb : Nat) (rs : List ClaimR) (n : Nat) (hrs : rs.length = n) (a : Option Addr) (c : Nat) (xs : List ByteArray) (hxs : xs.length = n) (ax : Option Addr) (cx : Nat) (hn : n ≤ 64) (hsh : ∀ r ∈ rs, r.k.bases.length ≤ 8 ∧ r.k.images.length = r.k.bases.length) (b : Bool) (hb : holdP G (rs.map ClaimR.k) xs = b) (w : World) (hG : GroupAt w gb G) (hS : SetAt G w a rs) (hX : Sl w w.heap.size ax (xs.flatMap (limC G.q.m))) :
  Calls Try.prog 113 #[.agg #[.pointer (some ⟨gb, 0, none⟩), .slice a n c], .slice ax n cx] w (Gives (.bool b) w) := by
 have HRS := Lib.hid hrs
 have HXS := Lib.hid hxs
 have HSH := Lib.hid hsh
 have HBB := Lib.hid hb
 have HG := Lib.hid hG
 have OK := Lib.hid ok
 have HS := Lib.hid hS
 have HX := Lib.hid hX
 clear hrs hxs hsh hb hG ok hS hX
 unfold Gives
 go_enter Try.func113, Try.ntmps113
 go_wp2_with fail
 obtain ⟨w1, hq1, hb9, hz9, Hbs⟩ := new1 w 157 [.pointer (some ⟨gb, 0, none⟩), .slice a n c]
 rw [hq1]
 clear hq1
 replace HG := Lib.hid (HG.out.up hb9)
 have HB := Lib.hid hb9
 have HZS := hz9
 clear hb9 hz9
 have bs_ := Hbs.out.c2
 have BL := Lib.hid (Below.refl w1.heap.size w1)
 go_wp2_with fail
 go_loopw [12] (fun i wr => ∃ j : Nat, j ≤ n ∧ i = .int .i64 j ∧ Hid (Below w1.heap.size w1 wr) ∧ Hid (((List.zipWith (hold1 G) (rs.map ClaimR.k) xs).take j).all id = true)) (fun i _ => n - (intOf i).toNat)
 case atStart => exact ⟨0, Nat.zero_le _, rfl, BL, rfl⟩
 case round =>
  obtain ⟨j, hj, rfl, HL9, HAL⟩ := hrel
  have hb9 := HL9.out
  clear HL9 bs_
  replace Hbs := Lib.hid (Hbs.out.up hb9)
  replace HG := Lib.hid (HG.out.up hb9)
  replace BL := hbu BL hb9
  replace HB := hbu HB hb9
  replace HZS := sz HZS hb9.size
  clear hb9
  have bs_ := Hbs.out.c2
  by_cases hjn : j < n
  ·have hjr : j < rs.length := by rw [HRS.out]; exact hjn
   have hjx : j < xs.length := by rw [HXS.out]; exact hjn
   obtain ⟨ba, oa, rfl, hba⟩ := HS.out.at j hjr
   obtain ⟨bx, ox, rfl, hbx0⟩ := HX.out.adr (flat_ne (limC_len _) (by omega) (List.length_pos_iff.1 (by omega)))
   have HSA := Lib.hid (HS.out.up HB.out)
   have hcx := ((HX.out.up HB.out).elemS (limC_len _) (by omega) j hjx).2
   have hca := HSA.out.cells (Below.refl _ _) j hjr
   have HAT := Lib.hid (HSA.out.e _ (List.getElem_mem hjr))
   have HSJ := Lib.hid (HSH.out _ (List.getElem_mem hjr))
   have HSN := Lib.hid (zalls_snoc (f := hold1 G) (l := rs.map ClaimR.k) (m := xs) (by simpa using hjr) hjx HAL.out)
   have HNO := Lib.hid (zalls_not (f := hold1 G) (l := rs.map ClaimR.k) (m := xs) (by simpa using hjr) hjx)
   rw [List.getElem_map] at HSN HNO
   have HPW := Lib.hid (fun (w1 : World) (x : Nat) (h1 : GroupAt w1 gb G) (h2 : SetAt G w1 (some ⟨ba, oa, none⟩) rs) => powers_any G OK.out gb rs (some ⟨ba, oa, none⟩) c j hjr x HSJ.out.1 w1 h1 h2)
   rw [HRS.out] at HPW
   generalize rs[j] = r at *
   generalize xs[j] = x at *
   have hca_0 := hca 0 _ rfl
   rw [Nat.add_zero] at hca_0
   have hca_1 := hca 1 _ rfl
   have hca_2 := hca 2 _ rfl
   clear hca
   have hcx_0 := hcx 0 _ rfl
   rw [Nat.add_zero] at hcx_0
   have hcx_1 := hcx 1 _ rfl
   have hcx_2 := hcx 2 _ rfl
   have hcx_3 := hcx 3 _ rfl
   clear hcx
   have hbx := Nat.lt_of_lt_of_le hbx0 HB.out.size
   have BR := Lib.hid (Below.refl wr.heap.size wr)
   have o2_bs_ := bs_; clear bs_
   obtain ⟨w2, hq2, hb9, hz9, Hbc⟩ := new1 wr 199 [.pointer (some ⟨r.pb, r.po, none⟩), .slice (some ⟨r.bb, r.bo, none⟩) r.k.bases.length r.bc, .slice (some ⟨r.ib, r.io, none⟩) r.k.images.length r.ic]
   replace Hbs := Lib.hid (Hbs.out.up hb9)
   replace HG := Lib.hid (HG.out.up hb9)
   replace BL := hbu BL hb9
   replace BR := hbu BR hb9
   replace HB := hbu HB hb9
   replace HZS := sz HZS hz9.out
   clear hb9 hz9
   have bs_ := Hbs.out.c2
   have bc_ := Hbc.out.c3
   go_wp2_with fail
   clear hq2 o2_bs_
   have hbx' := Nat.lt_of_lt_of_le hbx BR.out.size
   have hcx_0' := (BR.out.cell (p := ⟨bx, ox + j * 4, none⟩) hbx).trans hcx_0
   have hcx_1' := (BR.out.cell (p := ⟨bx, ox + j * 4 + 1, none⟩) hbx).trans hcx_1
   have hcx_2' := (BR.out.cell (p := ⟨bx, ox + j * 4 + 2, none⟩) hbx).trans hcx_2
   have hcx_3' := (BR.out.cell (p := ⟨bx, ox + j * 4 + 3, none⟩) hbx).trans hcx_3
   clear hca_0 hca_1 hca_2 hcx_0 hcx_1 hcx_2 hcx_3
   have HT := Lib.hid (show Below w2.heap.size w2 w2.drew from (Below.refl _ _).drew)
   have hl_bs := Hbs.out.lt
   have hl_bc := Hbc.out.lt
   refine wp_region_tree (fun wq9 => ∃ E : Over w2, wq9 = E.w) ((.qs [0, 1, 2, 3, 4, 5, 8] (.a 6 (.qs [7] .done)))) (by kernel_rfl) (by kernel_rfl) (fun _ _ d _ _ h => by cases d <;> exact h) ⟨⟨_, HT.out⟩, rfl⟩ ?_
   have hov_bs := fun (E : Over w2) o => E.cell (b := w.heap.size) o hl_bs
   have hov_bc := fun (E : Over w2) o => E.cell (b := wr.heap.size) o hl_bc
   have hov_bx := fun (E : Over w2) o => E.cell (b := bx) o hbx'
   simp only [Tree.qs]
   repeat (refine tree_q rfl rfl ?_; go_big_quiet_step (fail); refine wpQuiet_nil ?_)
   refine tree_a rfl (fun K hK => ?_)
   go_simp
   refine (HPW.out _ (numOf x) (HG.out.up HT.out) (HSA.out.up (below_up BR.out HT.out))).mono ?_
   rintro e w3 ⟨a9, c9, rfl, hb9, hs9⟩
   replace HT := Lib.hid (below_up HT.out hb9)
   replace HZS := sz HZS (show w2.heap.size ≤ w3.heap.size from HT.out.size)
   clear hb9
   have HP := Lib.hid hs9
   clear hs9
   refine hK _ _ ⟨⟨⟨w3, HT.out⟩, rfl⟩, ?_⟩
   clear hK K
   repeat (refine tree_q rfl rfl ?_; go_big_quiet_step (fail); refine wpQuiet_nil ?_)
   refine tree_end ?_
   clear hov_bs hl_bs hov_bc hl_bc hov_bx bs_
   replace Hbs := Lib.hid (Hbs.out.up HT.out)
   clear bc_
   replace Hbc := Lib.hid (Hbc.out.up HT.out)
   replace HG := Lib.hid (HG.out.up HT.out)
   replace BL := hbu BL HT.out
   replace BR := hbu BR HT.out
   replace HB := hbu HB HT.out
   replace HZS := sz HZS HT.out.size
   clear HT
   have bs_ := Hbs.out.c2
   have bc_ := Hbc.out.c3
   clear hcx_0' hcx_1' hcx_2' hcx_3' hbx'
   have hm8 := HSJ.out.1
   obtain ⟨wo, rfl⟩ : ∃ wo : World, wo = wr := ⟨_, rfl⟩
   have BI := Lib.hid (Below.refl w3.heap.size w3)
   go_wp2_with fail
   go_loopw [25] (fun i wr => ∃ t : Nat, t ≤ r.k.bases.length ∧ i = .int .i64 t ∧ Hid (Below w3.heap.size w3 wr) ∧ Hid (((List.zipWith (hold2 G x) r.k.bases r.k.images).take t).all id = true)) (fun i _ => r.k.bases.length - (intOf i).toNat)
   case atStart => exact ⟨0, Nat.zero_le _, rfl, BI, rfl⟩
   case round =>
    obtain ⟨t, ht, rfl, HL9, HAI⟩ := hrel
    have hb9 := HL9.out
    clear HL9 bs_
    replace Hbs := Lib.hid (Hbs.out.up hb9)
    clear bc_
    replace Hbc := Lib.hid (Hbc.out.up hb9)
    replace HG := Lib.hid (HG.out.up hb9)
    replace BL := hbu BL hb9
    replace BR := hbu BR hb9
    replace BI := hbu BI hb9
    replace HB := hbu HB hb9
    replace HZS := sz HZS hb9.size
    clear hb9
    have bs_ := Hbs.out.c2
    have bc_ := Hbc.out.c3
    by_cases htm : t < r.k.bases.length
    ·have hti : t < r.k.images.length := by rw [HSJ.out.2]; exact htm
     obtain ⟨b9, o9, rfl, hb90, hb9', hcp⟩ := HP.out.elemUp BI.out (powC_len G _) (by omega) t htm
     have hci := ((HAT.out.i.up BR.out).elemS (limC_len _) (by omega) t hti).2
     have hil := Nat.lt_of_lt_of_le HAT.out.il BR.out.size
     have HTN := Lib.hid (zalls_snoc (f := hold2 G x) htm hti HAI.out)
     have HTO := Lib.hid (zalls_not (f := hold2 G x) htm hti)
     generalize r.k.bases[t] = bb at *
     generalize r.k.images[t] = mm at *
     obtain ⟨q, hq⟩ : ∃ q, hold2 G x bb mm = q := ⟨_, rfl⟩
     have HQ := Lib.hid hq
     clear hq
     have hcp_0 := hcp 0 _ rfl
     rw [Nat.add_zero] at hcp_0
     have hcp_1 := hcp 1 _ rfl
     have hcp_2 := hcp 2 _ rfl
     have hcp_3 := hcp 3 _ rfl
     clear hcp
     have hci_0 := hci 0 _ rfl
     rw [Nat.add_zero] at hci_0
     have hci_1 := hci 1 _ rfl
     have hci_2 := hci 2 _ rfl
     have hci_3 := hci 3 _ rfl
     clear hci
     have BQ := Lib.hid (Below.refl wr.heap.size wr)
     have o4_bs_ := bs_; clear bs_
     have o4_bc_ := bc_; clear bc_
     obtain ⟨w4, hq4, hb9, hz9, Hbp⟩ := new1 wr 111 [.int .u64 (dig (mont G.p.m (numOf bb ^ (numOf x % G.q.m))) 0 : Int), .int .u64 (dig (mont G.p.m (numOf bb ^ (numOf x % G.q.m))) 1 : Int), .int .u64 (dig (mont G.p.m (numOf bb ^ (numOf x % G.q.m))) 2 : Int), .int .u64 (dig (mont G.p.m (numOf bb ^ (numOf x % G.q.m))) 3 : Int)]
     replace Hbs := Lib.hid (Hbs.out.up hb9)
     replace Hbc := Lib.hid (Hbc.out.up hb9)
     replace HG := Lib.hid (HG.out.up hb9)
     replace BL := hbu BL hb9
     replace BR := hbu BR hb9
     replace BI := hbu BI hb9
     replace BQ := hbu BQ hb9
     replace HB := hbu HB hb9
     replace HZS := sz HZS hz9.out
     clear hb9 hz9
     have bs_ := Hbs.out.c2
     have bc_ := Hbc.out.c3
     have bp_ := Hbp.out.c4
     go_wp2_with fail
     clear hq4 o4_bc_ o4_bs_
     have hil' := Nat.lt_of_lt_of_le hil BQ.out.size
     have hci_0' := (BQ.out.cell (p := ⟨r.ib, r.io + t * 4, none⟩) hil).trans hci_0
     have hci_1' := (BQ.out.cell (p := ⟨r.ib, r.io + t * 4 + 1, none⟩) hil).trans hci_1
     have hci_2' := (BQ.out.cell (p := ⟨r.ib, r.io + t * 4 + 2, none⟩) hil).trans hci_2
     have hci_3' := (BQ.out.cell (p := ⟨r.ib, r.io + t * 4 + 3, none⟩) hil).trans hci_3
     clear hci_0 hci_1 hci_2 hci_3 hcp_0 hcp_1 hcp_2 hcp_3
     have hl_bs := Hbs.out.lt
     have hl_bc := Hbc.out.lt
     have hl_bp := Hbp.out.lt
     refine wp_region_over (by kernel_rfl) (by kernel_rfl) ?_
     have hov_bs := fun (E : Over w4) o => E.cell (b := w.heap.size) o hl_bs
     have hov_bc := fun (E : Over w4) o => E.cell (b := wo.heap.size) o hl_bc
     have hov_bp := fun (E : Over w4) o => E.cell (b := wr.heap.size) o hl_bp
     have hov_r_ib := fun (E : Over w4) o => E.cell (b := r.ib) o hil'
     repeat (go_big_quiet_step (first | (go_at_call 157; exact calls_over (gSame_b G OK.out gb (numOf bb ^ (numOf x % G.q.m)) (numOf mm) q HQ.out _ (HG.out.up (Over.h _))))))
     all_goals (try unfold elV limbV)
     repeat (go_big_quiet_step (first | (go_at_call 157; exact calls_over (gSame_b G OK.out gb (numOf bb ^ (numOf x % G.q.m)) (numOf mm) q HQ.out _ (HG.out.up (Over.h _))))))
     all_goals (try unfold elV limbV)
     repeat (go_big_quiet_step (first | (go_at_call 157; exact calls_over (gSame_b G OK.out gb (numOf bb ^ (numOf x % G.q.m)) (numOf mm) q HQ.out _ (HG.out.up (Over.h _))))))
     all_goals (try unfold ciphV)
     refine wpQuiet_nil ?_
     rintro _ ⟨E, rfl⟩
     clear hov_bs hl_bs hov_bc hl_bc hov_bp hl_bp hov_r_ib bs_
     replace Hbs := Lib.hid (Hbs.out.up E.h)
     clear bc_
     replace Hbc := Lib.hid (Hbc.out.up E.h)
     clear bp_
     replace Hbp := Lib.hid (Hbp.out.up E.h)
     replace HG := Lib.hid (HG.out.up E.h)
     replace BL := hbu BL E.h
     replace BR := hbu BR E.h
     replace BI := hbu BI E.h
     replace BQ := hbu BQ E.h
     replace HB := hbu HB E.h
     replace HZS := sz HZS E.h.size
     obtain ⟨w5, hq9⟩ : ∃ W9 : World, E.w = W9 := ⟨_, rfl⟩
     rw [hq9] at Hbs Hbc Hbp HG BL BR BI BQ HB HZS ⊢
     clear hq9 E
     have bs_ := Hbs.out.c2
     have bc_ := Hbc.out.c3
     have bp_ := Hbp.out.c4
     cases q
     ·obtain rfl : b = false := by rw [← HBB.out]; exact HNO.out (HTO.out HQ.out)
      go_wp2_with fail
      go_ret
      exact ⟨rfl, HB.out⟩
     ·go_wp2_with fail
      go_roundw
      case rel => exact ⟨t + 1, by omega, by go_num, BI, HTN.out HQ.out⟩
      case measure => simp [intOf]; omega
    ·have htm' : t = r.k.bases.length := by omega
     subst htm'
     have HHT := Lib.hid (HSN.out (zalls_end rfl HAI.out))
     go_wp2_with fail
     go_roundw
     case rel => exact ⟨j + 1, by omega, by go_num, BL, HHT⟩
     case measure => simp [intOf]; omega
  ·have hjn' : j = n := by omega
   subst hjn'
   obtain rfl : b = true := by rw [← HBB.out]; exact zalls_end (by rw [List.length_map]; exact HRS.out) HAL.out
   go_wp2_with fail
   go_ret
   exact ⟨rfl, HB.out⟩
end Go.Proofs.Ytipgjookfdkciaa
namespace Go.Proofs.Ytipgjookfdkciaa
open Go.RowKit
def claim0 : ClaimA := ⟨none, 0, [], none, 0, []⟩
def valF (G : GP) (l : List ClaimA) (xs : List ByteArray) (i t : Nat) : Nat := numOf ((l.getD i claim0).bases.getD t ⟨#[]⟩) ^ (numOf (xs.getD i ⟨#[]⟩) % G.q.m)
def valB (G : GP) (y : Nat) (l : List ClaimA) (xs : List ByteArray) (i t : Nat) : Nat := valF G l xs i t * numOf ((l.getD i claim0).images.getD t ⟨#[]⟩) ^ (y % G.q.m)
theorem valF_eq (G : GP) {rs : List ClaimR} {xs : List ByteArray} {i t : Nat} (hi : i < rs.length) (hx : i < xs.length) (ht : t < rs[i].k.bases.length) : valF G (rs.map ClaimR.k) xs i t = numOf rs[i].k.bases[t] ^ (numOf xs[i] % G.q.m) := by
 unfold valF
 simp [List.getD, hi, hx, ht]
theorem valB_eq (G : GP) (y : Nat) {rs : List ClaimR} {xs : List ByteArray} {i t : Nat} (hi : i < rs.length) (hx : i < xs.length) (ht : t < rs[i].k.bases.length) (hti : t < rs[i].k.images.length) : valB G y (rs.map ClaimR.k) xs i t = numOf rs[i].k.bases[t] ^ (numOf xs[i] % G.q.m) * numOf rs[i].k.images[t] ^ (y % G.q.m) := by
 unfold valB
 rw [valF_eq G hi hx ht]
 simp [List.getD, hi, hti]
def lens (l : List ClaimA) : List Nat := l.map fun k => k.bases.length
theorem back_any (G : GP) (ok : G.Ok) (gb y : Nat) (hy : y ≤ G.q.m) (rs : List ClaimR) (n : Nat) (hrs : rs.length = n) (hn : n ≤ 64) (hm8 : ∀ r ∈ rs, r.k.bases.length ≤ 8 ∧ r.k.images.length = r.k.bases.length) (a : Option Addr) (c : Nat) (xs : List ByteArray) (hxs : xs.length = n) (ax : Option Addr) (cx : Nat) (w : World) (hG : GroupAt w gb G) (hS : SetAt G w a rs) (hX : Sl w w.heap.size ax (xs.flatMap (limC G.q.m))) :
  Calls Try.prog 118 #[.agg #[.pointer (some ⟨gb, 0, none⟩), .slice a n c], scV G y, .slice ax n cx] w (RowsF (eachA G (valB G (G.q.m - y) (rs.map ClaimR.k) xs) (lens (rs.map ClaimR.k)) n) w) := by
 have HRS := Lib.hid hrs
 have HXS := Lib.hid hxs
 have HM8 := Lib.hid hm8
 have HG := Lib.hid hG
 have OK := Lib.hid ok
 have HS := Lib.hid hS
 have HX := Lib.hid hX
 have HY := Lib.hid hy
 have HML := Lib.hid (show rs.map (fun r => r.k.bases.length) = lens (rs.map ClaimR.k) by unfold lens; rw [List.map_map]; rfl)
 have HLG := Lib.hid (show ∀ i (hi : i < rs.length), (lens (rs.map ClaimR.k)).getD i 0 = rs[i].k.bases.length from fun i hi => by unfold lens; simp [List.getD, hi])
 clear hrs hxs hm8 hG ok hS hX hy
 unfold scV limbV
 go_enter Try.func118, Try.ntmps118
 go_wp2_with fail
 obtain ⟨w1, hq1, hb9, hz9, Hbs, Hbc, Hbx⟩ := new3 w 157 [.pointer (some ⟨gb, 0, none⟩), .slice a n c] 91 [.int .u64 (dig (mont G.q.m y) 0 : Int), .int .u64 (dig (mont G.q.m y) 1 : Int), .int .u64 (dig (mont G.q.m y) 2 : Int), .int .u64 (dig (mont G.q.m y) 3 : Int)] 84 [.slice ax n cx]
 rw [hq1]
 clear hq1
 replace HG := Lib.hid (HG.out.up hb9)
 have HB := Lib.hid hb9
 have HZS := hz9
 clear hb9 hz9
 have bs_ := Hbs.out.c2
 have bc_ := Hbc.out.c4
 have bx_ := Hbx.out.c1
 go_wp2_with fail
 refine (gNeg_any G OK.out gb y HY.out w1 HG.out).mono ?_
 rintro e w2 ⟨rfl, hb9⟩
 clear bs_
 replace Hbs := Lib.hid (Hbs.out.up hb9)
 clear bc_
 replace Hbc := Lib.hid (Hbc.out.up hb9)
 clear bx_
 replace Hbx := Lib.hid (Hbx.out.up hb9)
 replace HG := Lib.hid (HG.out.up hb9)
 replace HB := hbu HB hb9
 replace HZS := sz HZS hb9.size
 clear hb9
 have bs_ := Hbs.out.c2
 have bc_ := Hbc.out.c4
 have bx_ := Hbx.out.c1
 unfold scV limbV
 have o3_bs_ := bs_; clear bs_
 have o3_bc_ := bc_; clear bc_
 have o3_bx_ := bx_; clear bx_
 obtain ⟨w3, hq3, hb9, hz9, Hbm⟩ := new1 w2 91 [.int .u64 (dig (mont G.q.m (G.q.m - y)) 0 : Int), .int .u64 (dig (mont G.q.m (G.q.m - y)) 1 : Int), .int .u64 (dig (mont G.q.m (G.q.m - y)) 2 : Int), .int .u64 (dig (mont G.q.m (G.q.m - y)) 3 : Int)]
 replace Hbs := Lib.hid (Hbs.out.up hb9)
 replace Hbc := Lib.hid (Hbc.out.up hb9)
 replace Hbx := Lib.hid (Hbx.out.up hb9)
 replace HG := Lib.hid (HG.out.up hb9)
 replace HB := hbu HB hb9
 replace HZS := sz HZS hz9.out
 clear hb9 hz9
 have bs_ := Hbs.out.c2
 have bc_ := Hbc.out.c4
 have bx_ := Hbx.out.c1
 have bm_ := Hbm.out.c4
 go_wp2_with fail
 clear hq3 o3_bx_ o3_bc_ o3_bs_
 have HB9 := Lib.hid HB.out.size
 refine (eachBack G OK.out gb rs n HRS.out hn (lens (rs.map ClaimR.k)) HML.out (fun r hr => (HM8.out r hr).1) a c _ _ _ (valB G (G.q.m - y) (rs.map ClaimR.k) xs) w3 HG.out (HS.out.up HB.out) (fun w9 hb9 i t hi ht => by rw [HLG.out i (by rw [HRS.out]; exact hi)] at ht; have hti := (HM8.out _ (List.getElem_mem (show i < rs.length by rw [HRS.out]; exact hi))).2; rw [valB_eq G _ (by rw [HRS.out]; exact hi) (by rw [HXS.out]; exact hi) ht (by omega)]; exact back1_any G OK.out gb _ _ _ (G.q.m - y) rs n a c xs ax cx i t (by rw [HRS.out]; exact hi) (by rw [HXS.out]; exact hi) ht (by omega) w9 (HG.out.up hb9) (HS.out.up (below_up HB.out hb9)) (HX.out.up (below_up HB.out hb9)) HRS.out HXS.out (Hbs.out.up hb9) (Hbx.out.up hb9) (Hbm.out.up hb9))).mono ?_
 rintro e w4 ⟨hb9, a9, c9, ro, rfl, hm9, hr9, hz9⟩
 clear bs_
 replace Hbs := Lib.hid (Hbs.out.up hb9)
 clear bc_
 replace Hbc := Lib.hid (Hbc.out.up hb9)
 clear bx_
 replace Hbx := Lib.hid (Hbx.out.up hb9)
 clear bm_
 replace Hbm := Lib.hid (Hbm.out.up hb9)
 replace HG := Lib.hid (HG.out.up hb9)
 replace HB := hbu HB hb9
 replace HZS := sz HZS hb9.size
 have HMR := Lib.hid hm9
 clear hm9
 have HRR := Lib.hid hr9
 clear hr9
 have HZR := Lib.hid hz9
 clear hz9 hb9
 have bs_ := Hbs.out.c2
 have bc_ := Hbc.out.c4
 have bx_ := Hbx.out.c1
 have bm_ := Hbm.out.c4
 go_wp2_with fail
 go_ret
 exact ⟨HB.out, a9, c9, ro, rfl, HMR.out, HRR.out, fresh_le HZR.out HB9.out⟩
end Go.Proofs.Ytipgjookfdkciaa
namespace Go.Proofs.Ytipgjookfdkciaa
open Go.RowKit
def openK (k : Int) (l : List ClaimA) (xs : List ByteArray) : Nat := if 1 ≤ k ∧ k ≤ 3 then openE (grp k.toNat) l xs else 1
def holdK (k : Int) (l : List ClaimA) (xs : List ByteArray) : Bool := decide (openK k l xs = 0) && holdP (grp k.toNat) l xs
def backE (k : Int) (l : List ClaimA) (ch : ByteArray) (xs : List ByteArray) : Nat := if openK k l xs ≠ 0 then openK k l xs else if isSc (grp k.toNat).q.m (grp k.toNat).size ch = true then 0 else 6
def backK (k : Int) (l : List ClaimA) (ch : ByteArray) (xs : List ByteArray) : List (List ByteArray) := if backE k l ch xs = 0 then eachA (grp k.toNat) (valB (grp k.toNat) ((grp k.toNat).q.m - numOf ch) l xs) (lens l) l.length else []
def RowsE (er : Int) (L : List (List ByteArray)) (w : World) (e : Ending) (w' : World) : Prop :=
 Below w.heap.size w w' ∧ ∃ a c ro, e = .returned (.tuple #[.slice a L.length c, .int .i64 er]) ∧ ro.map RowA.l = L ∧ RowsAt w' a ro ∧ (∀ r ∈ ro, r.Ok)
theorem rowsE_none (er : Int) {w w' : World} (h : Below w.heap.size w w') : RowsE er [] w (.returned (.tuple #[.slice none 0 0, .int .i64 er])) w' := ⟨h, none, 0, [], rfl, rfl, ⟨Or.inl rfl, fun _ h => by cases h⟩, fun _ h => by cases h⟩
theorem open_any (k : Int) (l : List ClaimA) (al : Option Addr) (cl : Nat) (xs : List ByteArray) (ax : Option Addr) (cx : Nat) (hn : xs.length ≤ 8796093022207) (w : World) (hC : ClaimsAt w al l) (hS : Sl w w.heap.size ax (xs.map Value.string)) :
  Calls Try.prog 112 #[.int .i64 k, .slice al l.length cl, .slice ax xs.length cx] w (OpenS (grp k.toNat) (openK k l xs) l xs w) := by
 unfold openK
 by_cases hk : 1 ≤ k ∧ k ≤ 3
 ·rw [if_pos hk]
  obtain ⟨j, rfl⟩ : ∃ j : Nat, k = j := ⟨k.toNat, by omega⟩
  exact open_some j (by omega) (by omega) l al cl xs ax cx hn w hC hS
 ·rw [if_neg hk]
  refine (open_none k hk l xs _ _ w).mono ?_
  rintro e w' ⟨hb, p, q, n9, c9, v, he, _⟩
  exact ⟨hb, p, q, n9, c9, v, he, fun h => by cases h⟩
theorem openK_ok {k : Int} {l : List ClaimA} {xs : List ByteArray} (h : openK k l xs = 0) : (1 ≤ k ∧ k ≤ 3) ∧ shapeE l = 0 ∧ l.all (cElems (grp k.toNat)) = true ∧ xs.length = l.length ∧ xs.all (isSc (grp k.toNat).q.m (grp k.toNat).size) = true := by
 unfold openK at h
 by_cases hk : 1 ≤ k ∧ k ≤ 3
 ·rw [if_pos hk] at h
  unfold openE at h
  by_cases hw : wrongE (grp k.toNat) l = 0
  ·rw [if_neg (by simpa using hw)] at h
   unfold scE at h
   by_cases hl : xs.length = l.length
   ·rw [if_pos hl] at h
    by_cases ha : xs.all (isSc (grp k.toNat).q.m (grp k.toNat).size) = true
    ·exact ⟨hk, (wrong_ok hw).1, (wrong_ok hw).2, hl, ha⟩
    ·rw [if_neg ha] at h; cases h
   ·rw [if_neg hl] at h; cases h
  ·rw [if_pos hw] at h; exact absurd h hw
 ·rw [if_neg hk] at h; cases h
theorem sHolds_any (k : Int) (l : List ClaimA) (al : Option Addr) (cl : Nat) (xs : List ByteArray) (ax : Option Addr) (cx : Nat) (hn : xs.length ≤ 8796093022207) (w : World) (hC : ClaimsAt w al l) (hS : Sl w w.heap.size ax (xs.map Value.string)) :
  Calls Try.prog 44 #[.int .i64 k, .slice al l.length cl, .slice ax xs.length cx] w (Gives (.bool (holdK k l xs)) w) := by
 have HC := Lib.hid hC
 have HS := Lib.hid hS
 obtain ⟨b, hb⟩ : ∃ b, holdK k l xs = b := ⟨_, rfl⟩
 rw [hb]
 have HO := Lib.hid (open_any k l al cl xs ax cx hn w hC hS)
 obtain ⟨z, hz⟩ : ∃ z, openK k l xs = z := ⟨_, rfl⟩
 rw [hz] at HO
 clear hC hS
 unfold holdK at hb
 rw [hz] at hb
 have HBB := Lib.hid hb
 clear hb
 unfold Gives
 by_cases h0 : z = 0
 ·subst h0
  go_enter Try.func44, Try.ntmps44
  go_wp2_with fail
  refine (HO.out).mono ?_
  rintro e w1 ⟨hb9, pp, qa, qn, qc, v, rfl, hok⟩
  have HB := Lib.hid hb9
  have HZS := Lib.hid hb9.size
  have HOK := Lib.hid hok
  clear hok hb9
  obtain ⟨gb, rs, a, c, a', c', e1, e2, rfl, hrk, hg9, hs9, hp9, hx9⟩ := HOK.out rfl
  obtain rfl := Value.pointer.inj e1
  obtain ⟨rfl, rfl, rfl⟩ := Value.slice.inj e2
  obtain ⟨hk9, hsh, hel, hxl, hxa⟩ := openK_ok hz
  have HRK := Lib.hid hrk
  have HRL := Lib.hid (show rs.length = l.length by rw [← hrk, List.length_map])
  have HG := Lib.hid hg9
  have HST := Lib.hid hs9
  have HXX := Lib.hid hx9
  have HXL := Lib.hid hxl
  have HXA := Lib.hid hxa
  have hl64 := (shape_ok hsh).2.1
  have HSHP := Lib.hid (show ∀ r ∈ rs, r.k.bases.length ≤ 8 ∧ r.k.images.length = r.k.bases.length from fun r hr => by
   have h9 := (shape_ok hsh).2.2 r.k (by rw [← hrk]; exact List.mem_map.2 ⟨r, hr, rfl⟩)
   exact ⟨h9.2.1, h9.2.2⟩)
  have OK := Lib.hid (grp_ok k.toNat (by omega) (by omega))
  rw [show xs.length = rs.length by rw [HXL.out, HRL.out]]
  clear hrk hg9 hs9 hp9 hx9 hsh hel hxl hxa HOK
  have BS := Lib.hid (Below.refl w1.heap.size w1)
  obtain ⟨w2, hq2, hb9, hz9, Hbs⟩ := new1 w1 157 [.pointer (some ⟨gb, 0, none⟩), .slice qa rs.length qc]
  replace BS := hbu BS hb9
  replace HB := hbu HB hb9
  replace HZS := sz HZS hz9.out
  clear hb9 hz9
  have bs_ := Hbs.out.c2
  go_wp2_with fail
  clear hq2
  refine (holds_any (grp k.toNat) OK.out gb rs rs.length rfl qa qc xs (by rw [HXL.out, HRL.out]) a' c' (by rw [HRL.out]; exact hl64) HSHP.out b (by rw [HRK.out, ← HBB.out]; simp) w2 (HG.out.up BS.out) (HST.out.up BS.out) (HXX.out.up BS.out)).mono ?_
  rintro e w3 ⟨rfl, hb9⟩
  clear bs_
  replace Hbs := Lib.hid (Hbs.out.up hb9)
  replace BS := hbu BS hb9
  replace HB := hbu HB hb9
  replace HZS := sz HZS hb9.size
  clear hb9
  have bs_ := Hbs.out.c2
  go_wp2_with fail
  go_ret
  exact ⟨rfl, HB.out⟩
 ·obtain rfl : b = false := by rw [← HBB.out, decide_eq_false h0]; rfl
  have hd : ((z : Int) == 0) = false := by simp; omega
  clear h0 hz
  go_enter Try.func44, Try.ntmps44
  go_wp2_with fail
  refine (HO.out).mono ?_
  rintro e w1 ⟨hb9, pp, qa, qn, qc, v, rfl, _⟩
  have HB := Lib.hid hb9
  have HZS := Lib.hid hb9.size
  clear hb9
  obtain ⟨w2, hq2, hb9, hz9, Hbs⟩ := new1 w1 157 [.pointer pp, .slice qa qn qc]
  replace HB := hbu HB hb9
  replace HZS := sz HZS hz9.out
  clear hb9 hz9
  have bs_ := Hbs.out.c2
  go_wp2_with fail
  clear hq2
  go_ret
  exact ⟨rfl, HB.out⟩
theorem sBack_any (k : Int) (l : List ClaimA) (al : Option Addr) (cl : Nat) (ch : ByteArray) (xs : List ByteArray) (ax : Option Addr) (cx : Nat) (hn : xs.length ≤ 8796093022207) (w : World) (hC : ClaimsAt w al l) (hS : Sl w w.heap.size ax (xs.map Value.string)) :
  Calls Try.prog 49 #[.int .i64 k, .slice al l.length cl, .string ch, .slice ax xs.length cx] w (RowsE (backE k l ch xs : Int) (backK k l ch xs) w) := by
 have HC := Lib.hid hC
 have HS := Lib.hid hS
 have HO := Lib.hid (open_any k l al cl xs ax cx hn w hC hS)
 obtain ⟨er, her⟩ : ∃ er, backE k l ch xs = er := ⟨_, rfl⟩
 obtain ⟨L, hL⟩ : ∃ L, backK k l ch xs = L := ⟨_, rfl⟩
 obtain ⟨z, hz⟩ : ∃ z, openK k l xs = z := ⟨_, rfl⟩
 obtain ⟨bc, hbc⟩ : ∃ b, isSc (grp k.toNat).q.m (grp k.toNat).size ch = b := ⟨_, rfl⟩
 have HZ := Lib.hid (show z ≠ 0 → er = z ∧ L = [] from fun h => by
  have e1 : er = z := by rw [← her]; unfold backE; rw [hz, if_pos h]
  exact ⟨e1, by rw [← hL]; unfold backK; rw [her, e1, if_neg h]⟩)
 have HF := Lib.hid (show z = 0 → bc = false → er = 6 ∧ L = [] from fun h g => by
  have e1 : er = 6 := by rw [← her]; unfold backE; rw [hz, if_neg (by simpa using h), hbc, g, if_neg (by decide)]
  exact ⟨e1, by rw [← hL]; unfold backK; rw [her, e1, if_neg (by decide)]⟩)
 have HT := Lib.hid (show z = 0 → bc = true → er = 0 ∧ L = eachA (grp k.toNat) (valB (grp k.toNat) ((grp k.toNat).q.m - numOf ch) l xs) (lens l) l.length from fun h g => by
  have e1 : er = 0 := by rw [← her]; unfold backE; rw [hz, if_neg (by simpa using h), hbc, g, if_pos rfl]
  exact ⟨e1, by rw [← hL]; unfold backK; rw [her, e1, if_pos rfl]⟩)
 rw [her, hL]
 rw [hz] at HO
 have HBC := Lib.hid hbc
 clear hC hS hbc her hL
 by_cases h0 : z = 0
 ·subst h0
  go_enter Try.func49, Try.ntmps49
  go_wp2_with fail
  refine (HO.out).mono ?_
  rintro e w1 ⟨hb9, pp, qa, qn, qc, v, rfl, hok⟩
  have HB := Lib.hid hb9
  have HZS := Lib.hid hb9.size
  have HOK := Lib.hid hok
  clear hok hb9
  obtain ⟨gb, rs, a, c, a', c', e1, e2, rfl, hrk, hg9, hs9, hp9, hx9⟩ := HOK.out rfl
  obtain rfl := Value.pointer.inj e1
  obtain ⟨rfl, rfl, rfl⟩ := Value.slice.inj e2
  obtain ⟨hk9, hsh, hel, hxl, hxa⟩ := openK_ok hz
  have HRK := Lib.hid hrk
  have HRL := Lib.hid (show rs.length = l.length by rw [← hrk, List.length_map])
  have HG := Lib.hid hg9
  have HST := Lib.hid hs9
  have HXX := Lib.hid hx9
  have HXL := Lib.hid hxl
  have HXA := Lib.hid hxa
  have hl64 := (shape_ok hsh).2.1
  have HSHP := Lib.hid (show ∀ r ∈ rs, r.k.bases.length ≤ 8 ∧ r.k.images.length = r.k.bases.length from fun r hr => by
   have h9 := (shape_ok hsh).2.2 r.k (by rw [← hrk]; exact List.mem_map.2 ⟨r, hr, rfl⟩)
   exact ⟨h9.2.1, h9.2.2⟩)
  have OK := Lib.hid (grp_ok k.toNat (by omega) (by omega))
  rw [show xs.length = rs.length by rw [HXL.out, HRL.out]]
  clear hrk hg9 hs9 hp9 hx9 hsh hel hxl hxa HOK
  have BS := Lib.hid (Below.refl w1.heap.size w1)
  obtain ⟨w2, hq2, hb9, hz9, Hbs⟩ := new1 w1 157 [.pointer (some ⟨gb, 0, none⟩), .slice qa rs.length qc]
  replace BS := hbu BS hb9
  replace HB := hbu HB hb9
  replace HZS := sz HZS hz9.out
  clear hb9 hz9
  have bs_ := Hbs.out.c2
  go_wp2_with fail
  clear hq2
  refine (gScalar_m (grp k.toNat) OK.out gb ch bc HBC.out w2 (HG.out.up BS.out)).mono ?_
  rintro e w3 ⟨x, rfl, hb9, hx9⟩
  clear bs_
  replace Hbs := Lib.hid (Hbs.out.up hb9)
  replace BS := hbu BS hb9
  replace HB := hbu HB hb9
  replace HZS := sz HZS hb9.size
  have HX := Lib.hid hx9
  clear hx9 hb9
  have bs_ := Hbs.out.c2
  unfold limbV
  have o4_bs_ := bs_; clear bs_
  obtain ⟨w4, hq4, hb9, hz9, Hbx⟩ := new1 w3 91 [.int .u64 (dig (x) 0 : Int), .int .u64 (dig (x) 1 : Int), .int .u64 (dig (x) 2 : Int), .int .u64 (dig (x) 3 : Int)]
  replace Hbs := Lib.hid (Hbs.out.up hb9)
  replace BS := hbu BS hb9
  replace HB := hbu HB hb9
  replace HZS := sz HZS hz9.out
  clear hb9 hz9
  have bs_ := Hbs.out.c2
  have bx_ := Hbx.out.c4
  cases bc
  ·obtain ⟨rfl, rfl⟩ := HF.out (by simp) (by simp)
   go_wp2_with fail
   clear hq4 o4_bs_
   go_ret2
   exact rowsE_none _ HB.out
  ·obtain ⟨rfl, rfl⟩ := HT.out (by simp) (by simp)
   obtain rfl : x = mont (grp k.toNat).q.m (numOf ch) := HX.out rfl
   go_wp2_with fail
   clear hq4 o4_bs_
   refine (back_any (grp k.toNat) OK.out gb (numOf ch) (isSc_le HBC.out) rs rs.length rfl (by rw [HRL.out]; exact hl64) HSHP.out qa qc xs (by rw [HXL.out, HRL.out]) a' c' w4 (HG.out.up BS.out) (HST.out.up BS.out) (HXX.out.up BS.out)).mono ?_
   rintro e w5 ⟨hb9, a9, c9, ro, rfl, hm9, hr9, hz9⟩
   clear bs_
   replace Hbs := Lib.hid (Hbs.out.up hb9)
   clear bx_
   replace Hbx := Lib.hid (Hbx.out.up hb9)
   replace BS := hbu BS hb9
   replace HB := hbu HB hb9
   replace HZS := sz HZS hb9.size
   have HMR := Lib.hid hm9
   clear hm9
   have HRR := Lib.hid hr9
   clear hr9
   have HZR := Lib.hid hz9
   clear hz9 hb9
   have bs_ := Hbs.out.c2
   have bx_ := Hbx.out.c4
   rw [HRK.out, HRL.out] at HMR ⊢
   go_wp2_with fail
   go_ret2
   exact ⟨HB.out, a9, c9, ro, rfl, HMR.out, HRR.out, HZR.out.1⟩
 ·obtain ⟨rfl, rfl⟩ := HZ.out h0
  have hd : ((er : Int) != 0) = true := by simp; omega
  clear h0 hz
  go_enter Try.func49, Try.ntmps49
  go_wp2_with fail
  refine (HO.out).mono ?_
  rintro e w1 ⟨hb9, pp, qa, qn, qc, v, rfl, _⟩
  have HB := Lib.hid hb9
  have HZS := Lib.hid hb9.size
  clear hb9
  obtain ⟨w2, hq2, hb9, hz9, Hbs⟩ := new1 w1 157 [.pointer pp, .slice qa qn qc]
  replace HB := hbu HB hb9
  replace HZS := sz HZS hz9.out
  clear hb9 hz9
  have bs_ := Hbs.out.c2
  go_wp2_with fail
  clear hq2
  go_ret2
  exact rowsE_none _ HB.out
end Go.Proofs.Ytipgjookfdkciaa
namespace Go.Proofs.Ytipgjookfdkciaa
open Go.RowKit
section
variable {G : GP} {aq ap : Option Addr} {cq cp : Nat}
theorem rIsSc_b (ok : G.Ok) (s : ByteArray) (b : Bool) (hb : isSc G.q.m G.size s = b) (w : World) (hG : RG w G aq ap) :
  Calls Try.prog 66 #[.agg #[.int .i64 (G.size : Int), .slice aq (dl G.q.m) cq, .slice ap (dl G.p.m) cp], .string s] w (Gives (.bool b) w) := by
 subst hb
 exact rIsSc ok s w hG
theorem rIsEl_b (ok : G.Ok) (s : ByteArray) (b : Bool) (hb : isEl G.q.m G.size s = b) (w : World) (hG : RG w G aq ap) :
  Calls Try.prog 79 #[.agg #[.int .i64 (G.size : Int), .slice aq (dl G.q.m) cq, .slice ap (dl G.p.m) cp], .string s] w (Gives (.bool b) w) := by
 subst hb
 exact rIsEl ok s w hG
theorem rWrongSc (ok : G.Ok) (n : Nat) (l : List ByteArray) (al : Option Addr) (cl : Nat) (hlen : l.length ≤ 8796093022207) (w : World) (hG : RG w G aq ap) (hS : Sl w w.heap.size al (l.map Value.string)) :
  Calls Try.prog 65 #[.agg #[.int .i64 (G.size : Int), .slice aq (dl G.q.m) cq, .slice ap (dl G.p.m) cp], .int .i64 (n : Int), .slice al l.length cl] w (Gives (.int .i64 (scE G n l : Int)) w) := by
 have OK := Lib.hid ok
 have HG := Lib.hid hG
 have HS := Lib.hid hS
 clear ok hG hS
 obtain ⟨z, hz⟩ : ∃ z, scE G n l = z := ⟨_, rfl⟩
 have hzz : z = if l.length = n then if l.all (isSc G.q.m G.size) = true then 0 else 6 else 2 := hz.symm
 rw [hz]
 clear hz
 unfold Gives
 by_cases h1 : l.length = n
 ·have hd : ((l.length : Int) != (n : Int)) = false := by simp; omega
  rw [if_pos h1] at hzz
  have HZZ := Lib.hid hzz
  clear hzz h1
  go_enter Try.func65, Try.ntmps65
  go_wp2_with fail
  obtain ⟨w1, hq1, hb9, hz9, Hbg⟩ := new1 w 98 [.int .i64 (G.size : Int), .slice aq (dl G.q.m) cq, .slice ap (dl G.p.m) cp]
  rw [hq1]
  clear hq1
  have HB := Lib.hid hb9
  have HZS := hz9
  clear hb9 hz9
  have bg_ := Hbg.out.c3
  go_wp2_with fail
  go_loopw [15] (fun i wr => ∃ j : Nat, j ≤ l.length ∧ i = .int .i64 j ∧ Hid (Below w1.heap.size w1 wr) ∧ Hid ((l.take j).all (isSc G.q.m G.size) = true)) (fun i _ => l.length - (intOf i).toNat)
  case atStart => exact ⟨0, Nat.zero_le _, rfl, Below.refl _ _, rfl⟩
  case round =>
   obtain ⟨j, hj, rfl, HL9, HAL⟩ := hrel
   have hb9 := HL9.out
   clear HL9
   have BL := Lib.hid (Below.refl w1.heap.size w1)
   clear bg_
   replace Hbg := Lib.hid (Hbg.out.up hb9)
   replace BL := hbu BL hb9
   replace HB := hbu HB hb9
   replace HZS := sz HZS hb9.size
   clear hb9
   have bg_ := Hbg.out.c3
   by_cases hjl : j < l.length
   ·obtain ⟨bl, ol, rfl, hbl, hc⟩ := (HS.out.up HB.out).at j (by simpa using hjl)
    rw [List.getElem_map] at hc
    obtain ⟨bj, hbj⟩ : ∃ x, isSc G.q.m G.size l[j] = x := ⟨_, rfl⟩
    have HBJ := Lib.hid hbj
    clear hbj
    go_wp2_with fail
    refine (rIsSc_b OK.out l[j] bj HBJ.out wr (HG.out.up HB.out)).mono ?_
    rintro e w2 ⟨rfl, hb9⟩
    clear bg_
    replace Hbg := Lib.hid (Hbg.out.up hb9)
    replace BL := hbu BL hb9
    replace HB := hbu HB hb9
    replace HZS := sz HZS hb9.size
    clear hb9
    have bg_ := Hbg.out.c3
    cases bj
    ·go_wp2_with fail
     go_ret
     exact ⟨by rw [HZZ.out, if_neg (by rw [all_not hjl HBJ.out]; decide)]; rfl, HB.out⟩
    ·go_wp2_with fail
     go_roundw
     case rel => exact ⟨j + 1, by omega, by go_num, BL, all_snoc hjl HAL.out HBJ.out⟩
     case measure => simp [intOf]; omega
   ·have hjn : j = l.length := by omega
    subst hjn
    go_wp2_with fail
    go_ret
    exact ⟨by rw [HZZ.out, if_pos (all_take_true HAL.out)]; rfl, HB.out⟩
 ·have hd : ((l.length : Int) != (n : Int)) = true := by simp; omega
  obtain rfl : z = 2 := by rw [hzz, if_neg h1]
  clear hzz h1
  go_enter Try.func65, Try.ntmps65
  go_wp2_with fail
  obtain ⟨w1, hq1, hb9, hz9, Hbg⟩ := new1 w 98 [.int .i64 (G.size : Int), .slice aq (dl G.q.m) cq, .slice ap (dl G.p.m) cp]
  rw [hq1]
  clear hq1
  have HB := Lib.hid hb9
  have HZS := hz9
  clear hb9 hz9
  have bg_ := Hbg.out.c3
  go_wp2_with fail
  go_ret
  exact ⟨rfl, HB.out⟩
theorem rPower5 (ok : G.Ok) (b : ByteArray) (hb : b.size ≤ 32) {n : Nat} {an : Option Addr} {cn : Nat} (hn : dl n ≤ 65536) (w : World) (hG : RG w G aq ap) (hN : NumAt w an n) :
  Calls Try.prog 158 #[.agg #[.int .i64 (G.size : Int), .slice aq (dl G.q.m) cq, .slice ap (dl G.p.m) cp], .string b, .slice an (dl n) cn] w fun e w' => NumR w e w' (lowN G (numOf b ^ n)) := by
 have OK := Lib.hid ok
 have HG := Lib.hid hG
 have HN := Lib.hid hN
 clear ok hG hN
 go_enter Try.func158, Try.ntmps158
 go_wp2_with fail
 obtain ⟨w1, hq1, hb9, hz9, Hbg⟩ := new1 w 98 [.int .i64 (G.size : Int), .slice aq (dl G.q.m) cq, .slice ap (dl G.p.m) cp]
 rw [hq1]
 clear hq1
 have HB := Lib.hid hb9
 have HZS := hz9
 clear hb9 hz9
 have bg_ := Hbg.out.c3
 go_wp2_with fail
 have HT := Lib.hid (show Below w1.heap.size w1 w1.drew from (Below.refl _ _).drew)
 have hl_bg := Hbg.out.lt
 refine wp_region_tree (fun wq9 => ∃ E : Over w1, wq9 = E.w) ((.qs [0, 1, 3] (.a 2 (.a 4 (.qs [5] .done))))) (by kernel_rfl) (by kernel_rfl) (fun _ _ d _ _ h => by cases d <;> exact h) ⟨⟨_, HT.out⟩, rfl⟩ ?_
 have hov_bg := fun (E : Over w1) o => E.cell (b := w.heap.size) o hl_bg
 simp only [Tree.qs]
 repeat (refine tree_q rfl rfl ?_; go_big_quiet_step (fail); refine wpQuiet_nil ?_)
 refine tree_a rfl (fun K hK => ?_)
 go_simp
 refine (refRead_any b (by omega) _).mono ?_
 rintro e w2 ⟨a4, c4, rfl, hn9, hb9⟩
 replace HT := Lib.hid (below_up HT.out hb9)
 replace HZS := sz HZS (show w1.heap.size ≤ w2.heap.size from HT.out.size)
 clear hb9
 have HN4 := Lib.hid hn9
 clear hn9
 refine hK _ _ ⟨⟨⟨w2, HT.out⟩, rfl⟩, ?_⟩
 clear hK K
 repeat (refine tree_q rfl rfl ?_; go_big_quiet_step (fail); refine wpQuiet_nil ?_)
 refine tree_a rfl (fun K hK => ?_)
 go_simp
 refine (rPow OK.out (numOf_16 b hb) hn _ (HG.out.up (below_up HB.out HT.out)) HN4.out (HN.out.up (below_up HB.out HT.out))).mono ?_
 rintro e w3 ⟨a5, c5, rfl, hn9, hb9⟩
 replace HN4 := Lib.hid (HN4.out.up hb9)
 replace HT := Lib.hid (below_up HT.out hb9)
 replace HZS := sz HZS (show w1.heap.size ≤ w3.heap.size from HT.out.size)
 clear hb9
 have HN5 := Lib.hid hn9
 clear hn9
 refine hK _ _ ⟨⟨⟨w3, HT.out⟩, rfl⟩, ?_⟩
 clear hK K
 repeat (refine tree_q rfl rfl ?_; go_big_quiet_step (fail); refine wpQuiet_nil ?_)
 refine tree_end ?_
 clear hov_bg hl_bg bg_
 replace Hbg := Lib.hid (Hbg.out.up HT.out)
 replace HB := hbu HB HT.out
 replace HZS := sz HZS HT.out.size
 clear HT
 have bg_ := Hbg.out.c3
 go_wp2_with fail
 go_ret
 exact ⟨a5, c5, rfl, HN5.out, HB.out⟩
end
theorem size_n0 (k : Nat) (h1 : 1 ≤ k) (h3 : k ≤ 3) : (((grp k).size : Int) == 0) = false := by
 obtain rfl | rfl | rfl : k = 1 ∨ k = 2 ∨ k = 3 := by omega
 all_goals rfl
theorem size_gt0 (k : Nat) (h1 : 1 ≤ k) (h3 : k ≤ 3) : decide (((grp k).size : Int) > 0) = true := by
 obtain rfl | rfl | rfl : k = 1 ∨ k = 2 ∨ k = 3 := by omega
 all_goals rfl
theorem toList_ne {a b : ByteArray} (h : ¬ a = b) : ¬ a.toList = b.toList := fun e => h (by
 have h9 : (a == b) = true := by rw [beq_toListBytes]; exact beq_iff_eq.2 e
 obtain ⟨x⟩ := a
 obtain ⟨y⟩ := b
 have h10 : (x == y) = true := h9
 rw [eq_of_beq h10])
theorem toList_bne {a b : ByteArray} (h : ¬ a = b) : (a.toList == b.toList) = false := beq_eq_false_iff_ne.2 (toList_ne h)
theorem sc_len {G : GP} (ok : G.Ok) {s : ByteArray} (h : isSc G.q.m G.size s = true) : s.size ≤ 32 := by rw [isSc_size h]; exact ok.size_le
theorem el_len {G : GP} (ok : G.Ok) {s : ByteArray} (h : isEl G.q.m G.size s = true) : s.size ≤ 32 := by rw [isEl_size h]; exact ok.size_le
section
variable {G : GP} {aq ap : Option Addr} {cq cp : Nat}
end
end Go.Proofs.Ytipgjookfdkciaa
namespace Go.Proofs.Ytipgjookfdkciaa
open Go.RowKit
theorem w_long {G : GP} {l : List ClaimA} {z : Nat} (hz : wrongE G l = z) (h : 64 < l.length ∨ l.any cLong = true) : z = 3 := by
 have hs : shapeE l = 3 := by
  unfold shapeE
  rw [if_pos]
  rcases h with h | h
  ·rw [decide_eq_true h]; rfl
  ·rw [h, Bool.or_true]
 rw [← hz]
 unfold wrongE
 rw [hs]
 rfl
theorem w_form {G : GP} {l : List ClaimA} {z : Nat} (hz : wrongE G l = z) (h1 : ¬ 64 < l.length) (h2 : l.any cLong = false) (h : l.length = 0 ∨ l.any cForm = true) : z = 2 := by
 have hs : shapeE l = 2 := by
  unfold shapeE
  rw [if_neg (by rw [decide_eq_false h1, h2]; decide), if_pos]
  rcases h with h | h
  ·rw [decide_eq_true h]; rfl
  ·rw [h, Bool.or_true]
 rw [← hz]
 unfold wrongE
 rw [hs]
 rfl
theorem w_elem {G : GP} {l : List ClaimA} {z : Nat} (hz : wrongE G l = z) (h1 : ¬ 64 < l.length) (h2 : l.any cLong = false) (h3 : ¬ l.length = 0) (h4 : l.any cForm = false) : z = if l.all (cElems G) = true then 0 else 7 := by
 have hs : shapeE l = 0 := by
  unfold shapeE
  rw [if_neg (by rw [decide_eq_false h1, h2]; decide), if_neg (by rw [decide_eq_false h3, h4]; decide)]
 rw [← hz]
 unfold wrongE
 rw [hs]
 rfl
theorem any_take_false {α : Type} {f : α → Bool} {l : List α} {n : Nat} (hl : l.length = n) (h : (l.take n).any f = false) : l.any f = false := by rwa [List.take_of_length_le (by omega)] at h
theorem any_one {α : Type} {f : α → Bool} {l : List α} (h : l.any f = false) {j : Nat} (hj : j < l.length) : f l[j] = false := by
 have h9 := List.any_eq_false.1 h _ (List.getElem_mem hj)
 simpa using h9
section
variable {G : GP} {aq ap : Option Addr} {cq cp : Nat}
theorem rWrong (ok : G.Ok) (l : List ClaimA) (n : Nat) (hn : l.length = n) (z : Nat) (hz : wrongE G l = z) (al : Option Addr) (cl : Nat) (w : World) (hG : RG w G aq ap) (hC : ClaimsAt w al l) :
  Calls Try.prog 114 #[.agg #[.int .i64 (G.size : Int), .slice aq (dl G.q.m) cq, .slice ap (dl G.p.m) cp], .slice al n cl] w (Gives (.int .i64 (z : Int)) w) := by
 have OK := Lib.hid ok
 have HG := Lib.hid hG
 have HC := Lib.hid hC
 have HN := Lib.hid hn
 have HZ := Lib.hid hz
 clear ok hG hC hn hz
 unfold Gives
 by_cases h64 : 64 < n
 ·have hd : decide ((n : Int) > 64) = true := by simp; omega
  obtain rfl : z = 3 := w_long HZ.out (Or.inl (by rw [HN.out]; exact h64))
  clear h64
  go_enter Try.func114, Try.ntmps114
  go_wp2_with fail
  obtain ⟨w1, hq1, hb9, hz9, Hbg⟩ := new1 w 98 [.int .i64 (G.size : Int), .slice aq (dl G.q.m) cq, .slice ap (dl G.p.m) cp]
  rw [hq1]
  clear hq1
  have HB := Lib.hid hb9
  have HZS := hz9
  clear hb9 hz9
  have bg_ := Hbg.out.c3
  go_wp2_with fail
  go_ret
  exact ⟨rfl, HB.out⟩
 have hd : decide ((n : Int) > 64) = false := by simp; omega
 have H64 := Lib.hid (show ¬ 64 < l.length by rw [HN.out]; exact h64)
 go_enter Try.func114, Try.ntmps114
 go_wp2_with fail
 obtain ⟨w1, hq1, hb9, hz9, Hbg⟩ := new1 w 98 [.int .i64 (G.size : Int), .slice aq (dl G.q.m) cq, .slice ap (dl G.p.m) cp]
 rw [hq1]
 clear hq1
 have HB := Lib.hid hb9
 have HZS := hz9
 clear hb9 hz9
 have bg_ := Hbg.out.c3
 have BL := Lib.hid (Below.refl w1.heap.size w1)
 go_wp2_with fail
 go_loopw [17] (fun i wr => ∃ j : Nat, j ≤ n ∧ i = .int .i64 j ∧ Hid (Below w1.heap.size w1 wr) ∧ Hid ((l.take j).any cLong = false)) (fun i _ => n - (intOf i).toNat)
 case atStart => exact ⟨0, Nat.zero_le _, rfl, BL, rfl⟩
 case round =>
  obtain ⟨j, hj, rfl, HL9, HAL⟩ := hrel
  have hb9 := HL9.out
  clear HL9 bg_
  replace Hbg := Lib.hid (Hbg.out.up hb9)
  replace BL := hbu BL hb9
  replace HB := hbu HB hb9
  replace HZS := sz HZS hb9.size
  clear hb9
  have bg_ := Hbg.out.c3
  by_cases hjn : j < n
  ·have hjl : j < l.length := by rw [HN.out]; exact hjn
   obtain ⟨bl, ol, rfl, hbl0, hc⟩ := (HC.out.s.up HB.out).elem ClaimA.cells_len (by omega) j hjl
   have hc_0 := hc 0 _ rfl
   rw [Nat.add_zero] at hc_0
   have hc_1 := hc 1 _ rfl
   clear hc
   have HS1 := Lib.hid (any_snoc (f := cLong) hjl HAL.out)
   have HS2 := Lib.hid (any_take_true (f := cLong) hjl)
   have hcl : cLong l[j] = (decide (8 < l[j].bases.length) || decide (8 < l[j].images.length)) := rfl
   generalize l[j] = c at *
   generalize c.bases.length = n1 at *
   generalize c.images.length = n2 at *
   by_cases h1 : 8 < n1
   ·obtain rfl : z = 3 := w_long HZ.out (Or.inr (HS2.out (by rw [hcl]; simp [h1])))
    have hd1 : decide ((n1 : Int) > 8) = true := by simp; omega
    clear hcl h1
    have o2_bg_ := bg_; clear bg_
    obtain ⟨w2, hq2, hb9, hz9, Hbc⟩ := new1 wr 70 [.slice c.ab n1 c.cb, .slice c.ai n2 c.ci]
    replace Hbg := Lib.hid (Hbg.out.up hb9)
    replace BL := hbu BL hb9
    replace HB := hbu HB hb9
    replace HZS := sz HZS hz9.out
    clear hb9 hz9
    have bg_ := Hbg.out.c3
    have bc_ := Hbc.out.c2
    go_wp2_with fail
    clear hq2 o2_bg_
    go_ret
    exact ⟨rfl, HB.out⟩
   have hd1 : decide ((n1 : Int) > 8) = false := by simp; omega
   by_cases h2 : 8 < n2
   ·obtain rfl : z = 3 := w_long HZ.out (Or.inr (HS2.out (by rw [hcl]; simp [h2])))
    have hd2 : decide ((n2 : Int) > 8) = true := by simp; omega
    clear hcl h1 h2
    have o2_bg_ := bg_; clear bg_
    obtain ⟨w2, hq2, hb9, hz9, Hbc⟩ := new1 wr 70 [.slice c.ab n1 c.cb, .slice c.ai n2 c.ci]
    replace Hbg := Lib.hid (Hbg.out.up hb9)
    replace BL := hbu BL hb9
    replace HB := hbu HB hb9
    replace HZS := sz HZS hz9.out
    clear hb9 hz9
    have bg_ := Hbg.out.c3
    have bc_ := Hbc.out.c2
    go_wp2_with fail
    clear hq2 o2_bg_
    go_ret
    exact ⟨rfl, HB.out⟩
   have hd2 : decide ((n2 : Int) > 8) = false := by simp; omega
   have HS3 := Lib.hid (HS1.out (by rw [hcl]; simp [h1, h2]))
   clear hcl h1 h2
   have o2_bg_ := bg_; clear bg_
   obtain ⟨w2, hq2, hb9, hz9, Hbc⟩ := new1 wr 70 [.slice c.ab n1 c.cb, .slice c.ai n2 c.ci]
   replace Hbg := Lib.hid (Hbg.out.up hb9)
   replace BL := hbu BL hb9
   replace HB := hbu HB hb9
   replace HZS := sz HZS hz9.out
   clear hb9 hz9
   have bg_ := Hbg.out.c3
   have bc_ := Hbc.out.c2
   go_wp2_with fail
   go_roundw
   case rel => exact ⟨j + 1, by omega, by go_num, BL, HS3.out⟩
   case measure => simp [intOf]; omega
  ·have hjn' : j = n := by omega
   subst hjn'
   have HLG := Lib.hid (any_take_false HN.out HAL.out)
   clear HAL hj hjn
   by_cases h0 : j = 0
   ·obtain rfl : z = 2 := w_form HZ.out H64.out HLG.out (Or.inl (by rw [HN.out]; exact h0))
    have hd0 : ((j : Int) == 0) = true := by simp; omega
    clear h0
    go_wp2_with fail
    go_ret
    exact ⟨rfl, HB.out⟩
   have H0 := Lib.hid (show ¬ l.length = 0 by rw [HN.out]; exact h0)
   have hd0 : ((j : Int) == 0) = false := by simp; omega
   generalize j = n at *
   clear h0
   obtain ⟨wo, rfl⟩ : ∃ wo : World, wo = wr := ⟨_, rfl⟩
   have BM := Lib.hid (Below.refl wo.heap.size wo)
   go_wp2_with fail
   go_loopw [37] (fun i wr => ∃ j : Nat, j ≤ n ∧ i = .int .i64 j ∧ Hid (Below wo.heap.size wo wr) ∧ Hid ((l.take j).any cForm = false)) (fun i _ => n - (intOf i).toNat)
   case atStart => exact ⟨0, Nat.zero_le _, rfl, BM, rfl⟩
   case round =>
    obtain ⟨j, hj, rfl, HL9, HAL⟩ := hrel
    have hb9 := HL9.out
    clear HL9 bg_
    replace Hbg := Lib.hid (Hbg.out.up hb9)
    replace BL := hbu BL hb9
    replace BM := hbu BM hb9
    replace HB := hbu HB hb9
    replace HZS := sz HZS hb9.size
    clear hb9
    have bg_ := Hbg.out.c3
    by_cases hjn : j < n
    ·have hjl : j < l.length := by rw [HN.out]; exact hjn
     obtain ⟨bl, ol, rfl, hbl0, hc⟩ := (HC.out.s.up HB.out).elem ClaimA.cells_len (by omega) j hjl
     have hc_0 := hc 0 _ rfl
     rw [Nat.add_zero] at hc_0
     have hc_1 := hc 1 _ rfl
     clear hc
     have HS1 := Lib.hid (any_snoc (f := cForm) hjl HAL.out)
     have HS2 := Lib.hid (any_take_true (f := cForm) hjl)
     have hcl : cForm l[j] = (decide (l[j].bases.length = 0) || decide (l[j].bases.length ≠ l[j].images.length)) := rfl
     generalize l[j] = c at *
     generalize c.bases.length = n1 at *
     generalize c.images.length = n2 at *
     by_cases h1 : n1 = 0
     ·obtain rfl : z = 2 := w_form HZ.out H64.out HLG.out (Or.inr (HS2.out (by rw [hcl]; simp [h1])))
      have hd1 : ((n1 : Int) == 0) = true := by simp; omega
      clear hcl h1
      have o2_bg_ := bg_; clear bg_
      obtain ⟨w2, hq2, hb9, hz9, Hbc⟩ := new1 wr 70 [.slice c.ab n1 c.cb, .slice c.ai n2 c.ci]
      replace Hbg := Lib.hid (Hbg.out.up hb9)
      replace BL := hbu BL hb9
      replace BM := hbu BM hb9
      replace HB := hbu HB hb9
      replace HZS := sz HZS hz9.out
      clear hb9 hz9
      have bg_ := Hbg.out.c3
      have bc_ := Hbc.out.c2
      go_wp2_with fail
      clear hq2 o2_bg_
      go_ret
      exact ⟨rfl, HB.out⟩
     have hd1 : ((n1 : Int) == 0) = false := by simp; omega
     by_cases h2 : n1 ≠ n2
     ·obtain rfl : z = 2 := w_form HZ.out H64.out HLG.out (Or.inr (HS2.out (by rw [hcl]; simp [h2])))
      have hd2 : ((n1 : Int) != (n2 : Int)) = true := by simp; omega
      clear hcl h1 h2
      have o2_bg_ := bg_; clear bg_
      obtain ⟨w2, hq2, hb9, hz9, Hbc⟩ := new1 wr 70 [.slice c.ab n1 c.cb, .slice c.ai n2 c.ci]
      replace Hbg := Lib.hid (Hbg.out.up hb9)
      replace BL := hbu BL hb9
      replace BM := hbu BM hb9
      replace HB := hbu HB hb9
      replace HZS := sz HZS hz9.out
      clear hb9 hz9
      have bg_ := Hbg.out.c3
      have bc_ := Hbc.out.c2
      go_wp2_with fail
      clear hq2 o2_bg_
      go_ret
      exact ⟨rfl, HB.out⟩
     have hd2 : ((n1 : Int) != (n2 : Int)) = false := by simp; omega
     have HS3 := Lib.hid (HS1.out (by rw [hcl]; simp [h1]; omega))
     clear hcl h1 h2
     have o2_bg_ := bg_; clear bg_
     obtain ⟨w2, hq2, hb9, hz9, Hbc⟩ := new1 wr 70 [.slice c.ab n1 c.cb, .slice c.ai n2 c.ci]
     replace Hbg := Lib.hid (Hbg.out.up hb9)
     replace BL := hbu BL hb9
     replace BM := hbu BM hb9
     replace HB := hbu HB hb9
     replace HZS := sz HZS hz9.out
     clear hb9 hz9
     have bg_ := Hbg.out.c3
     have bc_ := Hbc.out.c2
     go_wp2_with fail
     go_roundw
     case rel => exact ⟨j + 1, by omega, by go_num, BM, HS3.out⟩
     case measure => simp [intOf]; omega
    ·have hjn' : j = n := by omega
     subst hjn'
     have HLF := Lib.hid (any_take_false HN.out HAL.out)
     have HZE := Lib.hid (w_elem HZ.out H64.out HLG.out H0.out HLF.out)
     clear HAL hj hjn
     generalize j = n at *
     obtain ⟨wo2, rfl⟩ : ∃ wo2 : World, wo2 = wr := ⟨_, rfl⟩
     have BN := Lib.hid (Below.refl wo2.heap.size wo2)
     go_wp2_with fail
     go_loopw [57] (fun i wr => ∃ j : Nat, j ≤ n ∧ i = .int .i64 j ∧ Hid (Below wo2.heap.size wo2 wr) ∧ Hid ((l.take j).all (cElems G) = true)) (fun i _ => n - (intOf i).toNat)
     case atStart => exact ⟨0, Nat.zero_le _, rfl, BN, rfl⟩
     case round =>
      obtain ⟨j, hj, rfl, HL9, HAL⟩ := hrel
      have hb9 := HL9.out
      clear HL9 bg_
      replace Hbg := Lib.hid (Hbg.out.up hb9)
      replace BL := hbu BL hb9
      replace BM := hbu BM hb9
      replace BN := hbu BN hb9
      replace HB := hbu HB hb9
      replace HZS := sz HZS hb9.size
      clear hb9
      have bg_ := Hbg.out.c3
      by_cases hjn : j < n
      ·have hjl : j < l.length := by rw [HN.out]; exact hjn
       obtain ⟨bl, ol, rfl, hbl0, hc⟩ := (HC.out.s.up HB.out).elem ClaimA.cells_len (by omega) j hjl
       have hc_0 := hc 0 _ rfl
       rw [Nat.add_zero] at hc_0
       have hc_1 := hc 1 _ rfl
       clear hc
       have HAT := Lib.hid ((HC.out.up HB.out).one j hjl)
       have HFJ := Lib.hid (any_one HLF.out hjl)
       have HLJ := Lib.hid (any_one HLG.out hjl)
       have HSN := Lib.hid (all_snoc (f := cElems G) hjl HAL.out)
       have HNO := Lib.hid (all_not (f := cElems G) hjl)
       generalize l[j] = c at *
       have hlens : c.images.length = c.bases.length ∧ c.bases.length ≤ 8 := by
        have g1 := HFJ.out
        have g2 := HLJ.out
        unfold cForm at g1
        unfold cLong at g2
        simp at g1 g2
        omega
       have HLEN := Lib.hid hlens.1
       have hl8 := hlens.2
       clear hlens
       have HAB := Lib.hid HAT.out.b
       have HAJ := Lib.hid HAT.out.i
       have HSN2 := Lib.hid (show c.bases.all (isEl G.q.m G.size) = true → c.images.all (isEl G.q.m G.size) = true → _ from fun h1 h2 => HSN.out (show (c.bases.all (isEl G.q.m G.size) && c.images.all (isEl G.q.m G.size)) = true by rw [h1, h2]; rfl))
       have HNO2 := Lib.hid (show (c.bases.all (isEl G.q.m G.size) && c.images.all (isEl G.q.m G.size)) = false → _ from HNO.out)
       clear HAT HFJ HLJ HSN HNO
       generalize c.bases = bs at *
       generalize c.images = ims at *
       generalize c.ab = ab at *
       generalize c.ai = ai at *
       generalize c.cb = cb at *
       generalize c.ci = ci at *
       have BR := Lib.hid (Below.refl wr.heap.size wr)
       have o2_bg_ := bg_; clear bg_
       obtain ⟨w2, hq2, hb9, hz9, Hbc⟩ := new1 wr 70 [.slice ab bs.length cb, .slice ai ims.length ci]
       replace Hbg := Lib.hid (Hbg.out.up hb9)
       replace BL := hbu BL hb9
       replace BM := hbu BM hb9
       replace BN := hbu BN hb9
       replace BR := hbu BR hb9
       replace HB := hbu HB hb9
       replace HZS := sz HZS hz9.out
       clear hb9 hz9
       have bg_ := Hbg.out.c3
       have bc_ := Hbc.out.c2
       obtain ⟨wo3, rfl⟩ : ∃ wo3 : World, wo3 = wr := ⟨_, rfl⟩
       have BI := Lib.hid (Below.refl w2.heap.size w2)
       go_wp2_with fail
       clear hq2 o2_bg_
       go_loopw [11] (fun i wr => ∃ t : Nat, t ≤ bs.length ∧ i = .int .i64 t ∧ Hid (Below w2.heap.size w2 wr) ∧ Hid ((bs.take t).all (isEl G.q.m G.size) = true ∧ (ims.take t).all (isEl G.q.m G.size) = true)) (fun i _ => bs.length - (intOf i).toNat)
       case atStart => exact ⟨0, Nat.zero_le _, rfl, BI, ⟨rfl, rfl⟩⟩
       case round =>
        obtain ⟨t, ht, rfl, HL9, HAI⟩ := hrel
        have hb9 := HL9.out
        clear HL9 bg_
        replace Hbg := Lib.hid (Hbg.out.up hb9)
        clear bc_
        replace Hbc := Lib.hid (Hbc.out.up hb9)
        replace BL := hbu BL hb9
        replace BM := hbu BM hb9
        replace BN := hbu BN hb9
        replace BR := hbu BR hb9
        replace BI := hbu BI hb9
        replace HB := hbu HB hb9
        replace HZS := sz HZS hb9.size
        clear hb9
        have bg_ := Hbg.out.c3
        have bc_ := Hbc.out.c2
        by_cases htm : t < bs.length
        ·have hti : t < ims.length := by rw [HLEN.out]; exact htm
         obtain ⟨b1, o1, rfl, hb1, hc1⟩ := (HAB.out.up BR.out).at t (by simpa using htm)
         obtain ⟨b2, o2, rfl, hb2, hc2⟩ := (HAJ.out.up BR.out).at t (by simpa using hti)
         rw [List.getElem_map] at hc1 hc2
         have HT1 := Lib.hid (all_snoc (f := isEl G.q.m G.size) htm HAI.out.1)
         have HT2 := Lib.hid (all_snoc (f := isEl G.q.m G.size) hti HAI.out.2)
         have HT3 := Lib.hid (all_not (f := isEl G.q.m G.size) htm)
         have HT4 := Lib.hid (all_not (f := isEl G.q.m G.size) hti)
         generalize bs[t] = x at *
         generalize ims[t] = y at *
         obtain ⟨q1, hq1⟩ : ∃ q, isEl G.q.m G.size x = q := ⟨_, rfl⟩
         obtain ⟨q2, hq2⟩ : ∃ q, isEl G.q.m G.size y = q := ⟨_, rfl⟩
         have HQ1 := Lib.hid hq1
         have HQ2 := Lib.hid hq2
         clear hq1 hq2
         cases q1
         ·have HW := Lib.hid (HNO2.out (by rw [HT3.out HQ1.out]; rfl))
          obtain rfl : z = 7 := by rw [HZE.out, if_neg (by rw [HW.out]; decide)]
          go_wp2_with fail
          have HT := Lib.hid (show Below wr.heap.size wr wr.drew from (Below.refl _ _).drew)
          have hl_bg := Hbg.out.lt
          have hl_bc := Hbc.out.lt
          refine wp_region_tree (fun wq9 => ∃ E : Over wr, wq9 = E.w) ((.qs [0, 1, 2, 3, 4, 5] (.a 6 (.qs [7, 8, 9, 10, 11, 12, 13, 14] (.a 15 (.qs [16, 17] .done)))))) (by kernel_rfl) (by kernel_rfl) (fun _ _ d _ _ h => by cases d <;> exact h) ⟨⟨_, HT.out⟩, rfl⟩ ?_
          have hov_bg := fun (E : Over wr) o => E.cell (b := w.heap.size) o hl_bg
          have hov_bc := fun (E : Over wr) o => E.cell (b := wo3.heap.size) o hl_bc
          have hov_b1 := fun (E : Over wr) o => E.cell (b := b1) o hb1
          have hov_b2 := fun (E : Over wr) o => E.cell (b := b2) o hb2
          simp only [Tree.qs]
          repeat (refine tree_q rfl rfl ?_; go_big_quiet_step (fail); refine wpQuiet_nil ?_)
          refine tree_a rfl (fun K hK => ?_)
          go_simp
          refine (rIsEl_b OK.out x false HQ1.out _ (HG.out.up (below_up HB.out HT.out))).mono ?_
          rintro e w3 ⟨rfl, hb9⟩
          replace HT := Lib.hid (below_up HT.out hb9)
          replace HZS := sz HZS (show wr.heap.size ≤ w3.heap.size from HT.out.size)
          clear hb9
          refine hK _ _ ⟨⟨⟨w3, HT.out⟩, rfl⟩, ?_⟩
          clear hK K
          repeat (refine tree_q rfl rfl ?_; go_big_quiet_step (fail); refine wpQuiet_nil ?_)
          refine tree_a rfl (fun K hK => ?_)
          go_simp
          refine hK _ _ ⟨⟨⟨_, HT.out⟩, rfl⟩, ?_⟩
          clear hK K
          repeat (refine tree_q rfl rfl ?_; go_big_quiet_step (fail); refine wpQuiet_nil ?_)
          refine tree_end ?_
          clear hov_bg hl_bg hov_bc hl_bc hov_b1 hov_b2 bg_
          replace Hbg := Lib.hid (Hbg.out.up HT.out)
          clear bc_
          replace Hbc := Lib.hid (Hbc.out.up HT.out)
          replace BL := hbu BL HT.out
          replace BM := hbu BM HT.out
          replace BN := hbu BN HT.out
          replace BR := hbu BR HT.out
          replace BI := hbu BI HT.out
          replace HB := hbu HB HT.out
          replace HZS := sz HZS HT.out.size
          clear HT
          have bg_ := Hbg.out.c3
          have bc_ := Hbc.out.c2
          go_wp2_with fail
          go_ret
          exact ⟨rfl, HB.out⟩
         ·go_wp2_with fail
          have HT := Lib.hid (show Below wr.heap.size wr wr.drew from (Below.refl _ _).drew)
          have hl_bg := Hbg.out.lt
          have hl_bc := Hbc.out.lt
          refine wp_region_tree (fun wq9 => ∃ E : Over wr, wq9 = E.w) ((.qs [0, 1, 2, 3, 4, 5] (.a 6 (.qs [7, 8, 9, 10, 11, 12, 13, 14] (.a 15 (.qs [16, 17] .done)))))) (by kernel_rfl) (by kernel_rfl) (fun _ _ d _ _ h => by cases d <;> exact h) ⟨⟨_, HT.out⟩, rfl⟩ ?_
          have hov_bg := fun (E : Over wr) o => E.cell (b := w.heap.size) o hl_bg
          have hov_bc := fun (E : Over wr) o => E.cell (b := wo3.heap.size) o hl_bc
          have hov_b1 := fun (E : Over wr) o => E.cell (b := b1) o hb1
          have hov_b2 := fun (E : Over wr) o => E.cell (b := b2) o hb2
          simp only [Tree.qs]
          repeat (refine tree_q rfl rfl ?_; go_big_quiet_step (fail); refine wpQuiet_nil ?_)
          refine tree_a rfl (fun K hK => ?_)
          go_simp
          refine (rIsEl_b OK.out x true HQ1.out _ (HG.out.up (below_up HB.out HT.out))).mono ?_
          rintro e w3 ⟨rfl, hb9⟩
          replace HT := Lib.hid (below_up HT.out hb9)
          replace HZS := sz HZS (show wr.heap.size ≤ w3.heap.size from HT.out.size)
          clear hb9
          refine hK _ _ ⟨⟨⟨w3, HT.out⟩, rfl⟩, ?_⟩
          clear hK K
          repeat (refine tree_q rfl rfl ?_; go_big_quiet_step (fail); refine wpQuiet_nil ?_)
          refine tree_a rfl (fun K hK => ?_)
          go_simp
          refine (rIsEl_b OK.out y q2 HQ2.out _ (HG.out.up (below_up HB.out HT.out))).mono ?_
          rintro e w4 ⟨rfl, hb9⟩
          replace HT := Lib.hid (below_up HT.out hb9)
          replace HZS := sz HZS (show wr.heap.size ≤ w4.heap.size from HT.out.size)
          clear hb9
          refine hK _ _ ⟨⟨⟨w4, HT.out⟩, rfl⟩, ?_⟩
          clear hK K
          repeat (refine tree_q rfl rfl ?_; go_big_quiet_step (fail); refine wpQuiet_nil ?_)
          refine tree_end ?_
          clear hov_bg hl_bg hov_bc hl_bc hov_b1 hov_b2 bg_
          replace Hbg := Lib.hid (Hbg.out.up HT.out)
          clear bc_
          replace Hbc := Lib.hid (Hbc.out.up HT.out)
          replace BL := hbu BL HT.out
          replace BM := hbu BM HT.out
          replace BN := hbu BN HT.out
          replace BR := hbu BR HT.out
          replace BI := hbu BI HT.out
          replace HB := hbu HB HT.out
          replace HZS := sz HZS HT.out.size
          clear HT
          have bg_ := Hbg.out.c3
          have bc_ := Hbc.out.c2
          cases q2
          ·have HW := Lib.hid (HNO2.out (by rw [HT4.out HQ2.out, Bool.and_false]))
           obtain rfl : z = 7 := by rw [HZE.out, if_neg (by rw [HW.out]; decide)]
           go_wp2_with fail
           go_ret
           exact ⟨rfl, HB.out⟩
          ·go_wp2_with fail
           go_roundw
           case rel => exact ⟨t + 1, by omega, by go_num, BI, ⟨HT1.out HQ1.out, HT2.out HQ2.out⟩⟩
           case measure => simp [intOf]; omega
        ·have htm' : t = bs.length := by omega
         have HHT := Lib.hid (HSN2.out (all_take_true (by rw [← htm']; exact HAI.out.1)) (all_take_true (by rw [HLEN.out, ← htm']; exact HAI.out.2)))
         go_wp2_with fail
         go_roundw
         case rel => exact ⟨j + 1, by omega, by go_num, BN, HHT⟩
         case measure => simp [intOf]; omega
      ·have hjn' : j = n := by omega
       subst hjn'
       obtain rfl : z = 0 := by rw [HZE.out, if_pos (all_take_true (by rw [HN.out]; exact HAL.out))]
       go_wp2_with fail
       go_ret
       exact ⟨rfl, HB.out⟩
end
end Go.Proofs.Ytipgjookfdkciaa
