/- Texts of this seat, one behind the other: what TrustShares leans on. No condition beyond those that each names. -/
import Derived.Test.YtjmeakfjfpnciaaZTrustShares3
import Derived.Test.YtjmeakfjfpnciaaRows
import Derived.ProofKit
import Derived.SizedLaws
import Derived.Lib.SmallJoins
import Derived.Deep.Slices
import Derived.Deep.Fields
import Derived.Deep.OwnRows
import Derived.Outline
import Derived.Lib.Join

set_option maxRecDepth 100000
set_option maxHeartbeats 4000000
set_option linter.unusedVariables false
set_option linter.unusedSimpArgs false
namespace Go.Proofs.Ytjmeakfjfpnciaa
open Go.RowKit
def readE (f : ByteArray → Bool) (bad : Nat) (l : List Int) (xs : List ByteArray) : Nat := if placesE l ≠ 0 then placesE l else if l.length = xs.length then if xs.all f = true then 0 else bad else 2
def ReadOk (G : GP) (m : Nat) (n0 : Nat) (xs : List ByteArray) (w' : World) (p v : Value) : Prop := ∃ gb a c, p = .pointer (some ⟨gb, 0, none⟩) ∧ v = .slice a xs.length c ∧ GroupAt w' gb G ∧ Sl w' w'.heap.size a (xs.flatMap (limC m)) ∧ n0 ≤ gb
def ReadQ (G : GP) (m : Nat) (er : Nat) (xs : List ByteArray) (w : World) (e : Ending) (w' : World) : Prop :=
 Below w.heap.size w w' ∧ ∃ p v, e = .returned (.tuple #[p, v, .int .i64 (er : Int)]) ∧ (er = 0 → ReadOk G m w.heap.size xs w' p v)
theorem readQ_bad (G : GP) (m : Nat) {er : Nat} (h : er ≠ 0) (xs : List ByteArray) {w w' : World} (hb : Below w.heap.size w w') : ReadQ G m er xs w (.returned (.tuple #[.pointer none, .slice none 0 0, .int .i64 (er : Int)])) w' :=
 ⟨hb, _, _, rfl, fun e => absurd e h⟩
theorem readSc_some (k : Nat) (h1 : 1 ≤ k) (h3 : k ≤ 3) (l : List Int) (n : Nat) (hn : l.length = n) (hnm : n ≤ 1152921504606846975) (xs : List ByteArray) (m : Nat) (hm : xs.length = m) (bad : Nat) (hbad : bad ≠ 0) (al ax : Option Addr) (cl cx : Nat) (w : World) (hL : Sl w w.heap.size al (l.map intV)) (hX : Sl w w.heap.size ax (xs.map Value.string)) :
  Calls Try.prog 51 #[.int .i64 (k : Int), .slice al n cl, .slice ax m cx, .func (.func 52) #[] #[], .int .i64 (bad : Int)] w (ReadQ (grp k) (grp k).q.m (readE (isSc (grp k).q.m (grp k).size) bad l xs) xs w) := by
 have OK := Lib.hid (grp_ok k h1 h3)
 have HL := Lib.hid hL
 have HX := Lib.hid hX
 have HM := Lib.hid hm
 have HBAD := Lib.hid hbad
 have HPC := Lib.hid (fun W h => places_any l n hn hnm al cl W h)
 obtain ⟨er, her⟩ : ∃ er, readE (isSc (grp k).q.m (grp k).size) bad l xs = er := ⟨_, rfl⟩
 rw [her]
 unfold readE at her
 obtain ⟨z, hz⟩ : ∃ z, placesE l = z := ⟨_, rfl⟩
 have HZ16 := Lib.hid (show z = 0 → n ≤ 16 from fun e => by
  rw [e] at hz
  unfold placesE at hz
  by_cases h : 16 < l.length
  ·rw [if_pos h] at hz; cases hz
  ·omega)
 rw [hz] at her HPC
 rw [hn, hm] at her
 clear hL hX hm hz hn hnm hbad
 by_cases hz0 : z = 0
 case neg =>
  rw [if_pos hz0] at her
  subst her
  have hd : ((z : Int) != 0) = true := by simp; omega
  have HZ0 := Lib.hid hz0
  clear hz0
  go_enter Try.func51, Try.ntmps51
  go_wp2_with fail
  refine (of_some k h1 h3 w).mono ?_
  rintro e w1 ⟨rfl, hg9, hb9⟩
  have HB := Lib.hid hb9
  have HZS := Lib.hid hb9.size
  have HG := Lib.hid hg9
  clear hg9 hb9
  have HsG := Lib.hid HG.out.lt
  replace HZS := sz HZS HsG.out
  go_wp2_with fail
  refine (HPC.out w1 (HL.out.up HB.out)).mono ?_
  rintro e w2 ⟨rfl, hb9⟩
  replace HG := Lib.hid (HG.out.up hb9)
  replace HB := hbu HB hb9
  replace HZS := sz HZS hb9.size
  clear hb9
  go_wp2_with fail
  simp [bodyPost, results, Try.results51, go_sem]
  exact readQ_bad _ _ HZ0.out xs HB.out
 subst hz0
 rw [if_neg (by decide)] at her
 have hn16 := HZ16.out rfl
 clear HZ16
 by_cases hnm : n = m
 case neg =>
  rw [if_neg hnm] at her
  subst her
  have hd : ((n : Int) != (m : Int)) = true := by simp; omega
  clear hnm
  go_enter Try.func51, Try.ntmps51
  go_wp2_with fail
  refine (of_some k h1 h3 w).mono ?_
  rintro e w1 ⟨rfl, hg9, hb9⟩
  have HB := Lib.hid hb9
  have HZS := Lib.hid hb9.size
  have HG := Lib.hid hg9
  clear hg9 hb9
  have HsG := Lib.hid HG.out.lt
  replace HZS := sz HZS HsG.out
  go_wp2_with fail
  refine (HPC.out w1 (HL.out.up HB.out)).mono ?_
  rintro e w2 ⟨rfl, hb9⟩
  replace HG := Lib.hid (HG.out.up hb9)
  replace HB := hbu HB hb9
  replace HZS := sz HZS hb9.size
  clear hb9
  go_wp2_with fail
  simp [bodyPost, results, Try.results51, go_sem]
  exact readQ_bad _ _ (by decide) xs HB.out
 subst hnm
 rw [if_pos rfl] at her
 have hd : ((n : Int) != (n : Int)) = false := by simp
 obtain ⟨b, hb⟩ : ∃ b, xs.all (isSc (grp k).q.m (grp k).size) = b := ⟨_, rfl⟩
 have HNO := Lib.hid (fun (h : ¬ xs.all (isSc (grp k).q.m (grp k).size) = true) => show er = bad by rw [← her, hb, if_neg (by rw [← hb]; exact h)])
 have HYES := Lib.hid (fun (h : xs.all (isSc (grp k).q.m (grp k).size) = true) => show er = 0 by rw [← her, hb, if_pos (by rw [← hb]; exact h)])
 clear her hb
 go_enter Try.func51, Try.ntmps51
 go_wp2_with fail
 refine (of_some k h1 h3 w).mono ?_
 rintro e w1 ⟨rfl, hg9, hb9⟩
 have HB := Lib.hid hb9
 have HZS := Lib.hid hb9.size
 have HG := Lib.hid hg9
 clear hg9 hb9
 have HsG := Lib.hid HG.out.lt
 replace HZS := sz HZS HsG.out
 go_wp2_with fail
 refine (HPC.out w1 (HL.out.up HB.out)).mono ?_
 rintro e w2 ⟨rfl, hb9⟩
 replace HG := Lib.hid (HG.out.up hb9)
 replace HB := hbu HB hb9
 replace HZS := sz HZS hb9.size
 clear hb9
 have BL := Lib.hid (Below.refl w2.heap.size w2)
 go_wp2_with fail
 clear hd
 go_loopw [36, 15] (fun i v wr => ∃ (j : Nat) (g : Option Addr) (c9 : Nat), j ≤ n ∧ i = .int .i64 j ∧ v = .slice g j c9 ∧ Hid (Below w2.heap.size w2 wr) ∧ Hid ((xs.take j).all (isSc (grp k).q.m (grp k).size) = true) ∧ Hid (RowO w2.heap.size wr 98 4 (.slice g j c9) j ((xs.take j).flatMap (limC (grp k).q.m)))) (fun i _ _ => n - (intOf i).toNat)
 case atStart => exact ⟨0, none, 0, Nat.zero_le _, rfl, rfl, BL, rfl, RowO.nil⟩
 case round =>
  obtain ⟨j, g, c9, hj, rfl, rfl, HL9, HAL, Hr⟩ := hrel
  have hb9 := HL9.out
  clear HL9
  replace HG := Lib.hid (HG.out.up hb9)
  replace BL := hbu BL hb9
  replace HB := hbu HB hb9
  replace HZS := sz HZS hb9.size
  clear hb9
  by_cases hjn : j < n
  ·have hjl : j < xs.length := by rw [HM.out]; exact hjn
   obtain ⟨bl, ol, rfl, hbl, hc⟩ := (HX.out.up HB.out).at j (by simpa using hjl)
   rw [List.getElem_map] at hc
   obtain ⟨bj, hbj⟩ : ∃ x, isSc (grp k).q.m (grp k).size xs[j] = x := ⟨_, rfl⟩
   have HBJ := Lib.hid hbj
   clear hbj
   go_wp2_with fail
   refine (gScalar_m (grp k) OK.out _ xs[j] bj HBJ.out wr HG.out).mono ?_
   rintro e w3 ⟨sx, rfl, hb9, hx9⟩
   replace HG := Lib.hid (HG.out.up hb9)
   replace Hr := Lib.hid (Hr.out.up hb9)
   replace BL := hbu BL hb9
   replace HB := hbu HB hb9
   replace HZS := sz HZS hb9.size
   have HSX := Lib.hid hx9
   clear hx9 hb9
   unfold limbV
   obtain ⟨w4, hq4, hb9, hz9, Hbp⟩ := new1 w3 98 [.int .u64 (dig (sx) 0 : Int), .int .u64 (dig (sx) 1 : Int), .int .u64 (dig (sx) 2 : Int), .int .u64 (dig (sx) 3 : Int)]
   replace HG := Lib.hid (HG.out.up hb9)
   replace Hr := Lib.hid (Hr.out.up hb9)
   replace BL := hbu BL hb9
   replace HB := hbu HB hb9
   replace HZS := sz HZS hz9.out
   clear hb9 hz9
   have bp_ := Hbp.out.c4
   cases bj
   ·obtain rfl := HNO.out (by rw [all_not hjl HBJ.out]; decide)
    go_wp2_with fail
    clear hq4
    simp [bodyPost, results, Try.results51, go_sem]
    exact readQ_bad _ _ HBAD.out xs HB.out
   ·obtain rfl := HSX.out rfl
    obtain ⟨i9, hi9, hz90, hz91, hz92⟩ := info_parts infoScalar
    go_wp2_with (at_builtin; refine wpList_pushR (w2.heap.size) w4 (by have g0 := HZS.out; omega) rfl _ _ 91 rfl 98 i9 _ 4 32 Try.underlying91 hi9 hz90 hz91 hz92 rfl (by omega) ((.slice g j c9)) (j) (((xs.take j).flatMap (limC (grp k).q.m))) rfl Hr.out _ _ _ rfl rfl rfl (by simp [Value.oneCell']) (by omega) (by unfold maxLen; omega) ?_)
    intro g5 c5 w5 hown9 hg9
    clear hq4 bp_ Hbp
    have hb9 := Below.grown HB.out hg9 (by have g0 := HZS.out; omega) (fun q hq => Nat.le_trans (show w.heap.size ≤ w2.heap.size by have g0 := HZS.out; omega) (Hr.out.lt q hq).1)
    replace HG := Lib.hid (HG.out.grown hg9 (fun e9 => by have a1 := Hr.out.lt _ e9; have g0 := HZS.out; omega))
    replace BL := Lib.hid (Below.grown BL.out hg9 (by have g0 := HZS.out; omega) (fun q hq => Nat.le_trans (show w2.heap.size ≤ w2.heap.size by have g0 := HZS.out; omega) (Hr.out.lt q hq).1))
    replace HZS := sz HZS hg9.size
    clear Hr HB
    have Hr := Lib.hid hown9
    have HB := Lib.hid hb9
    clear hb9 hown9 hg9 hi9 hz90 hz91 hz92
    go_wp2_with fail
    go_roundw
    case rel => exact ⟨j + 1, _, _, by omega, by go_num, rfl, BL, all_snoc hjl HAL.out HBJ.out, Hr.out.eq (flat_snoc _ _ _ hjl).symm rfl⟩
    case measure => simp [intOf]; omega
  ·have hjn' : j = n := by omega
   subst hjn'
   obtain rfl : er = 0 := HYES.out (by rw [← HM.out] at HAL; exact all_take_true HAL.out)
   rw [List.take_of_length_le (by rw [HM.out]; exact Nat.le_refl _)] at Hr
   go_wp2_with fail
   simp [bodyPost, results, Try.results51, go_sem]
   exact ⟨HB.out, _, _, rfl, fun _ => ⟨_, _, _, rfl, by rw [HM.out], HG.out, Hr.out.sl, Nat.le_refl _⟩⟩
theorem readEl_some (k : Nat) (h1 : 1 ≤ k) (h3 : k ≤ 3) (l : List Int) (n : Nat) (hn : l.length = n) (hnm : n ≤ 1152921504606846975) (xs : List ByteArray) (m : Nat) (hm : xs.length = m) (bad : Nat) (hbad : bad ≠ 0) (al ax : Option Addr) (cl cx : Nat) (w : World) (hL : Sl w w.heap.size al (l.map intV)) (hX : Sl w w.heap.size ax (xs.map Value.string)) :
  Calls Try.prog 65 #[.int .i64 (k : Int), .slice al n cl, .slice ax m cx, .func (.func 66) #[] #[], .int .i64 (bad : Int)] w (ReadQ (grp k) (grp k).p.m (readE (isEl (grp k).q.m (grp k).size) bad l xs) xs w) := by
 have OK := Lib.hid (grp_ok k h1 h3)
 have HL := Lib.hid hL
 have HX := Lib.hid hX
 have HM := Lib.hid hm
 have HBAD := Lib.hid hbad
 have HPC := Lib.hid (fun W h => places_any l n hn hnm al cl W h)
 obtain ⟨er, her⟩ : ∃ er, readE (isEl (grp k).q.m (grp k).size) bad l xs = er := ⟨_, rfl⟩
 rw [her]
 unfold readE at her
 obtain ⟨z, hz⟩ : ∃ z, placesE l = z := ⟨_, rfl⟩
 have HZ16 := Lib.hid (show z = 0 → n ≤ 16 from fun e => by
  rw [e] at hz
  unfold placesE at hz
  by_cases h : 16 < l.length
  ·rw [if_pos h] at hz; cases hz
  ·omega)
 rw [hz] at her HPC
 rw [hn, hm] at her
 clear hL hX hm hz hn hnm hbad
 by_cases hz0 : z = 0
 case neg =>
  rw [if_pos hz0] at her
  subst her
  have hd : ((z : Int) != 0) = true := by simp; omega
  have HZ0 := Lib.hid hz0
  clear hz0
  go_enter Try.func65, Try.ntmps65
  go_wp2_with fail
  refine (of_some k h1 h3 w).mono ?_
  rintro e w1 ⟨rfl, hg9, hb9⟩
  have HB := Lib.hid hb9
  have HZS := Lib.hid hb9.size
  have HG := Lib.hid hg9
  clear hg9 hb9
  have HsG := Lib.hid HG.out.lt
  replace HZS := sz HZS HsG.out
  go_wp2_with fail
  refine (HPC.out w1 (HL.out.up HB.out)).mono ?_
  rintro e w2 ⟨rfl, hb9⟩
  replace HG := Lib.hid (HG.out.up hb9)
  replace HB := hbu HB hb9
  replace HZS := sz HZS hb9.size
  clear hb9
  go_wp2_with fail
  simp [bodyPost, results, Try.results65, go_sem]
  exact readQ_bad _ _ HZ0.out xs HB.out
 subst hz0
 rw [if_neg (by decide)] at her
 have hn16 := HZ16.out rfl
 clear HZ16
 by_cases hnm : n = m
 case neg =>
  rw [if_neg hnm] at her
  subst her
  have hd : ((n : Int) != (m : Int)) = true := by simp; omega
  clear hnm
  go_enter Try.func65, Try.ntmps65
  go_wp2_with fail
  refine (of_some k h1 h3 w).mono ?_
  rintro e w1 ⟨rfl, hg9, hb9⟩
  have HB := Lib.hid hb9
  have HZS := Lib.hid hb9.size
  have HG := Lib.hid hg9
  clear hg9 hb9
  have HsG := Lib.hid HG.out.lt
  replace HZS := sz HZS HsG.out
  go_wp2_with fail
  refine (HPC.out w1 (HL.out.up HB.out)).mono ?_
  rintro e w2 ⟨rfl, hb9⟩
  replace HG := Lib.hid (HG.out.up hb9)
  replace HB := hbu HB hb9
  replace HZS := sz HZS hb9.size
  clear hb9
  go_wp2_with fail
  simp [bodyPost, results, Try.results65, go_sem]
  exact readQ_bad _ _ (by decide) xs HB.out
 subst hnm
 rw [if_pos rfl] at her
 have hd : ((n : Int) != (n : Int)) = false := by simp
 obtain ⟨b, hb⟩ : ∃ b, xs.all (isEl (grp k).q.m (grp k).size) = b := ⟨_, rfl⟩
 have HNO := Lib.hid (fun (h : ¬ xs.all (isEl (grp k).q.m (grp k).size) = true) => show er = bad by rw [← her, hb, if_neg (by rw [← hb]; exact h)])
 have HYES := Lib.hid (fun (h : xs.all (isEl (grp k).q.m (grp k).size) = true) => show er = 0 by rw [← her, hb, if_pos (by rw [← hb]; exact h)])
 clear her hb
 go_enter Try.func65, Try.ntmps65
 go_wp2_with fail
 refine (of_some k h1 h3 w).mono ?_
 rintro e w1 ⟨rfl, hg9, hb9⟩
 have HB := Lib.hid hb9
 have HZS := Lib.hid hb9.size
 have HG := Lib.hid hg9
 clear hg9 hb9
 have HsG := Lib.hid HG.out.lt
 replace HZS := sz HZS HsG.out
 go_wp2_with fail
 refine (HPC.out w1 (HL.out.up HB.out)).mono ?_
 rintro e w2 ⟨rfl, hb9⟩
 replace HG := Lib.hid (HG.out.up hb9)
 replace HB := hbu HB hb9
 replace HZS := sz HZS hb9.size
 clear hb9
 have BL := Lib.hid (Below.refl w2.heap.size w2)
 go_wp2_with fail
 clear hd
 go_loopw [36, 15] (fun i v wr => ∃ (j : Nat) (g : Option Addr) (c9 : Nat), j ≤ n ∧ i = .int .i64 j ∧ v = .slice g j c9 ∧ Hid (Below w2.heap.size w2 wr) ∧ Hid ((xs.take j).all (isEl (grp k).q.m (grp k).size) = true) ∧ Hid (RowO w2.heap.size wr 117 4 (.slice g j c9) j ((xs.take j).flatMap (limC (grp k).p.m)))) (fun i _ _ => n - (intOf i).toNat)
 case atStart => exact ⟨0, none, 0, Nat.zero_le _, rfl, rfl, BL, rfl, RowO.nil⟩
 case round =>
  obtain ⟨j, g, c9, hj, rfl, rfl, HL9, HAL, Hr⟩ := hrel
  have hb9 := HL9.out
  clear HL9
  replace HG := Lib.hid (HG.out.up hb9)
  replace BL := hbu BL hb9
  replace HB := hbu HB hb9
  replace HZS := sz HZS hb9.size
  clear hb9
  by_cases hjn : j < n
  ·have hjl : j < xs.length := by rw [HM.out]; exact hjn
   obtain ⟨bl, ol, rfl, hbl, hc⟩ := (HX.out.up HB.out).at j (by simpa using hjl)
   rw [List.getElem_map] at hc
   obtain ⟨bj, hbj⟩ : ∃ x, isEl (grp k).q.m (grp k).size xs[j] = x := ⟨_, rfl⟩
   have HBJ := Lib.hid hbj
   clear hbj
   go_wp2_with fail
   refine (gElem_m (grp k) OK.out _ xs[j] bj HBJ.out wr HG.out).mono ?_
   rintro e w3 ⟨sx, rfl, hb9, hx9⟩
   replace HG := Lib.hid (HG.out.up hb9)
   replace Hr := Lib.hid (Hr.out.up hb9)
   replace BL := hbu BL hb9
   replace HB := hbu HB hb9
   replace HZS := sz HZS hb9.size
   have HSX := Lib.hid hx9
   clear hx9 hb9
   unfold limbV
   obtain ⟨w4, hq4, hb9, hz9, Hbp⟩ := new1 w3 117 [.int .u64 (dig (sx) 0 : Int), .int .u64 (dig (sx) 1 : Int), .int .u64 (dig (sx) 2 : Int), .int .u64 (dig (sx) 3 : Int)]
   replace HG := Lib.hid (HG.out.up hb9)
   replace Hr := Lib.hid (Hr.out.up hb9)
   replace BL := hbu BL hb9
   replace HB := hbu HB hb9
   replace HZS := sz HZS hz9.out
   clear hb9 hz9
   have bp_ := Hbp.out.c4
   cases bj
   ·obtain rfl := HNO.out (by rw [all_not hjl HBJ.out]; decide)
    go_wp2_with fail
    clear hq4
    simp [bodyPost, results, Try.results65, go_sem]
    exact readQ_bad _ _ HBAD.out xs HB.out
   ·obtain rfl := HSX.out rfl
    obtain ⟨i9, hi9, hz90, hz91, hz92⟩ := info_parts infoElem
    go_wp2_with (at_builtin; refine wpList_pushR (w2.heap.size) w4 (by have g0 := HZS.out; omega) rfl _ _ 114 rfl 117 i9 _ 4 32 Try.underlying114 hi9 hz90 hz91 hz92 rfl (by omega) ((.slice g j c9)) (j) (((xs.take j).flatMap (limC (grp k).p.m))) rfl Hr.out _ _ _ rfl rfl rfl (by simp [Value.oneCell']) (by omega) (by unfold maxLen; omega) ?_)
    intro g5 c5 w5 hown9 hg9
    clear hq4 bp_ Hbp
    have hb9 := Below.grown HB.out hg9 (by have g0 := HZS.out; omega) (fun q hq => Nat.le_trans (show w.heap.size ≤ w2.heap.size by have g0 := HZS.out; omega) (Hr.out.lt q hq).1)
    replace HG := Lib.hid (HG.out.grown hg9 (fun e9 => by have a1 := Hr.out.lt _ e9; have g0 := HZS.out; omega))
    replace BL := Lib.hid (Below.grown BL.out hg9 (by have g0 := HZS.out; omega) (fun q hq => Nat.le_trans (show w2.heap.size ≤ w2.heap.size by have g0 := HZS.out; omega) (Hr.out.lt q hq).1))
    replace HZS := sz HZS hg9.size
    clear Hr HB
    have Hr := Lib.hid hown9
    have HB := Lib.hid hb9
    clear hb9 hown9 hg9 hi9 hz90 hz91 hz92
    go_wp2_with fail
    go_roundw
    case rel => exact ⟨j + 1, _, _, by omega, by go_num, rfl, BL, all_snoc hjl HAL.out HBJ.out, Hr.out.eq (flat_snoc _ _ _ hjl).symm rfl⟩
    case measure => simp [intOf]; omega
  ·have hjn' : j = n := by omega
   subst hjn'
   obtain rfl : er = 0 := HYES.out (by rw [← HM.out] at HAL; exact all_take_true HAL.out)
   rw [List.take_of_length_le (by rw [HM.out]; exact Nat.le_refl _)] at Hr
   go_wp2_with fail
   simp [bodyPost, results, Try.results65, go_sem]
   exact ⟨HB.out, _, _, rfl, fun _ => ⟨_, _, _, rfl, by rw [HM.out], HG.out, Hr.out.sl, Nat.le_refl _⟩⟩
end Go.Proofs.Ytjmeakfjfpnciaa
namespace Go.Proofs.Ytjmeakfjfpnciaa
open Go.RowKit
section
variable {P : Program} {ops : Array Oper} {S : World → Prop} {Q : Exit → Act → World → Prop} {k : Nat} {md : Region.Mode}
def wpAnyK (P : Program) (md : Region.Mode) (ops : Array Oper) (Q : Exit → Act → World → Prop) (S : World → Prop) (k : Nat) : Nat → Array Bool → Act → World → Prop
 | 0, listed, a, w => Region.ready md ops listed = [] ∧ Q .normal a w
 | fuel + 1, listed, a, w =>
  (Region.ready md ops listed = [] → Q .normal a w) ∧
  ∀ i ∈ Region.ready md ops listed, wpOp P ops Q i (fun a' w' => ((listed.setIfInBounds i true).getD k false = false → S w') ∧ wpAnyK P md ops Q S k fuel (listed.setIfInBounds i true) a' w') a w
theorem any_of_K : ∀ (fuel : Nat) (listed : Array Bool) (a : Act) (w : World), wpAnyK P md ops Q S k fuel listed a w → wpAny P md ops Q fuel listed a w
 | 0, _, _, _, h => h
 | fuel + 1, _, _, _, h => ⟨h.1, fun i hi => wpOp_mono (fun a' w' h' => any_of_K fuel _ a' w' h'.2) (h.2 i hi)⟩
theorem anyK_first {SS : World → Prop} (C : Array Bool → Prop) {i : Nat} {oi : Oper} {v : Value} (hi : ops[i]? = some oi) (hik : i ≠ k) (hsel : ∀ (j : Nat) (o : Oper) cs b, ops[j]? = some o → o.op ≠ .select cs b)
  (hQ : ∀ c a w, Q (.panic c) (a.put oi.dst v) w → Q (.panic c) a w)
  (hstep : ∀ listed j, C listed → i ∈ Region.ready md ops listed → j ∈ Region.ready md ops listed → j ≠ i → C (listed.setIfInBounds j true))
  (hSS : ∀ listed w, C listed → (listed.getD k false = false → S w) → SS w) :
  ∀ (fuel : Nat) (listed : Array Bool) (a : Act) (w : World),
   (∀ j oj, ops[j]? = some oj → j ≠ i → listed.getD j true = false → (∀ e ∈ oj.after, Region.binds md e = true → e.on ≠ i) → oi.apart ops oj = true) →
   i ∈ Region.ready md ops listed → C listed → YieldsIf P ops SS oi v a → (listed.getD k false = false → S w) →
   wpAnyK P md ops Q S k fuel (listed.setIfInBounds i true) (a.put oi.dst v) w → wpAnyK P md ops Q S k (fuel + 1) listed a w := by
 intro fuel
 induction fuel with
 | zero =>
  intro listed a w _ hr hC hy hS H
  refine ⟨fun h => (by rw [h] at hr; cases hr), fun j hj => ?_⟩
  by_cases hji : j = i
  ·subst hji; exact hy.wpOp hi (hSS listed w hC hS) ⟨fun h => hS (by rwa [getD_set_ne false hik] at h), H⟩
  ·have := ready_mono hj hji
   rw [H.1] at this
   cases this
 | succ fuel ih =>
  intro listed a w hfree hr hC hy hS H
  refine ⟨fun h => (by rw [h] at hr; cases hr), fun j hj => ?_⟩
  by_cases hji : j = i
  ·subst hji; exact hy.wpOp hi (hSS listed w hC hS) ⟨fun h => hS (by rwa [getD_set_ne false hik] at h), H⟩
  ·have h1 := H.2 j (ready_mono hj hji)
   obtain ⟨hjun, oj, hoj, hall⟩ := mem_ready.1 hj
   have hnot : ∀ e ∈ oj.after, Region.binds md e = true → e.on ≠ i := fun e he hb heq => by
    have h1 := hall e he hb
    have h0 := (mem_ready.1 hr).1
    rw [heq] at h1
    rcases Nat.lt_or_ge i listed.size with h' | h'
    ·simp [h'] at h0 h1; rw [h0] at h1; cases h1
    ·simp [Array.getElem?_eq_none h'] at h1
   have h2 := wpOp_putIf hoj (hfree j oj hoj hji hjun hnot) (fun cs b => hsel i oi cs b hi) (fun cs b => hsel j oj cs b hoj) hQ hy h1
   have hfree' : ∀ m om, ops[m]? = some om → m ≠ i → (listed.setIfInBounds j true).getD m true = false →
     (∀ e ∈ om.after, Region.binds md e = true → e.on ≠ i) → oi.apart ops om = true := fun m om hm hmi hun hno => by
    refine hfree m om hm hmi ?_ hno
    by_cases hjm : j = m
    ·subst hjm; exact hjun
    ·rw [getD_set_ne true hjm] at hun; exact hun
   have hkk : ((listed.setIfInBounds i true).setIfInBounds j true).getD k false = (listed.setIfInBounds j true).getD k false := by
    rw [Array.setIfInBounds_comm _ _ (Ne.symm hji), getD_set_ne false hik]
   have hr' := ready_mono hr (Ne.symm hji)
   refine wpOp_mono (fun a' w' h3 => ?_) h2
   have hS' : (listed.setIfInBounds j true).getD k false = false → S w' := fun h => h3.2.1 (by rw [hkk]; exact h)
   refine ⟨hS', ih (listed.setIfInBounds j true) a' w' hfree' hr' (hstep listed j hC hr hj hji) h3.1 hS' ?_⟩
   rw [Array.setIfInBounds_comm _ _ hji]
   exact h3.2.2
def chainB (md : Region.Mode) (ops : Array Oper) : Nat → List Nat → Bool
 | _, [] => true
 | i, j :: l => (match ops[j]? with | some o => o.after.any (fun e => Region.binds md e && e.on == i) | none => false) && chainB md ops j l
theorem chain_step {i j : Nat} {l : List Nat} {listed : Array Bool} : ∀ (i : Nat) (l : List Nat), chainB md ops i l = true → listed.getD i true = false → (∀ c ∈ l, listed.getD c true = false) → j ∈ Region.ready md ops listed → j ∉ l
 | _, [], _, _, _, _ => by simp
 | i, c :: l, hB, h0, hl, hj => by
  simp only [chainB, Bool.and_eq_true] at hB
  have ih := chain_step (listed := listed) (j := j) (i := i) (l := l) c l hB.2 (hl c (by simp)) (fun d hd => hl d (by simp [hd])) hj
  intro hm
  rcases List.mem_cons.1 hm with rfl | hm
  ·obtain ⟨_, o, ho, hall⟩ := mem_ready.1 hj
   have hB1 := hB.1
   rw [ho] at hB1
   simp only [Array.any_eq_true', Bool.and_eq_true, beq_iff_eq] at hB1
   obtain ⟨e, he, hb, hon⟩ := hB1
   have h1 := hall e he hb
   rw [hon] at h1
   rcases Nat.lt_or_ge i listed.size with h' | h'
   ·simp [h'] at h0 h1; rw [h0] at h1; cases h1
   ·simp [Array.getElem?_eq_none h'] at h1
  ·exact ih hm
inductive TreeK where
 | done : TreeK
 | q : Nat → TreeK → TreeK
 | e : Nat → List Nat → TreeK → TreeK
 | a : Nat → TreeK → TreeK
 | z : Nat → TreeK → TreeK
 | two : Nat → TreeK → Nat → TreeK → TreeK
def TreeK.qs : List Nat → TreeK → TreeK
 | [], t => t
 | i :: l, t => .q i (TreeK.qs l t)
def TreeK.size : TreeK → Nat
 | .done => 0
 | .q _ r => r.size + 1
 | .e _ _ r => r.size + 1
 | .a _ r => r.size + 1
 | .z _ r => r.size + 1
 | .two _ r _ _ => r.size + 1
def wpTreeK (P : Program) (ops : Array Oper) (S : World → Prop) (Q : Exit → Act → World → Prop) (k : Nat) : TreeK → Act → World → Prop
 | .done, a, w => Q .normal a w
 | .q i r, a, w => match ops[i]? with
  | none => False
  | some o => easyOp o = true ∧ wpQuiet P ops (fun _ => True) (fun a' => wpTreeK P ops S Q k r a' w) [o] a
 | .e i _ r, a, w => match ops[i]? with
  | none => False
  | some o => easyOp o = true ∧ wpQuiet P ops S (fun a' => wpTreeK P ops S Q k r a' w) [o] a
 | .a i r, a, w => wpOp P ops Q i (fun a' w' => (i ≠ k → S w') ∧ wpTreeK P ops S Q k r a' w') a w
 | .z i r, a, w => wpOp P ops Q i (fun a' w' => wpTreeK P ops S Q k r a' w') a w
 | .two i r j s, a, w => wpOp P ops Q i (fun a' w' => (i ≠ k → S w') ∧ wpTreeK P ops S Q k r a' w') a w ∧ wpOp P ops Q j (fun a' w' => (j ≠ k → S w') ∧ wpTreeK P ops S Q k s a' w') a w
def treeKB (md : Region.Mode) (ops : Array Oper) (k : Nat) : TreeK → Array Bool → Bool
 | .done, listed => (Region.ready md ops listed).isEmpty
 | .q i r, listed => (Region.ready md ops listed).contains i && Region.free md ops listed i && !(i == k) && treeKB md ops k r (listed.setIfInBounds i true)
 | .e i ch r, listed => (Region.ready md ops listed).contains i && Region.free md ops listed i && !(i == k) && chainB md ops i (ch ++ [k]) && (ch ++ [k]).all (fun c => !listed.getD c true) && !(i ∈ ch ++ [k]) && treeKB md ops k r (listed.setIfInBounds i true)
 | .a i r, listed => decide (Region.ready md ops listed = [i]) && treeKB md ops k r (listed.setIfInBounds i true)
 | .z i r, listed => decide (Region.ready md ops listed = [i]) && listed.getD k false && !(i == k) && treeKB md ops k r (listed.setIfInBounds i true)
 | .two i r j s, listed => decide (Region.ready md ops listed = [i, j]) && decide (r.size = s.size) && treeKB md ops k r (listed.setIfInBounds i true) && treeKB md ops k s (listed.setIfInBounds j true)
theorem listed_k {listed : Array Bool} {i : Nat} (hi : i ∈ Region.ready md ops listed) {w' : World} (h : i ≠ k → S w') : (listed.setIfInBounds i true).getD k false = false → S w' := by
 intro h9
 refine h (fun e => ?_)
 subst e
 have h0 := (mem_ready.1 hi).1
 rcases Nat.lt_or_ge i listed.size with h' | h'
 ·simp [h'] at h9
 ·simp [h'] at h0
theorem K_of_tree (hsel : Region.noSelect ops = true) (hQ : ∀ c a d v w, Q (.panic c) (a.put d v) w → Q (.panic c) a w) :
  ∀ (t : TreeK) (listed : Array Bool) (a : Act) (w : World), (listed.getD k false = false → S w) → treeKB md ops k t listed = true → wpTreeK P ops S Q k t a w → wpAnyK P md ops Q S k t.size listed a w
 | .done, listed, a, w, _, hB, h => ⟨by simpa [treeKB] using hB, h⟩
 | .q i r, listed, a, w, hS, hB, h => by
  unfold wpTreeK at h
  split at h
  ·cases h
  ·rename_i o ho
   obtain ⟨hp, hq⟩ := h
   obtain ⟨v, hy, hK⟩ := yieldsIf_easy hp hq
   simp only [treeKB, Bool.and_eq_true, Bool.not_eq_true', beq_eq_false_iff_ne] at hB
   exact anyK_first (fun _ => True) ho hB.1.2 (Region.noSelect_spec hsel) (fun c a w hq => hQ c a _ _ w hq) (fun _ _ _ _ _ _ => trivial) (fun _ _ _ _ => trivial) _ listed a w (Region.free_spec ho hB.1.1.2) (by simpa using hB.1.1.1) trivial hy hS
    (K_of_tree hsel hQ r _ _ w (fun h9 => hS (by rwa [getD_set_ne false hB.1.2] at h9)) hB.2 hK)
 | .e i ch r, listed, a, w, hS, hB, h => by
  unfold wpTreeK at h
  split at h
  ·cases h
  ·rename_i o ho
   obtain ⟨hp, hq⟩ := h
   obtain ⟨v, hy, hK⟩ := yieldsIf_easy hp hq
   simp only [treeKB, Bool.and_eq_true, Bool.not_eq_true', beq_eq_false_iff_ne, List.all_eq_true, decide_eq_false_iff_not] at hB
   obtain ⟨⟨⟨⟨⟨⟨h1, h2⟩, h3⟩, h4⟩, h5⟩, h6⟩, h7⟩ := hB
   refine anyK_first (SS := S) (fun l => ∀ c ∈ ch ++ [k], l.getD c true = false) ho h3 (Region.noSelect_spec hsel) (fun c a w hq => hQ c a _ _ w hq) ?_ ?_ _ listed a w (Region.free_spec ho h2) (by simpa using h1) h5 hy hS
    (K_of_tree hsel hQ r _ _ w (fun h9 => hS (by rwa [getD_set_ne false h3] at h9)) h7 hK)
   ·intro l j hC hr hj hji c hc
    have hn := chain_step (i := i) (l := ch) (j := j) i (ch ++ [k]) h4 (mem_ready.1 hr).1 hC hj
    rw [getD_set_ne true (fun e => hn (by rw [e]; exact hc))]
    exact hC c hc
   ·intro l w' hC h9
    refine h9 ?_
    have := hC k (by simp)
    rcases Nat.lt_or_ge k l.size with h' | h'
    ·simp [h'] at this ⊢; exact this
    ·simp [h'] at this
 | .a i r, listed, a, w, hS, hB, h => by
  simp only [treeKB, Bool.and_eq_true, decide_eq_true_eq] at hB
  unfold wpTreeK at h
  refine ⟨fun h9 => (by rw [hB.1] at h9; cases h9), fun j hj => ?_⟩
  have hj' : j = i := by rw [hB.1] at hj; simpa using hj
  subst hj'
  exact wpOp_mono (fun a' w' ⟨hS', h'⟩ => ⟨listed_k hj hS', K_of_tree hsel hQ r _ a' w' (listed_k hj hS') hB.2 h'⟩) h
 | .z i r, listed, a, w, hS, hB, h => by
  simp only [treeKB, Bool.and_eq_true, decide_eq_true_eq, Bool.not_eq_true', beq_eq_false_iff_ne] at hB
  unfold wpTreeK at h
  refine ⟨fun h9 => (by rw [hB.1.1.1] at h9; cases h9), fun j hj => ?_⟩
  have hj' : j = i := by rw [hB.1.1.1] at hj; simpa using hj
  subst hj'
  have hk : ∀ W : World, (listed.setIfInBounds j true).getD k false = false → S W := fun W h9 => by
   rw [getD_set_ne false hB.1.2, hB.1.1.2] at h9
   cases h9
  exact wpOp_mono (fun a' w' h' => ⟨hk w', K_of_tree hsel hQ r _ a' w' (hk w') hB.2 h'⟩) h
 | .two i r j s, listed, a, w, hS, hB, h => by
  simp only [treeKB, Bool.and_eq_true, decide_eq_true_eq] at hB
  obtain ⟨⟨⟨h1, h2⟩, h3⟩, h4⟩ := hB
  unfold wpTreeK at h
  refine ⟨fun h9 => (by rw [h1] at h9; cases h9), fun m hm => ?_⟩
  rcases (by rw [h1] at hm; simpa using hm : m = i ∨ m = j) with rfl | rfl
  ·exact wpOp_mono (fun a' w' ⟨hS', h'⟩ => ⟨listed_k hm hS', K_of_tree hsel hQ r _ a' w' (listed_k hm hS') h3 h'⟩) h.1
  ·exact wpOp_mono (fun a' w' ⟨hS', h'⟩ => ⟨listed_k hm hS', by rw [h2]; exact K_of_tree hsel hQ s _ a' w' (listed_k hm hS') h4 h'⟩) h.2
theorem wp_region_treek {id : Nat} {a : Act} {w : World} {l : List Oper} (S : World → Prop) (k : Nat) (t : TreeK) (hm : P.follows .mixedOrders = true)
  (hB : (Region.noSelect l.toArray && decide (t.size = l.toArray.size) && treeKB .any l.toArray k t (Array.replicate l.toArray.size false)) = true)
  (hQ : ∀ c a d v w, Q (.panic c) (a.put d v) w → Q (.panic c) a w) (hS : S w.drew) (h : wpTreeK P l.toArray S Q k t a w.drew) : (Code.region id l.toArray true).wp P Q a w := by
 simp only [Bool.and_eq_true, decide_eq_true_eq] at hB
 refine wp_region_any hm (any_of_K (S := S) (k := k) _ _ _ _ ?_)
 have := K_of_tree hB.1.1 hQ t _ a _ (fun _ => hS) hB.2 h
 rw [hB.1.2] at this
 exact this
theorem treek_q {l : List Oper} {i : Nat} {r : TreeK} {o : Oper} {a : Act} {w : World} (ho : l[i]? = some o) (hp : easyOp o = true) (h : wpQuiet P l.toArray (fun _ => True) (fun a' => wpTreeK P l.toArray S Q k r a' w) [o] a) :
  wpTreeK P l.toArray S Q k (.q i r) a w := by
 unfold wpTreeK
 rw [List.getElem?_toArray, ho]
 exact ⟨hp, h⟩
theorem treek_e {l ch : List _} {i : Nat} {r : TreeK} {o : Oper} {a : Act} {w : World} (ho : l[i]? = some o) (hp : easyOp o = true) (h : wpQuiet P l.toArray S (fun a' => wpTreeK P l.toArray S Q k r a' w) [o] a) :
  wpTreeK P l.toArray S Q k (.e i ch r) a w := by
 unfold wpTreeK
 rw [List.getElem?_toArray, ho]
 exact ⟨hp, h⟩
theorem treek_a {l : List Oper} {i : Nat} {r : TreeK} {o : Oper} {a : Act} {w : World} (ho : l[i]? = some o)
  (h : ∀ K : Act → World → Prop, (∀ a w, (i ≠ k → S w) ∧ wpTreeK P l.toArray S Q k r a w → K a w) → if Region.wanted o (yielded l.toArray a.tmps) = true then Oper.wp P o a w K Q else K (a.put o.dst undef) w) :
  wpTreeK P l.toArray S Q k (.a i r) a w := by
 unfold wpTreeK
 exact wpOp_step (by rw [List.getElem?_toArray, ho]) h
theorem treek_z {l : List Oper} {i : Nat} {r : TreeK} {o : Oper} {a : Act} {w : World} (ho : l[i]? = some o)
  (h : ∀ K : Act → World → Prop, (∀ a w, wpTreeK P l.toArray S Q k r a w → K a w) → if Region.wanted o (yielded l.toArray a.tmps) = true then Oper.wp P o a w K Q else K (a.put o.dst undef) w) :
  wpTreeK P l.toArray S Q k (.z i r) a w := by
 unfold wpTreeK
 exact wpOp_step (by rw [List.getElem?_toArray, ho]) h
theorem treek_end {a : Act} {w : World} (h : Q .normal a w) : wpTreeK P ops S Q k .done a w := h
end
end Go.Proofs.Ytjmeakfjfpnciaa
namespace Go.Proofs.Ytjmeakfjfpnciaa
open Go.RowKit
def lim4 (m n : Nat) : List Value := [.int .u64 (dig (mont m n) 0 : Int), .int .u64 (dig (mont m n) 1 : Int), .int .u64 (dig (mont m n) 2 : Int), .int .u64 (dig (mont m n) 3 : Int)]
theorem lim4_len (m n : Nat) : (lim4 m n).length = 4 := rfl
def OkP (l : List Int) : Prop := ∀ b ∈ l, 0 ≤ b ∧ b ≤ 255
theorem prU_succ (f : Int → Nat) (l : List Int) {i j : Nat} (h : ¬ i = j) : prU f l i (j + 1) = prU f l i j * f (l.getD j 0) := if_neg h
theorem prU_same (f : Int → Nat) (l : List Int) {i j : Nat} (h : i = j) : prU f l i (j + 1) = prU f l i j := if_pos h
theorem getD_here {l : List Int} {j : Nat} (hj : j < l.length) : l.getD j 0 = l[j] := by rw [List.getD_eq_getElem?_getD, List.getElem?_eq_getElem hj]; rfl
theorem modI_one {q : Nat} (hq : 1 < q) : modI q 1 = 1 := by
 unfold modI
 rw [Int.emod_eq_of_lt (by decide) (by omega)]
 rfl
def wtL (q : Nat) (l : List Int) (x : Int) (n : Nat) : List Value := (List.range n).flatMap fun i => lim4 q (wtN q l i x)
theorem wtL_snoc (q : Nat) (l : List Int) (x : Int) (n : Nat) : wtL q l x (n + 1) = wtL q l x n ++ lim4 q (wtN q l n x) := by
 unfold wtL
 rw [List.range_succ, List.flatMap_append]
 simp
def WtR (q : Nat) (l : List Int) (x : Int) (w : World) (e : Ending) (w' : World) : Prop :=
 Below w.heap.size w w' ∧ ∃ a c, e = .returned (.slice a l.length c) ∧ Sl w' w'.heap.size a (wtL q l x l.length) ∧ ∀ y, a = some y → w.heap.size ≤ y.block
theorem weights_any (G : GP) (ok : G.Ok) (gb : Nat) (l : List Int) (n : Nat) (hn : l.length = n) (hn16 : n ≤ 16) (hl : OkP l) (x : Int) (hx : 0 ≤ x ∧ x ≤ 255) (a : Option Addr) (c : Nat) (w : World) (hG : GroupAt w gb G) (hX : Sl w w.heap.size a (l.map intV)) :
  Calls Try.prog 53 #[.pointer (some ⟨gb, 0, none⟩), .slice a n c, .int .i64 x] w (WtR G.q.m l x w) := by
 unfold WtR
 rw [hn]
 have OK := Lib.hid ok
 have HG := Lib.hid hG
 have HGL := Lib.hid hG.lt
 have HX := Lib.hid hX
 have HN := Lib.hid hn
 have HL := Lib.hid hl
 have HXX := Lib.hid hx
 have HM1 := Lib.hid (modI_one (q := G.q.m) (by have := ok.odd; omega))
 clear ok hG hX hn hl hx
 go_enter Try.func53, Try.ntmps53
 go_wp2_with fail
 go_loopw [16, 7] (fun i v wr => ∃ (j : Nat) (g : Option Addr) (c9 : Nat), j ≤ n ∧ i = .int .i64 j ∧ v = .slice g j c9 ∧ Hid (Below w.heap.size w wr) ∧ Hid (RowO w.heap.size wr 98 4 (.slice g j c9) j (wtL G.q.m l x j))) (fun i _ _ => n - (intOf i).toNat)
 case atStart => exact ⟨0, none, 0, Nat.zero_le _, rfl, rfl, Below.refl _ _, RowO.nil⟩
 case round =>
  obtain ⟨i, g, c9, hi, rfl, rfl, HB, Hr⟩ := hrel
  by_cases hin : i < n
  ·have hil : i < l.length := by rw [HN.out]; exact hin
   have HSB := Lib.hid (show w.heap.size ≤ wr.heap.size from HB.out.size)
   have HZS := HSB
   have HZS := HSB
   have HGP := Lib.hid (HG.out.up HB.out)
   obtain ⟨bl, ol, rfl, hbl, hc⟩ := (HX.out.up HB.out).at i (by rw [List.length_map]; exact hil)
   rw [List.getElem_map] at hc
   unfold intV at hc
   have HAI := Lib.hid (HL.out _ (List.getElem_mem hil))
   have HGD := Lib.hid (getD_here hil)
   generalize l[i] = ai at *
   have HSN := Lib.hid (wtL_snoc G.q.m l x i)
   obtain ⟨wo, rfl⟩ : ∃ wo : World, wo = wr := ⟨_, rfl⟩
   have HBB := HB
   have HRB := Hr
   have HGB := HGP
   have BI := Lib.hid (Below.refl wo.heap.size wo)
   go_wp2_with fail
   refine (gNumber_any G OK.out gb 1 (by decide) (by decide) wo HGP.out).mono ?_
   rintro e w1 ⟨rfl, hb9⟩
   replace HGP := Lib.hid (HGP.out.up hb9)
   replace Hr := Lib.hid (Hr.out.up hb9)
   replace BI := hbu BI hb9
   replace HB := hbu HB hb9
   replace HZS := sz HZS hb9.size
   clear hb9
   rw [HM1.out]
   go_wp2_with fail
   refine (gNumber_any G OK.out gb 1 (by decide) (by decide) w1 HGP.out).mono ?_
   rintro e w2 ⟨rfl, hb9⟩
   replace HGP := Lib.hid (HGP.out.up hb9)
   replace Hr := Lib.hid (Hr.out.up hb9)
   replace BI := hbu BI hb9
   replace HB := hbu HB hb9
   replace HZS := sz HZS hb9.size
   clear hb9
   rw [HM1.out]
   unfold scV limbV
   obtain ⟨w3, hq3, hb9, hz9, Hup, Hdn⟩ := new2 w2 98 [.int .u64 (dig (mont G.q.m 1) 0 : Int), .int .u64 (dig (mont G.q.m 1) 1 : Int), .int .u64 (dig (mont G.q.m 1) 2 : Int), .int .u64 (dig (mont G.q.m 1) 3 : Int)] 98 [.int .u64 (dig (mont G.q.m 1) 0 : Int), .int .u64 (dig (mont G.q.m 1) 1 : Int), .int .u64 (dig (mont G.q.m 1) 2 : Int), .int .u64 (dig (mont G.q.m 1) 3 : Int)]
   replace HGP := Lib.hid (HGP.out.up hb9)
   replace Hr := Lib.hid (Hr.out.up hb9)
   replace BI := hbu BI hb9
   replace HB := hbu HB hb9
   replace HZS := sz HZS hz9.out
   clear hb9 hz9
   have up_ := Hup.out.c4
   have dn_ := Hdn.out.c4
   clear hc
   go_wp2_with fail
   clear hq3
   obtain ⟨db, hdb⟩ : ∃ q, w2.heap.size + 1 = q := ⟨_, rfl⟩
   rw [hdb] at Hdn dn_ ⊢
   obtain ⟨ub, hub⟩ : ∃ q, w2.heap.size = q := ⟨_, rfl⟩
   rw [hub] at Hup up_ ⊢
   have HUD := Lib.hid (show wo.heap.size ≤ ub ∧ ub < db from by have := HZS.out; omega)
   clear hub hdb
   go_loopw [27] (fun v wr => ∃ t : Nat, t ≤ n ∧ v = .int .i64 t ∧ Hid (Below wo.heap.size wo wr) ∧ Hid (Bx wr ub 98 (lim4 G.q.m (prU (fun b => modI G.q.m (x - b)) l i t))) ∧ Hid (Bx wr db 98 (lim4 G.q.m (prU (fun b => modI G.q.m (ai - b)) l i t)))) (fun v _ => n - (intOf v).toNat)
   case atStart => exact ⟨0, Nat.zero_le _, rfl, BI, Hup, Hdn⟩
   case round =>
    clear Hup Hdn up_ dn_ HB Hr HGP
    obtain ⟨t, ht, rfl, BI, Hup, Hdn⟩ := hrel
    have HB := Lib.hid (HBB.out.trans (BI.out.mono HSB.out))
    have HGP := Lib.hid (HGB.out.up BI.out)
    have HSW := Lib.hid (show db < wr.heap.size ∧ wo.heap.size ≤ wr.heap.size from ⟨Hdn.out.lt, BI.out.size⟩)
    replace Hup := Lib.hid (show Bx wr ub 98 [.int .u64 (dig (mont G.q.m (prU (fun b => modI G.q.m (x - b)) l i t)) 0 : Int), .int .u64 (dig (mont G.q.m (prU (fun b => modI G.q.m (x - b)) l i t)) 1 : Int), .int .u64 (dig (mont G.q.m (prU (fun b => modI G.q.m (x - b)) l i t)) 2 : Int), .int .u64 (dig (mont G.q.m (prU (fun b => modI G.q.m (x - b)) l i t)) 3 : Int)] from Hup.out)
    replace Hdn := Lib.hid (show Bx wr db 98 [.int .u64 (dig (mont G.q.m (prU (fun b => modI G.q.m (ai - b)) l i t)) 0 : Int), .int .u64 (dig (mont G.q.m (prU (fun b => modI G.q.m (ai - b)) l i t)) 1 : Int), .int .u64 (dig (mont G.q.m (prU (fun b => modI G.q.m (ai - b)) l i t)) 2 : Int), .int .u64 (dig (mont G.q.m (prU (fun b => modI G.q.m (ai - b)) l i t)) 3 : Int)] from Hdn.out)
    replace HZS := sz HZS HUD.out
    replace HZS := sz HZS HSW.out
    replace HZS := sz HZS HGL.out
    have up_ := Hup.out.c4
    have dn_ := Hdn.out.c4
    by_cases htn : t < n
    ·have htl : t < l.length := by rw [HN.out]; exact htn
     obtain ⟨_, _, e9, hbl, hc⟩ := (HX.out.up HB.out).at t (by rw [List.length_map]; exact htl)
     cases e9
     rw [List.getElem_map] at hc
     unfold intV at hc
     have HAT := Lib.hid (HL.out _ (List.getElem_mem htl))
     have HGT := Lib.hid (getD_here htl)
     generalize l[t] = y at *
     by_cases hit : i = t
     ·have hd : ((i : Int) != (t : Int)) = false := by simp; omega
      have HE1 := Lib.hid (prU_same (fun b => modI G.q.m (x - b)) l hit)
      have HE2 := Lib.hid (prU_same (fun b => modI G.q.m (ai - b)) l hit)
      clear hit
      go_wp2_with fail
      go_roundw
      case rel => exact ⟨t + 1, by omega, by go_num, BI, by rw [HE1.out]; exact Hup, by rw [HE2.out]; exact Hdn⟩
      case measure => simp [intOf]; omega
     ·have hd : ((i : Int) != (t : Int)) = true := by simp; omega
      have HE1 := Lib.hid (prU_succ (fun b => modI G.q.m (x - b)) l hit)
      have HE2 := Lib.hid (prU_succ (fun b => modI G.q.m (ai - b)) l hit)
      rw [HGT.out] at HE1 HE2
      have hw1 : wrap64 (x - y) = x - y := by have h1 := HAT.out; have h2 := HXX.out; unfold wrap64; omega
      have hw2 : wrap64 (ai - y) = ai - y := by have h1 := HAT.out; have h2 := HAI.out; unfold wrap64; omega
      clear hit
      generalize prU (fun b => modI G.q.m (x - b)) l i t = pu at *
      generalize prU (fun b => modI G.q.m (ai - b)) l i t = pd at *
      go_wp2_with fail
      clear hc
      have HT := Lib.hid (show Below wr.heap.size wr wr.drew from (Below.refl _ _).drew)
      have hl_up := Hup.out.lt
      have hl_dn := Hdn.out.lt
      refine wp_region_treek (fun wq9 => ∃ E : Over wr, wq9 = E.w) 16 ((.qs [0] (.e 1 [] (.qs [2, 3, 4, 5, 8] (.e 9 [15] (.qs [10, 11, 12, 13] (.a 6 (.a 7 (.a 14 (.a 15 (.a 16 (.z 17 .done)))))))))))) (by kernel_rfl) (by kernel_rfl) (fun _ _ d _ _ h => by cases d <;> exact h) ⟨⟨_, HT.out⟩, rfl⟩ ?_
      have hov_up := fun (E : Over wr) o => E.cell (b := ub) o hl_up
      have hov_dn := fun (E : Over wr) o => E.cell (b := db) o hl_dn
      simp only [TreeK.qs]
      repeat (first | (refine treek_q rfl rfl ?_; go_big_quiet_step (fail); refine wpQuiet_nil ?_) | (refine treek_e rfl rfl ?_; go_big_quiet_step (fail); refine wpQuiet_nil ?_))
      refine treek_a rfl (fun K hK => ?_)
      go_simp
      refine (gNumber_any G OK.out gb (x - y) (by have h1 := HAT.out; have h2 := HXX.out; omega) (by have h1 := HAT.out; have h2 := HXX.out; omega) _ (HGP.out.up HT.out)).mono ?_
      rintro e w4 ⟨rfl, hb9⟩
      replace HT := Lib.hid (below_up HT.out hb9)
      replace HZS := sz HZS (show wr.heap.size ≤ w4.heap.size from HT.out.size)
      clear hb9
      refine hK _ _ ⟨fun _ => ⟨⟨w4, HT.out⟩, rfl⟩, ?_⟩
      clear hK K
      repeat (first | (refine treek_q rfl rfl ?_; go_big_quiet_step (fail); refine wpQuiet_nil ?_) | (refine treek_e rfl rfl ?_; go_big_quiet_step (fail); refine wpQuiet_nil ?_))
      refine treek_a rfl (fun K hK => ?_)
      go_simp
      refine (gMul_any G OK.out gb pu (modI G.q.m (x - y)) _ (HGP.out.up HT.out)).mono ?_
      rintro e w5 ⟨rfl, hb9⟩
      replace HT := Lib.hid (below_up HT.out hb9)
      replace HZS := sz HZS (show wr.heap.size ≤ w5.heap.size from HT.out.size)
      clear hb9
      refine hK _ _ ⟨fun _ => ⟨⟨w5, HT.out⟩, rfl⟩, ?_⟩
      clear hK K
      repeat (first | (refine treek_q rfl rfl ?_; go_big_quiet_step (fail); refine wpQuiet_nil ?_) | (refine treek_e rfl rfl ?_; go_big_quiet_step (fail); refine wpQuiet_nil ?_))
      refine treek_a rfl (fun K hK => ?_)
      go_simp
      refine (gNumber_any G OK.out gb (ai - y) (by have h1 := HAT.out; have h2 := HAI.out; omega) (by have h1 := HAT.out; have h2 := HAI.out; omega) _ (HGP.out.up HT.out)).mono ?_
      rintro e w6 ⟨rfl, hb9⟩
      replace HT := Lib.hid (below_up HT.out hb9)
      replace HZS := sz HZS (show wr.heap.size ≤ w6.heap.size from HT.out.size)
      clear hb9
      refine hK _ _ ⟨fun _ => ⟨⟨w6, HT.out⟩, rfl⟩, ?_⟩
      clear hK K
      repeat (first | (refine treek_q rfl rfl ?_; go_big_quiet_step (fail); refine wpQuiet_nil ?_) | (refine treek_e rfl rfl ?_; go_big_quiet_step (fail); refine wpQuiet_nil ?_))
      refine treek_a rfl (fun K hK => ?_)
      go_simp
      refine (gMul_any G OK.out gb pd (modI G.q.m (ai - y)) _ (HGP.out.up HT.out)).mono ?_
      rintro e w7 ⟨rfl, hb9⟩
      replace HT := Lib.hid (below_up HT.out hb9)
      replace HZS := sz HZS (show wr.heap.size ≤ w7.heap.size from HT.out.size)
      clear hb9
      unfold scV limbV
      refine hK _ _ ⟨fun _ => ⟨⟨w7, HT.out⟩, rfl⟩, ?_⟩
      clear hK K
      repeat (first | (refine treek_q rfl rfl ?_; go_big_quiet_step (fail); refine wpQuiet_nil ?_) | (refine treek_e rfl rfl ?_; go_big_quiet_step (fail); refine wpQuiet_nil ?_))
      clear hov_up hl_up hov_dn hl_dn
      refine treek_a rfl (fun K hK => ?_)
      clear up_
      replace Hup := Lib.hid (Hup.out.up HT.out)
      clear dn_
      replace Hdn := Lib.hid (Hdn.out.up HT.out)
      replace HGP := Lib.hid (HGP.out.up HT.out)
      replace BI := hbu BI HT.out
      replace HB := hbu HB HT.out
      replace HZS := sz HZS HT.out.size
      clear HT
      have up_ := Hup.out.c4
      have dn_ := Hdn.out.c4
      have f8_up := Hup.out.frozen
      have o8_up_ := up_; clear up_
      have o8_dn_ := dn_; clear dn_
      obtain ⟨w8, hq8, hg9, hz9, hx9⟩ := put4 Hup 0 (.int .u64 (dig (mont G.q.m (pu * modI G.q.m (x - y))) 0 : Int)) 1 (.int .u64 (dig (mont G.q.m (pu * modI G.q.m (x - y))) 1 : Int)) 2 (.int .u64 (dig (mont G.q.m (pu * modI G.q.m (x - y))) 2 : Int)) 3 (.int .u64 (dig (mont G.q.m (pu * modI G.q.m (x - y))) 3 : Int)) [.int .u64 (dig (mont G.q.m (pu * modI G.q.m (x - y))) 0 : Int), .int .u64 (dig (mont G.q.m (pu * modI G.q.m (x - y))) 1 : Int), .int .u64 (dig (mont G.q.m (pu * modI G.q.m (x - y))) 2 : Int), .int .u64 (dig (mont G.q.m (pu * modI G.q.m (x - y))) 3 : Int)] rfl
      replace Hdn := Lib.hid (Hdn.out.grown hg9.out (sne (by have g0 := HZS.out; omega)))
      replace HGP := Lib.hid (HGP.out.grown hg9.out (sne (by have g0 := HZS.out; omega)))
      replace BI := hbg BI hg9 (by have g0 := HZS.out; omega)
      replace HB := hbg HB hg9 (by have g0 := HZS.out; omega)
      replace HZS := sz HZS hz9.out
      replace Hup := hx9
      clear hx9 hg9 hz9
      have up_ := Hup.out.c4
      have dn_ := Hdn.out.c4
      go_simp
      try rw [hq8]
      refine hK _ _ ⟨fun h9 => absurd rfl h9, ?_⟩
      clear hK K hq8 o8_dn_ o8_up_ f8_up
      repeat (first | (refine treek_q rfl rfl ?_; go_big_quiet_step (fail); refine wpQuiet_nil ?_) | (refine treek_e rfl rfl ?_; go_big_quiet_step (fail); refine wpQuiet_nil ?_))
      refine treek_z rfl (fun K hK => ?_)
      have f9_dn := Hdn.out.frozen
      have o9_up_ := up_; clear up_
      have o9_dn_ := dn_; clear dn_
      obtain ⟨w9, hq9, hg9, hz9, hx9⟩ := put4 Hdn 0 (.int .u64 (dig (mont G.q.m (pd * modI G.q.m (ai - y))) 0 : Int)) 1 (.int .u64 (dig (mont G.q.m (pd * modI G.q.m (ai - y))) 1 : Int)) 2 (.int .u64 (dig (mont G.q.m (pd * modI G.q.m (ai - y))) 2 : Int)) 3 (.int .u64 (dig (mont G.q.m (pd * modI G.q.m (ai - y))) 3 : Int)) [.int .u64 (dig (mont G.q.m (pd * modI G.q.m (ai - y))) 0 : Int), .int .u64 (dig (mont G.q.m (pd * modI G.q.m (ai - y))) 1 : Int), .int .u64 (dig (mont G.q.m (pd * modI G.q.m (ai - y))) 2 : Int), .int .u64 (dig (mont G.q.m (pd * modI G.q.m (ai - y))) 3 : Int)] rfl
      replace Hup := Lib.hid (Hup.out.grown hg9.out (sne (by have g0 := HZS.out; omega)))
      replace HGP := Lib.hid (HGP.out.grown hg9.out (sne (by have g0 := HZS.out; omega)))
      replace BI := hbg BI hg9 (by have g0 := HZS.out; omega)
      replace HB := hbg HB hg9 (by have g0 := HZS.out; omega)
      replace HZS := sz HZS hz9.out
      replace Hdn := hx9
      clear hx9 hg9 hz9
      have up_ := Hup.out.c4
      have dn_ := Hdn.out.c4
      go_simp
      try rw [hq9]
      refine hK _ _ ?_
      clear hK K hq9 o9_dn_ o9_up_ f9_dn
      repeat (first | (refine treek_q rfl rfl ?_; go_big_quiet_step (fail); refine wpQuiet_nil ?_) | (refine treek_e rfl rfl ?_; go_big_quiet_step (fail); refine wpQuiet_nil ?_))
      refine treek_end ?_
      go_wp2_with fail
      go_roundw
      case rel => exact ⟨t + 1, by omega, by go_num, BI, by rw [HE1.out]; exact Hup, by rw [HE2.out]; exact Hdn⟩
      case measure => simp [intOf]; omega
    ·have htn' : t = n := by omega
     subst htn'
     have HWE := Lib.hid (show wtN G.q.m l i x = prU (fun b => modI G.q.m (x - b)) l i l.length * prU (fun b => modI G.q.m (ai - b)) l i l.length ^ (G.q.m - 2) by unfold wtN wtU; rw [HGD.out])
     rw [HN.out] at HWE
     generalize prU (fun b => modI G.q.m (x - b)) l i t = pu at *
     generalize prU (fun b => modI G.q.m (ai - b)) l i t = pd at *
     have Hr := Lib.hid (HRB.out.up BI.out)
     have HRO := Lib.hid (fun q9 (h9 : (Value.slice g i c9).ownBlock = some q9) => (HRB.out.lt q9 h9).2)
     go_wp2_with fail
     have HT := Lib.hid (show Below wr.heap.size wr wr.drew from (Below.refl _ _).drew)
     have hl_up := Hup.out.lt
     have hl_dn := Hdn.out.lt
     refine wp_region_tree (fun wq9 => ∃ E : But wr (Value.ownBlock (.slice g i c9)), wq9 = E.w) ((.qs [0, 1, 2, 3, 4] (.a 5 (.a 6 (.a 7 (.a 8 (.qs [9] .done))))))) (by kernel_rfl) (by kernel_rfl) (fun _ _ d _ _ h => by cases d <;> exact h) ⟨⟨_, ((below_grown HT.out).but _)⟩, rfl⟩ ?_
     have hov_up := fun (E : But wr (Value.ownBlock (.slice g i c9))) o => E.cell (b := ub) o hl_up (by intro e9; have a2 := HRO.out _ e9; have a1 := Hr.out.lt _ e9; have g0 := HZS.out; omega)
     have hov_dn := fun (E : But wr (Value.ownBlock (.slice g i c9))) o => E.cell (b := db) o hl_dn (by intro e9; have a2 := HRO.out _ e9; have a1 := Hr.out.lt _ e9; have g0 := HZS.out; omega)
     simp only [Tree.qs]
     repeat (refine tree_q rfl rfl ?_; go_big_quiet_step (fail); refine wpQuiet_nil ?_)
     refine tree_a rfl (fun K hK => ?_)
     go_simp
     refine (gInv_any G OK.out gb pd _ (HGP.out.up HT.out)).mono ?_
     rintro e w4 ⟨rfl, hb9⟩
     replace HT := Lib.hid (below_up HT.out hb9)
     replace HZS := sz HZS (show wr.heap.size ≤ w4.heap.size from HT.out.size)
     clear hb9
     refine hK _ _ ⟨⟨⟨w4, ((below_grown HT.out).but _)⟩, rfl⟩, ?_⟩
     clear hK K
     repeat (refine tree_q rfl rfl ?_; go_big_quiet_step (fail); refine wpQuiet_nil ?_)
     refine tree_a rfl (fun K hK => ?_)
     go_simp
     refine (gMul_any G OK.out gb pu (pd ^ (G.q.m - 2)) _ (HGP.out.up HT.out)).mono ?_
     rintro e w5 ⟨rfl, hb9⟩
     replace HT := Lib.hid (below_up HT.out hb9)
     replace HZS := sz HZS (show wr.heap.size ≤ w5.heap.size from HT.out.size)
     clear hb9
     unfold scV limbV
     refine hK _ _ ⟨⟨⟨w5, ((below_grown HT.out).but _)⟩, rfl⟩, ?_⟩
     clear hK K
     repeat (refine tree_q rfl rfl ?_; go_big_quiet_step (fail); refine wpQuiet_nil ?_)
     clear hov_up hl_up hov_dn hl_dn
     refine tree_a rfl (fun K hK => ?_)
     go_simp
     refine hK _ _ ⟨⟨⟨_, (below_grown (HT.out.alloc HT.out.size _)).but _⟩, rfl⟩, ?_⟩
     clear hK K
     obtain ⟨i9, hi9, hz90, hz91, hz92⟩ := info_parts infoScalar
     have HG1 := Lib.hid ((below_grown HT.out).but (Value.ownBlock (.slice g i c9)))
     clear up_
     replace Hup := Lib.hid (Hup.out.up HT.out)
     clear dn_
     replace Hdn := Lib.hid (Hdn.out.up HT.out)
     replace HGP := Lib.hid (HGP.out.up HT.out)
     replace Hr := Lib.hid (Hr.out.up HT.out)
     replace HB := hbu HB HT.out
     replace HZS := sz HZS HT.out.size
     refine tree_a rfl (fun K hK => ?_)
     refine step_pushR (w.heap.size) w5 (by have g0 := HZS.out; omega) rfl _ _ 91 rfl 98 i9 _ 4 32 Try.underlying91 hi9 hz90 hz91 hz92 rfl (by omega) ((.slice g i c9)) (i) ((wtL G.q.m l x i)) rfl Hr.out _ _ _ rfl rfl rfl (by simp [Value.oneCell']) (by omega) (by unfold maxLen; omega) ?_
     intro g6 c6 w6 hown9 hg9
     have HGR := Lib.hid (HG1.out.trans hg9)
     have hb9 := Below.grown HB.out hg9 (by have g0 := HZS.out; omega) (fun q hq => Nat.le_trans (show w.heap.size ≤ w.heap.size by have g0 := HZS.out; omega) (Hr.out.lt q hq).1)
     replace Hup := Lib.hid (Hup.out.grown hg9 (fun e9 => by have a2 := HRO.out _ e9; have a1 := Hr.out.lt _ e9; have g0 := HZS.out; omega))
     replace Hdn := Lib.hid (Hdn.out.grown hg9 (fun e9 => by have a2 := HRO.out _ e9; have a1 := Hr.out.lt _ e9; have g0 := HZS.out; omega))
     replace HGP := Lib.hid (HGP.out.grown hg9 (fun e9 => by have a2 := HRO.out _ e9; have a1 := Hr.out.lt _ e9; have g0 := HZS.out; omega))
     replace HZS := sz HZS hg9.size
     clear Hr HB HT HG1
     have Hr := Lib.hid hown9
     have HB := Lib.hid hb9
     clear hb9 hown9 hg9 hi9 hz90 hz91 hz92
     refine hK _ _ ⟨⟨⟨w6, HGR.out⟩, rfl⟩, ?_⟩
     clear hK K HGR
     have up_ := Hup.out.c4
     have dn_ := Hdn.out.c4
     try simp only [Act.put, List.setIfInBounds_toArray, List.set_cons_succ, List.set_cons_zero]
     repeat (refine tree_q rfl rfl ?_; go_big_quiet_step (fail); refine wpQuiet_nil ?_)
     refine tree_end ?_
     go_wp2_with fail
     go_roundw
     case rel => exact ⟨i + 1, _, _, by omega, by go_num, rfl, HB, Hr.out.eq (by rw [HSN.out, HWE.out]; rfl) rfl⟩
     case measure => simp [intOf]; omega
  ·have hin' : i = n := by omega
   subst hin'
   go_wp2_with fail
   go_ret
   exact ⟨HB.out, g, c9, rfl, Hr.out.sl, fun y hy => (Hr.out.lt y.block (by rw [hy]; rfl)).1⟩
end Go.Proofs.Ytjmeakfjfpnciaa
namespace Go.Proofs.Ytjmeakfjfpnciaa
open Go.RowKit
theorem infoStr : (Try.prog.info? 9).map (fun i => (i.zero, i.size, i.bytes)) = some (some (.string ⟨#[]⟩), 1, 16) := by kernel_rfl
theorem Sl.adr {w : World} {B : Nat} {a : Option Addr} {cs : List Value} (h : Sl w B a cs) (h0 : cs ≠ []) : ∃ b o, a = some ⟨b, o, none⟩ ∧ b < B := by
 rcases h with h | ⟨b, off, rfl, hb, _⟩
 ·exact absurd h h0
 ·exact ⟨b, off, rfl, hb⟩
theorem Sl.elemS {w : World} {B b o : Nat} {α : Type} {f : α → List Value} {k : Nat} {l : List α} (h : Sl w B (some ⟨b, o, none⟩) (l.flatMap f)) (hk : ∀ x, (f x).length = k) (h0 : 0 < k) (i : Nat) (hi : i < l.length) :
  b < B ∧ ∀ j v, (f l[i])[j]? = some v → w.cell? ⟨b, o + i * k + j, none⟩ = some v := by
 obtain ⟨b', o', he, hb, hc⟩ := h.elem hk h0 i hi
 simp only [Option.some.injEq, Addr.mk.injEq, and_true] at he
 obtain ⟨rfl, rfl⟩ := he
 exact ⟨hb, hc⟩
theorem flat_ne {α : Type} {f : α → List Value} {k : Nat} {l : List α} (hk : ∀ x, (f x).length = k) (h0 : 0 < k) (hl : l ≠ []) : l.flatMap f ≠ [] := by
 intro e
 have := flat_len f k hk l
 rw [e, List.length_nil] at this
 have : 0 < l.length * k := Nat.mul_pos (List.length_pos_iff.2 hl) h0
 omega
end Go.Proofs.Ytjmeakfjfpnciaa
namespace Go.Proofs.Ytjmeakfjfpnciaa
open Go.RowKit
theorem pl_zero {l : List Int} (h : placesE l = 0) : l.length ≤ 16 ∧ l.length ≠ 0 ∧ OkP l ∧ l.Nodup := by
 unfold placesE at h
 by_cases h1 : 16 < l.length
 ·rw [if_pos h1] at h; cases h
 rw [if_neg h1] at h
 by_cases h2 : l.length = 0
 ·rw [if_pos h2] at h; cases h
 rw [if_neg h2] at h
 by_cases h3 : l.any outPl = true
 ·rw [if_pos h3] at h; cases h
 rw [if_neg h3] at h
 by_cases h4 : l.Nodup
 ·refine ⟨by omega, h2, fun b hb => ?_, h4⟩
  exact outP_false (by simpa using (List.any_eq_false.1 (Bool.eq_false_iff.2 h3)) b hb)
 ·rw [if_neg h4] at h; cases h
theorem readE_zero {f : ByteArray → Bool} {bad : Nat} (hb : bad ≠ 0) {l : List Int} {xs : List ByteArray} (h : readE f bad l xs = 0) : placesE l = 0 ∧ l.length = xs.length ∧ xs.all f = true := by
 unfold readE at h
 by_cases h1 : placesE l ≠ 0
 ·rw [if_pos h1] at h; exact absurd h h1
 rw [if_neg h1] at h
 by_cases h2 : l.length = xs.length
 ·rw [if_pos h2] at h
  by_cases h3 : xs.all f = true
  ·exact ⟨by omega, h2, h3⟩
  ·rw [if_neg h3] at h; exact absurd h hb
 ·rw [if_neg h2] at h; cases h
def valN (xs : List ByteArray) (i : Nat) : Nat := numOf (xs.getD i ⟨#[]⟩)
theorem valN_here {xs : List ByteArray} {i : Nat} (h : i < xs.length) : valN xs i = numOf xs[i] := by unfold valN; rw [List.getD_eq_getElem?_getD, List.getElem?_eq_getElem h]; rfl
def thrE (G : GP) (l : List Int) (xs : List ByteArray) (x : Int) : Nat := if readE (isSc G.q.m G.size) 6 l xs ≠ 0 then readE (isSc G.q.m G.size) 6 l xs else if outPl x = true then 4 else 0
def thrS (G : GP) (l : List Int) (xs : List ByteArray) (x : Int) : ByteArray := if thrE G l xs x = 0 then textS (thQ G.q.m l (valN xs) x l.length) G.size else ⟨#[]⟩
def tgU (q : Nat) (l : List Int) (v : Nat → Nat) : Nat → Nat
 | 0 => 1
 | i + 1 => tgU q l v i * v i ^ (wtN q l i 0 % q)
def togE (G : GP) (l : List Int) (xs : List ByteArray) : Nat := readE (isEl G.q.m G.size) 7 l xs
def togS (G : GP) (l : List Int) (xs : List ByteArray) : ByteArray := if togE G l xs = 0 then textS (lowN G (tgU G.q.m l (valN xs) l.length)) G.size else ⟨#[]⟩
theorem mont_zero8 (m : Nat) : mont m 0 = 0 := by unfold mont; simp
theorem dig_zero8 (i : Nat) : dig 0 i = 0 := by unfold dig; simp
theorem grp_odd (k : Nat) (h1 : 1 ≤ k) (h3 : k ≤ 3) : (grp k).q.m % 2 = 1 := by
 obtain rfl | rfl | rfl : k = 1 ∨ k = 2 ∨ k = 3 := by omega
 all_goals decide +kernel
theorem through_some (k : Nat) (h1 : 1 ≤ k) (h3 : k ≤ 3) (l : List Int) (n : Nat) (hn : l.length = n) (hnm : n ≤ 1152921504606846975) (xs : List ByteArray) (m : Nat) (hm : xs.length = m) (x : Int) (al ax : Option Addr) (cl cx : Nat) (w : World) (hL : Sl w w.heap.size al (l.map intV)) (hX : Sl w w.heap.size ax (xs.map Value.string)) :
  Calls Try.prog 16 #[.int .i64 (k : Int), .slice al n cl, .slice ax m cx, .int .i64 x] w (Gives (.tuple #[.string (thrS (grp k) l xs x), .int .i64 (thrE (grp k) l xs x : Int)]) w) := by
 unfold Gives
 have OK := Lib.hid (grp_ok k h1 h3)
 have HOD := Lib.hid (grp_odd k h1 h3)
 have HL := Lib.hid hL
 have HRD := Lib.hid (fun W h g => readSc_some k h1 h3 l n hn hnm xs m hm 6 (by decide) al ax cl cx W h g)
 have HX := Lib.hid hX
 obtain ⟨z, hz⟩ : ∃ z, readE (isSc (grp k).q.m (grp k).size) 6 l xs = z := ⟨_, rfl⟩
 obtain ⟨er, her⟩ : ∃ z, thrE (grp k) l xs x = z := ⟨_, rfl⟩
 obtain ⟨sr, hsr⟩ : ∃ z, thrS (grp k) l xs x = z := ⟨_, rfl⟩
 have hR0 := readE_zero (f := isSc (grp k).q.m (grp k).size) (bad := 6) (by decide) (l := l) (xs := xs)
 rw [hz] at hR0 HRD
 rw [her, hsr]
 unfold thrS at hsr
 rw [her] at hsr
 unfold thrE at her
 rw [hz] at her
 unfold ReadQ at HRD
 clear hz hL hX h1 h3
 by_cases hz0 : z = 0
 case neg =>
  have hd : ((z : Int) != 0) = true := by simp; omega
  obtain rfl : er = z := by rw [← her, if_pos hz0]
  obtain rfl : sr = ⟨#[]⟩ := by rw [← hsr, if_neg hz0]
  clear hz0 her hsr hR0 hn hm hnm
  go_enter Try.func16, Try.ntmps16
  go_wp2_with fail
  refine (HRD.out w HL.out HX.out).mono ?_
  rintro e w1 ⟨hb9, p, v, rfl, hx9⟩
  have HB := Lib.hid hb9
  have HZS := Lib.hid hb9.size
  clear hb9
  go_wp2_with fail
  go_ret2
  exact ⟨rfl, HB.out⟩
 subst hz0
 have hd : ((((0 : Nat) : Int)) != 0) = false := by simp
 rw [if_neg (by decide)] at her
 by_cases hx : outPl x = true
 case pos =>
  obtain rfl : er = 4 := by rw [← her, if_pos hx]
  obtain rfl : sr = ⟨#[]⟩ := by rw [← hsr, if_neg (by decide)]
  have hdx : (x < 0) ∨ (255 < x ∧ ¬ x < 0) := by rcases outP_cases x with h | h | ⟨k9, rfl, _, h⟩; exact Or.inl h.1; exact Or.inr ⟨h.1, h.2.1⟩; rw [h] at hx; cases hx
  clear her hsr hR0 hn hm hnm hx
  rcases hdx with h1 | ⟨h2, h1⟩
  ·have hd1 : decide (x < 0) = true := decide_eq_true h1
   clear h1
   go_enter Try.func16, Try.ntmps16
   go_wp2_with fail
   refine (HRD.out w HL.out HX.out).mono ?_
   rintro e w1 ⟨hb9, p, v, rfl, hx9⟩
   have HB := Lib.hid hb9
   have HZS := Lib.hid hb9.size
   clear hb9
   go_wp2_with fail
   go_ret2
   exact ⟨rfl, HB.out⟩
  ·have hd1 : decide (x < 0) = false := decide_eq_false h1
   have hd2 : decide (x > 255) = true := decide_eq_true h2
   clear h1 h2
   go_enter Try.func16, Try.ntmps16
   go_wp2_with fail
   refine (HRD.out w HL.out HX.out).mono ?_
   rintro e w1 ⟨hb9, p, v, rfl, hx9⟩
   have HB := Lib.hid hb9
   have HZS := Lib.hid hb9.size
   clear hb9
   go_wp2_with fail
   go_ret2
   exact ⟨rfl, HB.out⟩
 have hxo := outP_false (Bool.eq_false_iff.2 hx)
 obtain rfl : er = 0 := by rw [← her, if_neg hx]
 rw [if_pos rfl] at hsr
 obtain ⟨hpl, hlm, hall⟩ := hR0 rfl
 obtain ⟨h16, h0, hok, hnd⟩ := pl_zero hpl
 have hth := th_eq (grp k).q.m (by have := OK.out.odd; omega) HOD.out l hok (valN xs) x hxo l.length (Nat.le_refl _)
 rw [← hth] at hsr
 obtain rfl : m = n := by omega
 have HW := Lib.hid (fun gb a c W h g => weights_any (grp k) OK.out gb l m hn (by omega) hok x hxo a c W h g)
 unfold WtR at HW
 rw [hn] at HW hsr
 have HVN := Lib.hid (fun i (hi : i < xs.length) => valN_here hi)
 have HM := Lib.hid hm
 have HSR := Lib.hid hsr
 have hd1 : decide (x < 0) = false := decide_eq_false (by omega)
 have hd2 : decide (x > 255) = false := decide_eq_false (by omega)
 have hm16 : m ≤ 16 := by omega
 clear her hsr hn hm hnm hx hxo hpl hlm hall h16 h0 hok hnd hth hR0
 go_enter Try.func16, Try.ntmps16
 go_wp2_with fail
 refine (HRD.out w HL.out HX.out).mono ?_
 rintro e w1 ⟨hb9, p, v, rfl, hx9⟩
 have HB := Lib.hid hb9
 have HZS := Lib.hid hb9.size
 have HRK := Lib.hid hx9
 clear hx9 hb9
 obtain ⟨gb, a, c, rfl, rfl, hg9, hs9, _⟩ := HRK.out (by simp)
 rw [HM.out]
 have HG := Lib.hid hg9
 have HS := Lib.hid hs9
 clear hg9 hs9 HRK
 have BS := Lib.hid (Below.refl w1.heap.size w1)
 have HGL := Lib.hid HG.out.lt
 replace HZS := sz HZS HGL.out
 obtain ⟨w2, hq2, hb9, hz9, Hsm⟩ := new1 w1 98 ([.int .u64 0, .int .u64 0, .int .u64 0, .int .u64 0])
 replace HG := Lib.hid (HG.out.up hb9)
 replace BS := hbu BS hb9
 replace HB := hbu HB hb9
 replace HZS := sz HZS hz9.out
 clear hb9 hz9
 go_wp2_with fail
 clear hq2
 refine (HW.out gb al cl w2 HG.out (HL.out.up HB.out)).mono ?_
 rintro e w3 ⟨hb9, aw, cw, rfl, hx9, hf9⟩
 replace Hsm := Lib.hid (Hsm.out.up hb9)
 replace HG := Lib.hid (HG.out.up hb9)
 replace BS := hbu BS hb9
 replace HB := hbu HB hb9
 replace HZS := sz HZS hb9.size
 have HWS := Lib.hid hx9
 clear hx9
 have HWF := Lib.hid hf9
 clear hf9 hb9
 have HSX := Lib.hid (HS.out.up BS.out)
 have HSL := Lib.hid (fun y (hy : a = some y) (hne : xs.flatMap (limC (grp k).q.m) ≠ []) => HS.out.lt hne y hy)
 clear BS HS
 have HKS := Lib.hid (Kept.refl (fun q9 => q9 = w1.heap.size) w3)
 have HB0 := HB
 have HG0 := HG
 have HZK := HZS
 go_wp2_with fail
 go_loopw [40] (fun i wr => ∃ j : Nat, j ≤ m ∧ i = .int .i64 j ∧ Hid (Kept (fun q9 => q9 = w1.heap.size) w3 wr) ∧ Hid (Bx wr w1.heap.size 98 (lim4 (grp k).q.m (thU (grp k).q.m l (valN xs) x j)))) (fun i _ => m - (intOf i).toNat)
 case atStart => exact ⟨0, Nat.zero_le _, rfl, HKS, Lib.hid (show Bx w3 w1.heap.size 98 (lim4 (grp k).q.m 0) by unfold lim4; rw [mont_zero8]; simp only [dig_zero8]; exact Hsm.out)⟩
 case round =>
  clear Hsm HB HG HZS HKS
  obtain ⟨j, hj, rfl, HK, Hsm⟩ := hrel
  have HSZ := Lib.hid (show w.heap.size ≤ w1.heap.size ∧ w1.heap.size < w3.heap.size ∧ w3.heap.size ≤ wr.heap.size ∧ gb < w1.heap.size ∧ w1.heap.size < w2.heap.size from ⟨by have := HZK.out; omega, by have := HZK.out; omega, HK.out.size, HGL.out, by have := HZK.out; omega⟩)
  have HB := Lib.hid (Below.keptP HB0.out HK.out (by have := HSZ.out; omega) (fun q9 h9 => (show w.heap.size ≤ _ by subst h9; have := HSZ.out; omega)))
  have HGP := Lib.hid (HG0.out.keptP HK.out (show ¬ (gb = w1.heap.size) by have := HSZ.out; omega))
  have HW1 := Lib.hid (HWS.out.kept HK.out (fun y hy hq => by have := HWF.out y hy; have := HSZ.out; have hq : y.block = w1.heap.size := hq; omega))
  by_cases hjm : j < m
  ·have hjx : j < xs.length := by rw [HM.out]; exact hjm
   have HX1 := Lib.hid (HSX.out.kept HK.out (fun y hy hq => by have := HSL.out y hy (flat_ne (limC_len _) (by omega) (by rw [← List.length_pos_iff]; omega)); have hq : y.block = w1.heap.size := hq; omega))
   have HW2 := Lib.hid (show Sl wr wr.heap.size aw ((List.range m).flatMap fun i => lim4 (grp k).q.m (wtN (grp k).q.m l i x)) from HW1.out)
   obtain ⟨bw, ow, rfl, hbw⟩ := HW2.out.adr (flat_ne (fun i => lim4_len _ _) (by omega) (by rw [← List.length_pos_iff, List.length_range]; omega))
   obtain ⟨bv, ov, rfl, hbv⟩ := HX1.out.adr (flat_ne (limC_len _) (by omega) (by rw [← List.length_pos_iff]; omega))
   have hcw := (HW2.out.elemS (fun i => lim4_len _ _) (by omega) j (by simpa using hjm)).2
   rw [List.getElem_range] at hcw
   have hcv := (HX1.out.elemS (limC_len _) (by omega) j hjx).2
   have hcw_0 := hcw 0 _ rfl
   rw [Nat.add_zero] at hcw_0
   have hcw_1 := hcw 1 _ rfl
   have hcw_2 := hcw 2 _ rfl
   have hcw_3 := hcw 3 _ rfl
   clear hcw
   have hcv_0 := hcv 0 _ rfl
   rw [Nat.add_zero] at hcv_0
   have hcv_1 := hcv 1 _ rfl
   have hcv_2 := hcv 2 _ rfl
   have hcv_3 := hcv 3 _ rfl
   clear hcv
   have HVJ := Lib.hid (HVN.out j hjx)
   generalize xs[j] = v at *
   have HTS := Lib.hid (show thU (grp k).q.m l (valN xs) x (j + 1) = thU (grp k).q.m l (valN xs) x j + wtN (grp k).q.m l j x * numOf v by rw [← HVJ.out]; rfl)
   generalize thU (grp k).q.m l (valN xs) x j = th at *
   generalize wtN (grp k).q.m l j x = wt at *
   have HBV := Lib.hid hbv
   replace Hsm := Lib.hid (show Bx wr w1.heap.size 98 [.int .u64 (dig (mont (grp k).q.m th) 0 : Int), .int .u64 (dig (mont (grp k).q.m th) 1 : Int), .int .u64 (dig (mont (grp k).q.m th) 2 : Int), .int .u64 (dig (mont (grp k).q.m th) 3 : Int)] from Hsm.out)
   have HZS := HSZ
   replace HZS := sz HZS HBV.out
   have sm_ := Hsm.out.c4
   have HCV := Lib.hid (fun (W : World) (h : Below wr.heap.size wr W) => And.intro ((h.cell (p := ⟨bv, ov + j * 4, none⟩) hbv).trans hcv_0) (And.intro ((h.cell (p := ⟨bv, ov + j * 4 + 1, none⟩) hbv).trans hcv_1) (And.intro ((h.cell (p := ⟨bv, ov + j * 4 + 2, none⟩) hbv).trans hcv_2) ((h.cell (p := ⟨bv, ov + j * 4 + 3, none⟩) hbv).trans hcv_3))))
   clear hcv_0 hcv_1 hcv_2 hcv_3 hbv
   have BV := Lib.hid (Below.refl wr.heap.size wr)
   have o4_sm_ := sm_; clear sm_
   obtain ⟨w4, hq4, hb9, hz9, Hwb⟩ := new1 wr 98 [.int .u64 (dig (mont (grp k).q.m wt) 0 : Int), .int .u64 (dig (mont (grp k).q.m wt) 1 : Int), .int .u64 (dig (mont (grp k).q.m wt) 2 : Int), .int .u64 (dig (mont (grp k).q.m wt) 3 : Int)]
   replace Hsm := Lib.hid (Hsm.out.up hb9)
   replace HGP := Lib.hid (HGP.out.up hb9)
   replace BV := hbu BV hb9
   replace HK := Lib.hid (Kept.up HK.out hb9)
   replace HB := hbu HB hb9
   replace HZS := sz HZS hz9.out
   clear hb9 hz9
   have sm_ := Hsm.out.c4
   have wb_ := Hwb.out.c4
   go_wp2_with fail
   clear hq4 o4_sm_ hcw_0 hcw_1 hcw_2 hcw_3 hbw
   have hcv := HCV.out _ BV.out
   have hbv := Nat.lt_of_lt_of_le HBV.out BV.out.size
   have HT := Lib.hid (show Below w4.heap.size w4 w4.drew from (Below.refl _ _).drew)
   have hl_sm := Hsm.out.lt
   have hl_wb := Hwb.out.lt
   refine wp_region_treek (fun wq9 => ∃ E : Over w4, wq9 = E.w) 10 ((.qs [0] (.e 1 [] (.qs [2] (.e 3 [] (.qs [4, 5, 6] (.e 7 [] (.a 8 (.a 9 (.a 10 .done)))))))))) (by kernel_rfl) (by kernel_rfl) (fun _ _ d _ _ h => by cases d <;> exact h) ⟨⟨_, HT.out⟩, rfl⟩ ?_
   have hov_sm := fun (E : Over w4) o => E.cell (b := w1.heap.size) o hl_sm
   have hov_wb := fun (E : Over w4) o => E.cell (b := wr.heap.size) o hl_wb
   have hov_bv := fun (E : Over w4) o => E.cell (b := bv) o hbv
   simp only [TreeK.qs]
   repeat (first | (refine treek_q rfl rfl ?_; go_big_quiet_step (fail); refine wpQuiet_nil ?_) | (refine treek_e rfl rfl ?_; go_big_quiet_step (fail); refine wpQuiet_nil ?_))
   refine treek_a rfl (fun K hK => ?_)
   go_simp
   refine (gMul_any (grp k) OK.out gb wt (numOf v) _ (HGP.out.up HT.out)).mono ?_
   rintro e w5 ⟨rfl, hb9⟩
   replace HT := Lib.hid (below_up HT.out hb9)
   replace HZS := sz HZS (show w4.heap.size ≤ w5.heap.size from HT.out.size)
   clear hb9
   refine hK _ _ ⟨fun _ => ⟨⟨w5, HT.out⟩, rfl⟩, ?_⟩
   clear hK K
   repeat (first | (refine treek_q rfl rfl ?_; go_big_quiet_step (fail); refine wpQuiet_nil ?_) | (refine treek_e rfl rfl ?_; go_big_quiet_step (fail); refine wpQuiet_nil ?_))
   refine treek_a rfl (fun K hK => ?_)
   go_simp
   refine (gAdd_any (grp k) OK.out gb th (wt * numOf v) _ (HGP.out.up HT.out)).mono ?_
   rintro e w6 ⟨rfl, hb9⟩
   replace HT := Lib.hid (below_up HT.out hb9)
   replace HZS := sz HZS (show w4.heap.size ≤ w6.heap.size from HT.out.size)
   clear hb9
   unfold scV limbV
   refine hK _ _ ⟨fun _ => ⟨⟨w6, HT.out⟩, rfl⟩, ?_⟩
   clear hK K
   repeat (first | (refine treek_q rfl rfl ?_; go_big_quiet_step (fail); refine wpQuiet_nil ?_) | (refine treek_e rfl rfl ?_; go_big_quiet_step (fail); refine wpQuiet_nil ?_))
   clear hov_sm hl_sm hov_wb hl_wb hov_bv
   refine treek_a rfl (fun K hK => ?_)
   clear sm_
   replace Hsm := Lib.hid (Hsm.out.up HT.out)
   clear wb_
   replace Hwb := Lib.hid (Hwb.out.up HT.out)
   replace HGP := Lib.hid (HGP.out.up HT.out)
   replace HK := Lib.hid (Kept.up HK.out HT.out)
   replace HB := hbu HB HT.out
   replace HZS := sz HZS HT.out.size
   clear HT
   have sm_ := Hsm.out.c4
   have wb_ := Hwb.out.c4
   have f7_sm := Hsm.out.frozen
   have o7_sm_ := sm_; clear sm_
   have o7_wb_ := wb_; clear wb_
   obtain ⟨w7, hq7, hg9, hz9, hx9⟩ := put4 Hsm 0 (.int .u64 (dig (mont (grp k).q.m (th + wt * numOf v)) 0 : Int)) 1 (.int .u64 (dig (mont (grp k).q.m (th + wt * numOf v)) 1 : Int)) 2 (.int .u64 (dig (mont (grp k).q.m (th + wt * numOf v)) 2 : Int)) 3 (.int .u64 (dig (mont (grp k).q.m (th + wt * numOf v)) 3 : Int)) [.int .u64 (dig (mont (grp k).q.m (th + wt * numOf v)) 0 : Int), .int .u64 (dig (mont (grp k).q.m (th + wt * numOf v)) 1 : Int), .int .u64 (dig (mont (grp k).q.m (th + wt * numOf v)) 2 : Int), .int .u64 (dig (mont (grp k).q.m (th + wt * numOf v)) 3 : Int)] rfl
   replace Hwb := Lib.hid (Hwb.out.grown hg9.out (sne (by have g0 := HZS.out; omega)))
   replace HGP := Lib.hid (HGP.out.grown hg9.out (sne (by have g0 := HZS.out; omega)))
   replace HK := Lib.hid (Kept.grown HK.out hg9.out (fun q9 e9 => by obtain rfl := Option.some.inj e9; exact Or.inr (rfl)))
   replace HB := hbg HB hg9 (by have g0 := HZS.out; omega)
   replace HZS := sz HZS hz9.out
   replace Hsm := hx9
   clear hx9 hg9 hz9
   have sm_ := Hsm.out.c4
   have wb_ := Hwb.out.c4
   go_simp
   try rw [hq7]
   refine hK _ _ ⟨fun h9 => absurd rfl h9, ?_⟩
   clear hK K hq7 o7_wb_ o7_sm_ f7_sm
   repeat (first | (refine treek_q rfl rfl ?_; go_big_quiet_step (fail); refine wpQuiet_nil ?_) | (refine treek_e rfl rfl ?_; go_big_quiet_step (fail); refine wpQuiet_nil ?_))
   refine treek_end ?_
   go_wp2_with fail
   go_roundw
   case rel => exact ⟨j + 1, by omega, by go_num, HK, by rw [HTS.out]; exact Hsm⟩
   case measure => simp [intOf]; omega
  ·have hjm' : j = m := by omega
   subst hjm'
   have hsm := HSR.out
   generalize thU (grp k).q.m l (valN xs) x j = th at *
   replace Hsm := Lib.hid (show Bx wr w1.heap.size 98 [.int .u64 (dig (mont (grp k).q.m th) 0 : Int), .int .u64 (dig (mont (grp k).q.m th) 1 : Int), .int .u64 (dig (mont (grp k).q.m th) 2 : Int), .int .u64 (dig (mont (grp k).q.m th) 3 : Int)] from Hsm.out)
   have HZS := HSZ
   have sm_ := Hsm.out.c4
   go_wp2_with fail
   refine (gPut_any (grp k) OK.out gb th wr HGP.out).mono ?_
   rintro e w4 ⟨rfl, hb9⟩
   clear sm_
   replace Hsm := Lib.hid (Hsm.out.up hb9)
   replace HGP := Lib.hid (HGP.out.up hb9)
   replace HB := hbu HB hb9
   replace HZS := sz HZS hb9.size
   clear hb9
   have sm_ := Hsm.out.c4
   rw [hsm]
   go_wp2_with fail
   go_ret2
   exact ⟨rfl, HB.out⟩
end Go.Proofs.Ytjmeakfjfpnciaa
namespace Go.Proofs.Ytjmeakfjfpnciaa
open Go.RowKit
def ciphV (a b : ByteArray) : Value := .agg #[.string a, .string b]
theorem gRaise_any (G : GP) (ok : G.Ok) (gb x : Nat) (w : World) (hG : GroupAt w gb G) :
  Calls Try.prog 83 #[.pointer (some ⟨gb, 0, none⟩), scV G x] w (Gives (elV G (2 ^ (x % G.q.m))) w) := by
 have OK := Lib.hid ok
 clear ok
 unfold elV scV limbV Gives
 go_enter Try.func83, Try.ntmps83
 go_wp2_with fail
 obtain ⟨W0, hW0⟩ : ∃ W9 : World, ((w.alloc (Obj.cells #[.int .u64 (dig (mont G.q.m x) 0 : Int), .int .u64 (dig (mont G.q.m x) 1 : Int), .int .u64 (dig (mont G.q.m x) 2 : Int), .int .u64 (dig (mont G.q.m x) 3 : Int)] 98)).alloc (Obj.cells #[.int .u64 0, .int .u64 0, .int .u64 0, .int .u64 0] 117)) = W9 := ⟨_, rfl⟩
 rw [hW0]
 have hA : Bx W0 (w.heap.size) 98 [.int .u64 (dig (mont G.q.m x) 0 : Int), .int .u64 (dig (mont G.q.m x) 1 : Int), .int .u64 (dig (mont G.q.m x) 2 : Int), .int .u64 (dig (mont G.q.m x) 3 : Int)] := by
  rw [← hW0]
  have h := ((Bx.new w 98 [.int .u64 (dig (mont G.q.m x) 0 : Int), .int .u64 (dig (mont G.q.m x) 1 : Int), .int .u64 (dig (mont G.q.m x) 2 : Int), .int .u64 (dig (mont G.q.m x) 3 : Int)] _ rfl).alloc (Obj.cells #[.int .u64 0, .int .u64 0, .int .u64 0, .int .u64 0] 117))
  exact h
 have hC : Bx W0 (w.heap.size + 1) 117 [.int .u64 0, .int .u64 0, .int .u64 0, .int .u64 0] := by
  rw [← hW0]
  have h := (Bx.new (w.alloc (Obj.cells #[.int .u64 (dig (mont G.q.m x) 0 : Int), .int .u64 (dig (mont G.q.m x) 1 : Int), .int .u64 (dig (mont G.q.m x) 2 : Int), .int .u64 (dig (mont G.q.m x) 3 : Int)] 98)) 117 [.int .u64 0, .int .u64 0, .int .u64 0, .int .u64 0] _ rfl)
  rw [World.size_alloc] at h
  exact h
 have hBW : Below w.heap.size w W0 := by rw [← hW0]; exact (((Below.refl w.heap.size w).alloc (Nat.le_refl _) _).alloc (by simp) _)
 clear hW0
 have hG0 := hG.up hBW
 have hgl := hG0.lt
 have ha_0 := hA.cell (i := 0) rfl
 have ha_1 := hA.cell (i := 1) rfl
 have ha_2 := hA.cell (i := 2) rfl
 have ha_3 := hA.cell (i := 3) rfl
 have hla := hA.lt
 have HC := Lib.hid hC
 have HBW := Lib.hid hBW
 clear hA hC hBW hG
 refine wp_region_otail 5 (by kernel_rfl) (by kernel_rfl) ?_
 simp only [List.take_succ_cons, List.take_zero, List.drop_succ_cons, List.drop_zero]
 have hova := fun (E : Over W0) o => E.cell (b := w.heap.size) o hla
 repeat (go_big_quiet_step (first | (go_at_call 146; exact calls_over (gBase_any G OK.out gb _ (hG0.up (Over.h _)))) | (go_at_call 69; exact calls_over (gPower_any G OK.out gb _ _ _ (hG0.up (Over.h _))))))
 all_goals (try unfold elV limbV)
 repeat (go_big_quiet_step (first | (go_at_call 146; exact calls_over (gBase_any G OK.out gb _ (hG0.up (Over.h _)))) | (go_at_call 69; exact calls_over (gPower_any G OK.out gb _ _ _ (hG0.up (Over.h _))))))
 all_goals (try unfold elV limbV)
 repeat (go_big_quiet_step (first | (go_at_call 146; exact calls_over (gBase_any G OK.out gb _ (hG0.up (Over.h _)))) | (go_at_call 69; exact calls_over (gPower_any G OK.out gb _ _ _ (hG0.up (Over.h _))))))
 refine wpQuiet_nil ?_
 rintro _ ⟨E, rfl⟩
 have HZ := Lib.hid (HC.out.below E.h HC.out.lt)
 have HBB := Lib.hid (below_up HBW.out E.h)
 clear hova
 generalize E.w = w3 at *
 have HS5 : Hid (Bx ((((w3.setCell ⟨w.heap.size + 1, 0, none⟩ (.int .u64 (dig (mont G.p.m (2 ^ (x % G.q.m))) 0 : Int))).setCell ⟨w.heap.size + 1, 1, none⟩ (.int .u64 (dig (mont G.p.m (2 ^ (x % G.q.m))) 1 : Int))).setCell ⟨w.heap.size + 1, 2, none⟩ (.int .u64 (dig (mont G.p.m (2 ^ (x % G.q.m))) 2 : Int))).setCell ⟨w.heap.size + 1, 3, none⟩ (.int .u64 (dig (mont G.p.m (2 ^ (x % G.q.m))) 3 : Int))) (w.heap.size + 1) 117 [.int .u64 (dig (mont G.p.m (2 ^ (x % G.q.m))) 0 : Int), .int .u64 (dig (mont G.p.m (2 ^ (x % G.q.m))) 1 : Int), .int .u64 (dig (mont G.p.m (2 ^ (x % G.q.m))) 2 : Int), .int .u64 (dig (mont G.p.m (2 ^ (x % G.q.m))) 3 : Int)]) := ((((HZ.out.set 0 (.int .u64 (dig (mont G.p.m (2 ^ (x % G.q.m))) 0 : Int))).set 1 (.int .u64 (dig (mont G.p.m (2 ^ (x % G.q.m))) 1 : Int))).set 2 (.int .u64 (dig (mont G.p.m (2 ^ (x % G.q.m))) 2 : Int))).set 3 (.int .u64 (dig (mont G.p.m (2 ^ (x % G.q.m))) 3 : Int)))
 have HB5 : Hid (Below w.heap.size w ((((w3.setCell ⟨w.heap.size + 1, 0, none⟩ (.int .u64 (dig (mont G.p.m (2 ^ (x % G.q.m))) 0 : Int))).setCell ⟨w.heap.size + 1, 1, none⟩ (.int .u64 (dig (mont G.p.m (2 ^ (x % G.q.m))) 1 : Int))).setCell ⟨w.heap.size + 1, 2, none⟩ (.int .u64 (dig (mont G.p.m (2 ^ (x % G.q.m))) 2 : Int))).setCell ⟨w.heap.size + 1, 3, none⟩ (.int .u64 (dig (mont G.p.m (2 ^ (x % G.q.m))) 3 : Int)))) := ((((HBB.out.setCell (show w.heap.size ≤ w.heap.size + 1 by omega) _).setCell (show w.heap.size ≤ w.heap.size + 1 by omega) _).setCell (show w.heap.size ≤ w.heap.size + 1 by omega) _).setCell (show w.heap.size ≤ w.heap.size + 1 by omega) _)
 have hz_0 := HZ.out.cell (i := 0) rfl
 have hz_1 := HZ.out.cell (i := 1) rfl
 have hz_2 := HZ.out.cell (i := 2) rfl
 have hz_3 := HZ.out.cell (i := 3) rfl
 have hzf_0 := HZ.out.frozen 0
 have hzf_1 := HZ.out.frozen 1
 have hzf_2 := HZ.out.frozen 2
 have hzf_3 := HZ.out.frozen 3
 go_wp2_with fail
 generalize ((((w3.setCell ⟨w.heap.size + 1, 0, none⟩ (.int .u64 (dig (mont G.p.m (2 ^ (x % G.q.m))) 0 : Int))).setCell ⟨w.heap.size + 1, 1, none⟩ (.int .u64 (dig (mont G.p.m (2 ^ (x % G.q.m))) 1 : Int))).setCell ⟨w.heap.size + 1, 2, none⟩ (.int .u64 (dig (mont G.p.m (2 ^ (x % G.q.m))) 2 : Int))).setCell ⟨w.heap.size + 1, 3, none⟩ (.int .u64 (dig (mont G.p.m (2 ^ (x % G.q.m))) 3 : Int))) = w5 at *
 clear hz_0 hz_1 hz_2 hz_3
 have hg_0 := HS5.out.cell (i := 0) rfl
 have hg_1 := HS5.out.cell (i := 1) rfl
 have hg_2 := HS5.out.cell (i := 2) rfl
 have hg_3 := HS5.out.cell (i := 3) rfl
 simp [bodyPost, results, Try.results83, go_sem, hg_0, hg_1, hg_2, hg_3]
 exact HB5.out
end Go.Proofs.Ytjmeakfjfpnciaa
namespace Go.Proofs.Ytjmeakfjfpnciaa
open Go.RowKit
theorem four6_any (n : Nat) (hn : n < 9223372036854775808) (w : World) : Calls Try.prog 188 #[.int .i64 (n : Int)] w (Gives (.string (fourS n)) w) := by
 have hn0 : (0 : Int) ≤ (n : Int) := by omega
 unfold Gives
 go_enter Try.func188, Try.ntmps188
 obtain ⟨w1, hq1, hb9, hz9, Hr⟩ := new1 w 5 [.int .u8 ((n : Int) / 16777216 % 256), .int .u8 ((n : Int) / 65536 % 256), .int .u8 ((n : Int) / 256 % 256), .int .u8 ((n : Int) % 256)]
 have HB := Lib.hid hb9
 have HZS := hz9
 clear hb9 hz9
 have r_ := Hr.out.c4
 have hcv := run_convert_bytes_arg (P := Try.prog) w1 155 5 Try.underlying155 Try.underlying5 w.heap.size 0 4 4 [(n : Int) / 16777216 % 256, (n : Int) / 65536 % 256, (n : Int) / 256 % 256, (n : Int) % 256] rfl (fun i hi => by
  rcases (show i = 0 ∨ i = 1 ∨ i = 2 ∨ i = 3 by omega) with rfl | rfl | rfl | rfl
  ·exact Hr.out.cell (i := 0) rfl
  ·exact Hr.out.cell (i := 1) rfl
  ·exact Hr.out.cell (i := 2) rfl
  ·exact Hr.out.cell (i := 3) rfl) 9 Try.underlying9
 go_wp2_with fail
 clear hq1
 go_ret
 exact ⟨rfl, HB.out⟩
def rightB (need of : Int) : Bool := decide (1 ≤ of ∧ of ≤ 8 ∧ 1 ≤ need ∧ need ≤ of)
theorem right6_any (need of : Int) (w : World) : Calls Try.prog 81 #[.int .i64 need, .int .i64 of] w (Gives (.bool (rightB need of)) w) := by
 unfold Gives rightB
 by_cases h1 : 1 ≤ of <;> by_cases h2 : of ≤ 8 <;> by_cases h3 : 1 ≤ need <;> by_cases h4 : need ≤ of <;>
  (go_enter Try.func81, Try.ntmps81
   go_wp2
   go_ret
   exact ⟨ret_bool (by simp [h1, h2, h3, h4]), Below.refl _ _⟩)
abbrev chanceB : ByteArray := ⟨#[99, 104, 97, 110, 99, 101]⟩
abbrev coefB : ByteArray := ⟨#[99, 111, 101, 102, 102, 105, 99, 105, 101, 110, 116]⟩
def chcN (label seed : ByteArray) (i : Nat) : Nat := numOf (strmS (tagS label [seed, fourS i]) chanceB)
theorem chance_any (G : GP) (ok : G.Ok) (gb : Nat) (seed label : ByteArray) (i : Nat) (hi : i < 9223372036854775808) (hs : seed.size < 140737488355328) (hl : label.size < 140737488355328) (w : World) (hG : GroupAt w gb G) :
  Calls Try.prog 145 #[.pointer (some ⟨gb, 0, none⟩), .string seed, .string label, .int .i64 (i : Int)] w (Gives (scV G (chcN label seed i)) w) := by
 have HT := Lib.hid (fun a c w h => Tag_any label [seed, fourS i] 2 rfl (join_small label _ 0 (by simp) (by
  intro x hx
  simp only [List.mem_cons, List.not_mem_nil, or_false] at hx
  rcases hx with rfl | rfl
  ·exact hs
  ·rw [fourS_size]; decide) hl) a c w h)
 have HS := Lib.hid (fun w => stream_any (tagS label [seed, fourS i]) chanceB (by rw [tagS_size]; decide) (by decide) w)
 have HF := Lib.hid (fun w => four6_any i hi w)
 have HZ := Lib.hid (strmS_size (tagS label [seed, fourS i]) chanceB)
 unfold chcN
 unfold Gives at HS HF
 generalize strmS (tagS label [seed, fourS i]) chanceB = st at *
 generalize tagS label [seed, fourS i] = t at *
 generalize fourS i = f4 at *
 have HR := Lib.hid (fun w h => gReduce_any G ok gb st (by rw [HZ.out]; unfold maxLen; decide) w h)
 have HG := Lib.hid hG
 have HGL := Lib.hid hG.lt
 clear hG ok hi hs hl
 unfold scV limbV at HR ⊢
 unfold Gives
 go_enter Try.func145, Try.ntmps145
 have HZS := HGL
 go_upto_region 1 with fail
 obtain ⟨w1, hq1, hb9, hz9, Hc⟩ := new1 w 98 ([.int .u64 0, .int .u64 0, .int .u64 0, .int .u64 0])
 rw [hq1]
 clear hq1
 replace HG := Lib.hid (HG.out.up hb9)
 have HB := Lib.hid hb9
 replace HZS := sz HZS hz9.out
 clear hb9 hz9
 go_wp2_with fail
 refine (HF.out w1).mono ?_
 rintro e w2 ⟨rfl, hb9⟩
 replace Hc := Lib.hid (Hc.out.up hb9)
 replace HG := Lib.hid (HG.out.up hb9)
 replace HB := hbu HB hb9
 replace HZS := sz HZS hb9.size
 clear hb9
 obtain ⟨w3, hq3, hb9, hz9, Hr⟩ := new1 w2 9 [.string seed, .string f4]
 replace Hc := Lib.hid (Hc.out.up hb9)
 replace HG := Lib.hid (HG.out.up hb9)
 replace HB := hbu HB hb9
 replace HZS := sz HZS hz9.out
 clear hb9 hz9
 have r_ := Hr.out.c2
 go_wp2_with fail
 clear hq3
 refine (HT.out _ _ w3 (Sl.ofB Hr.out)).mono ?_
 rintro e w4 ⟨rfl, hb9⟩
 replace Hc := Lib.hid (Hc.out.up hb9)
 clear r_
 replace Hr := Lib.hid (Hr.out.up hb9)
 replace HG := Lib.hid (HG.out.up hb9)
 replace HB := hbu HB hb9
 replace HZS := sz HZS hb9.size
 clear hb9
 have r_ := Hr.out.c2
 go_wp2_with fail
 refine (HS.out w4).mono ?_
 rintro e w5 ⟨rfl, hb9⟩
 replace Hc := Lib.hid (Hc.out.up hb9)
 clear r_
 replace Hr := Lib.hid (Hr.out.up hb9)
 replace HG := Lib.hid (HG.out.up hb9)
 replace HB := hbu HB hb9
 replace HZS := sz HZS hb9.size
 clear hb9
 have r_ := Hr.out.c2
 go_wp2_with fail
 refine (HR.out w5 HG.out).mono ?_
 rintro e w6 ⟨rfl, hb9⟩
 replace Hc := Lib.hid (Hc.out.up hb9)
 clear r_
 replace Hr := Lib.hid (Hr.out.up hb9)
 replace HG := Lib.hid (HG.out.up hb9)
 replace HB := hbu HB hb9
 replace HZS := sz HZS hb9.size
 clear hb9
 have r_ := Hr.out.c2
 have c_ := Hc.out.c4
 have f7_c := Hc.out.frozen
 have o7_c_ := c_; clear c_
 have o7_r_ := r_; clear r_
 obtain ⟨w7, hq7, hg9, hz9, hx9⟩ := put4 Hc 0 (.int .u64 (dig (mont G.q.m (numOf st)) 0 : Int)) 1 (.int .u64 (dig (mont G.q.m (numOf st)) 1 : Int)) 2 (.int .u64 (dig (mont G.q.m (numOf st)) 2 : Int)) 3 (.int .u64 (dig (mont G.q.m (numOf st)) 3 : Int)) [.int .u64 (dig (mont G.q.m (numOf st)) 0 : Int), .int .u64 (dig (mont G.q.m (numOf st)) 1 : Int), .int .u64 (dig (mont G.q.m (numOf st)) 2 : Int), .int .u64 (dig (mont G.q.m (numOf st)) 3 : Int)] rfl
 replace Hr := Lib.hid (Hr.out.grown hg9.out (sne (by have g0 := HZS.out; omega)))
 replace HG := Lib.hid (HG.out.grown hg9.out (sne (by have g0 := HZS.out; omega)))
 replace HB := hbg HB hg9 (by have g0 := HZS.out; omega)
 replace HZS := sz HZS hz9.out
 replace Hc := hx9
 clear hx9 hg9 hz9
 have c_ := Hc.out.c4
 have r_ := Hr.out.c2
 go_wp2_with fail
 clear hq7 o7_r_ o7_c_ f7_c
 simp [bodyPost, results, Try.results145, go_sem, c_]
 exact HB.out
def coefL (q : Nat) (f : Nat → Nat) (n : Nat) : List Value := (List.range n).flatMap fun k => lim4 q (f k)
theorem coefL_snoc (q : Nat) (f : Nat → Nat) (n : Nat) : coefL q f (n + 1) = coefL q f n ++ lim4 q (f n) := by
 unfold coefL
 rw [List.range_succ, List.flatMap_append]
 simp
def CoefR (q : Nat) (f : Nat → Nat) (n : Nat) (w : World) (e : Ending) (w' : World) : Prop :=
 Below w.heap.size w w' ∧ ∃ a c, e = .returned (.slice a n c) ∧ Sl w' w'.heap.size a (coefL q f n) ∧ ∀ y, a = some y → w.heap.size ≤ y.block
theorem deal_any (G : GP) (ok : G.Ok) (gb : Nat) (n : Nat) (hn : n ≤ 8) (seed : ByteArray) (hs : seed.size < 140737488355328) (w : World) (hG : GroupAt w gb G) :
  Calls Try.prog 82 #[.pointer (some ⟨gb, 0, none⟩), .int .i64 (n : Int), .string seed] w (CoefR G.q.m (chcN coefB seed) n w) := by
 unfold CoefR
 have HC := Lib.hid (fun i (hi : i < 9223372036854775808) w h => chance_any G ok gb seed coefB i hi hs (by decide) w h)
 unfold Gives at HC
 generalize chcN coefB seed = f at *
 have HG := Lib.hid hG
 have HGL := Lib.hid hG.lt
 clear hG ok hs
 go_enter Try.func82, Try.ntmps82
 go_wp2_with fail
 go_loopw [10, 7] (fun i v wr => ∃ (j : Nat) (g : Option Addr) (c9 : Nat), j ≤ n ∧ i = .int .i64 j ∧ v = .slice g j c9 ∧ Hid (Below w.heap.size w wr) ∧ Hid (RowO w.heap.size wr 98 4 (.slice g j c9) j (coefL G.q.m f j))) (fun i _ _ => n - (intOf i).toNat)
 case atStart => exact ⟨0, none, 0, Nat.zero_le _, rfl, rfl, Below.refl _ _, RowO.nil⟩
 case round =>
  obtain ⟨j, g, c9, hj, rfl, rfl, HB, Hr⟩ := hrel
  by_cases hjn : j < n
  ·have HSB := Lib.hid HB.out.size
   have HZS := HSB
   have HGP := Lib.hid (HG.out.up HB.out)
   replace HZS := sz HZS HGL.out
   have HSN := Lib.hid (coefL_snoc G.q.m f j)
   have HCJ := Lib.hid (HC.out j (by omega))
   generalize f j = fj at *
   unfold scV limbV at HCJ
   go_wp2_with fail
   refine (HCJ.out wr HGP.out).mono ?_
   rintro e w1 ⟨rfl, hb9⟩
   replace HGP := Lib.hid (HGP.out.up hb9)
   replace Hr := Lib.hid (Hr.out.up hb9)
   replace HB := hbu HB hb9
   replace HZS := sz HZS hb9.size
   clear hb9
   obtain ⟨i9, hi9, hz90, hz91, hz92⟩ := info_parts infoScalar
   go_wp2_with (at_builtin; refine wpList_pushR (w.heap.size) w1 (by have g0 := HZS.out; omega) rfl _ _ 91 rfl 98 i9 _ 4 32 Try.underlying91 hi9 hz90 hz91 hz92 rfl (by omega) ((.slice g j c9)) (j) ((coefL G.q.m f j)) rfl Hr.out _ _ _ rfl rfl rfl (by simp [Value.oneCell']) (by omega) (by unfold maxLen; omega) ?_)
   intro g2 c2 w2 hown9 hg9
   have hb9 := Below.grown HB.out hg9 (by have g0 := HZS.out; omega) (fun q hq => Nat.le_trans (show w.heap.size ≤ w.heap.size by have g0 := HZS.out; omega) (Hr.out.lt q hq).1)
   replace HGP := Lib.hid (HGP.out.grown hg9 (fun e9 => by have a1 := Hr.out.lt _ e9; have g0 := HZS.out; omega))
   replace HZS := sz HZS hg9.size
   clear Hr HB
   have Hr := Lib.hid hown9
   have HB := Lib.hid hb9
   clear hb9 hown9 hg9 hi9 hz90 hz91 hz92
   go_wp2_with fail
   go_roundw
   case rel => exact ⟨j + 1, _, _, by omega, by go_num, rfl, HB, Hr.out.eq HSN.out.symm rfl⟩
   case measure => simp [intOf]; omega
  ·have hjn' : j = n := by omega
   subst hjn'
   go_wp2_with fail
   go_ret
   exact ⟨HB.out, g, c9, rfl, Hr.out.sl, fun y hy => (Hr.out.lt y.block (by rw [hy]; rfl)).1⟩
def hrN (c : Nat → Nat) (x n : Nat) : Nat → Nat
 | 0 => 0
 | d + 1 => hrN c x n d * x + c (n - 1 - d)
theorem value_any (G : GP) (ok : G.Ok) (gb : Nat) (f : Nat → Nat) (n : Nat) (hn : n ≤ 16) (x : Int) (h1 : -9223372036854775808 ≤ x) (h2 : x ≤ 9223372036854775807) (a : Option Addr) (c : Nat) (w : World) (hG : GroupAt w gb G) (hS : Sl w w.heap.size a (coefL G.q.m f n)) :
  Calls Try.prog 84 #[.pointer (some ⟨gb, 0, none⟩), .slice a n c, .int .i64 x] w (Gives (scV G (hrN f (modI G.q.m x) n n)) w) := by
 unfold Gives
 have OK := Lib.hid ok
 have HN := Lib.hid (fun w h => gNumber_any G ok gb x h1 h2 w h)
 have HG := Lib.hid hG
 have HG0 := HG
 have HGL := Lib.hid hG.lt
 have HS := Lib.hid hS
 generalize modI G.q.m x = xm at *
 unfold scV limbV at HN ⊢
 clear hG ok hS h1 h2
 go_enter Try.func84, Try.ntmps84
 have HZS := HGL
 go_upto_region 1 with fail
 obtain ⟨w1, hq1, hb9, hz9, Hc0⟩ := new1 w 98 ([.int .u64 0, .int .u64 0, .int .u64 0, .int .u64 0])
 rw [hq1]
 clear hq1
 replace HG := Lib.hid (HG.out.up hb9)
 have HB := Lib.hid hb9
 replace HZS := sz HZS hz9.out
 clear hb9 hz9
 obtain ⟨w2, hq2, hb9, hz9, Hsm⟩ := new1 w1 98 ([.int .u64 0, .int .u64 0, .int .u64 0, .int .u64 0])
 replace Hc0 := Lib.hid (Hc0.out.up hb9)
 replace HG := Lib.hid (HG.out.up hb9)
 replace HB := hbu HB hb9
 replace HZS := sz HZS hz9.out
 clear hb9 hz9
 go_upto_region 2 with fail
 go_wp2_with fail
 clear hq2
 refine (HN.out w2 HG.out).mono ?_
 rintro e w3 ⟨rfl, hb9⟩
 replace Hc0 := Lib.hid (Hc0.out.up hb9)
 replace Hsm := Lib.hid (Hsm.out.up hb9)
 replace HG := Lib.hid (HG.out.up hb9)
 replace HB := hbu HB hb9
 replace HZS := sz HZS hb9.size
 clear hb9
 obtain ⟨w4, hq4, hb9, hz9, Hxb⟩ := new1 w3 98 [.int .u64 (dig (mont G.q.m xm) 0 : Int), .int .u64 (dig (mont G.q.m xm) 1 : Int), .int .u64 (dig (mont G.q.m xm) 2 : Int), .int .u64 (dig (mont G.q.m xm) 3 : Int)]
 replace Hc0 := Lib.hid (Hc0.out.up hb9)
 replace Hsm := Lib.hid (Hsm.out.up hb9)
 replace HG := Lib.hid (HG.out.up hb9)
 replace HB := hbu HB hb9
 replace HZS := sz HZS hz9.out
 clear hb9 hz9
 have xb_ := Hxb.out.c4
 have hw1 : wrap64 ((n : Int) - 1) = (n : Int) - 1 := by unfold wrap64; omega
 go_wp2_with fail
 clear hq4 hw1
 have HAD := Lib.hid (show w.heap.size < w1.heap.size ∧ w1.heap.size < w3.heap.size from ⟨by have := HZS.out; omega, by have := HZS.out; omega⟩)
 obtain ⟨xa, hxa⟩ : ∃ q, w3.heap.size = q := ⟨_, rfl⟩
 obtain ⟨sa, hsa⟩ : ∃ q, w1.heap.size = q := ⟨_, rfl⟩
 rw [hxa, hsa] at HAD
 rw [hxa] at Hxb xb_ ⊢
 rw [hsa] at Hsm ⊢
 clear hxa hsa xb_
 have HHD := Lib.hid (fun d => show hrN f xm n (d + 1) = hrN f xm n d * xm + f (n - 1 - d) from rfl)
 go_loopw [9] (fun v wr => ∃ d : Nat, d ≤ n ∧ v = .int .i64 ((n : Int) - 1 - (d : Int)) ∧ Hid (Below w.heap.size w wr) ∧ Hid (Bx wr w.heap.size 98 [.int .u64 0, .int .u64 0, .int .u64 0, .int .u64 0]) ∧ Hid (Bx wr sa 98 (lim4 G.q.m (hrN f xm n d))) ∧ Hid (Bx wr xa 98 (lim4 G.q.m xm))) (fun v _ => (intOf v + 1).toNat)
 case atStart => exact ⟨0, Nat.zero_le _, by simp, HB, Hc0, Lib.hid (show Bx w4 sa 98 (lim4 G.q.m 0) by unfold lim4; rw [mont_zero8]; simp only [dig_zero8]; exact Hsm.out), Hxb⟩
 case round =>
  clear HB Hc0 Hsm Hxb HG HZS
  obtain ⟨d, hd, rfl, HB, Hc0, Hsm, Hxb⟩ := hrel
  have HSW := Lib.hid (show sa < wr.heap.size ∧ xa < wr.heap.size ∧ w.heap.size ≤ wr.heap.size from ⟨Hsm.out.lt, Hxb.out.lt, HB.out.size⟩)
  have HGP := Lib.hid (HG0.out.up HB.out)
  by_cases hdn : d < n
  ·obtain ⟨k9, hk9⟩ : ∃ k9 : Nat, (n : Int) - 1 - (d : Int) = (k9 : Int) := ⟨n - 1 - d, by omega⟩
   rw [hk9]
   have HK9 := Lib.hid hk9
   have hk9n : k9 < n := by omega
   have HH1 := Lib.hid (show hrN f xm n (d + 1) = hrN f xm n d * xm + f k9 by rw [HHD.out, show n - 1 - d = k9 by omega])
   have HS1 := Lib.hid (show Sl wr wr.heap.size a ((List.range n).flatMap fun k => lim4 G.q.m (f k)) from HS.out.up HB.out)
   obtain ⟨bv, ov, rfl, hbv⟩ := HS1.out.adr (flat_ne (fun i => lim4_len _ _) (by omega) (by rw [← List.length_pos_iff, List.length_range]; omega))
   have hcv := (HS1.out.elemS (fun i => lim4_len _ _) (by omega) k9 (by simpa using hk9n)).2
   rw [List.getElem_range] at hcv
   have hcv_0 := hcv 0 _ rfl
   rw [Nat.add_zero] at hcv_0
   have hcv_1 := hcv 1 _ rfl
   have hcv_2 := hcv 2 _ rfl
   have hcv_3 := hcv 3 _ rfl
   clear hcv HS1 hk9
   generalize f k9 = fk at *
   obtain ⟨hr, hhr⟩ : ∃ v, hrN f xm n d = v := ⟨_, rfl⟩
   rw [hhr] at Hsm HH1
   clear hhr
   replace Hsm := Lib.hid (show Bx wr sa 98 [.int .u64 (dig (mont G.q.m hr) 0 : Int), .int .u64 (dig (mont G.q.m hr) 1 : Int), .int .u64 (dig (mont G.q.m hr) 2 : Int), .int .u64 (dig (mont G.q.m hr) 3 : Int)] from Hsm.out)
   replace Hxb := Lib.hid (show Bx wr xa 98 [.int .u64 (dig (mont G.q.m xm) 0 : Int), .int .u64 (dig (mont G.q.m xm) 1 : Int), .int .u64 (dig (mont G.q.m xm) 2 : Int), .int .u64 (dig (mont G.q.m xm) 3 : Int)] from Hxb.out)
   have HZS := HAD
   replace HZS := sz HZS HSW.out
   replace HZS := sz HZS HGL.out
   have sm_ := Hsm.out.c4
   have xb_ := Hxb.out.c4
   have hge : decide ((k9 : Int) ≥ 0) = true := by simp
   have hw1 : wrap64 ((k9 : Int) - 1) = (k9 : Int) - 1 := by unfold wrap64; omega
   go_wp2_with fail
   have HT := Lib.hid (show Below wr.heap.size wr wr.drew from (Below.refl _ _).drew)
   have hl_sm := Hsm.out.lt
   have hl_xb := Hxb.out.lt
   refine wp_region_treek (fun wq9 => ∃ E : Over wr, wq9 = E.w) 10 ((.qs [0, 1] (.e 2 [] (.e 3 [] (.qs [5, 6, 7] (.e 8 [] (.a 4 (.a 9 (.a 10 .done))))))))) (by kernel_rfl) (by kernel_rfl) (fun _ _ d _ _ h => by cases d <;> exact h) ⟨⟨_, HT.out⟩, rfl⟩ ?_
   have hov_sm := fun (E : Over wr) o => E.cell (b := sa) o hl_sm
   have hov_xb := fun (E : Over wr) o => E.cell (b := xa) o hl_xb
   have hov_bv := fun (E : Over wr) o => E.cell (b := bv) o hbv
   simp only [TreeK.qs]
   repeat (first | (refine treek_q rfl rfl ?_; go_big_quiet_step (fail); refine wpQuiet_nil ?_) | (refine treek_e rfl rfl ?_; go_big_quiet_step (fail); refine wpQuiet_nil ?_))
   clear hcv_0 hcv_1 hcv_2 hcv_3
   refine treek_a rfl (fun K hK => ?_)
   go_simp
   refine (gMul_any G OK.out gb hr xm _ (HGP.out.up HT.out)).mono ?_
   rintro e w5 ⟨rfl, hb9⟩
   replace HT := Lib.hid (below_up HT.out hb9)
   replace HZS := sz HZS (show wr.heap.size ≤ w5.heap.size from HT.out.size)
   clear hb9
   refine hK _ _ ⟨fun _ => ⟨⟨w5, HT.out⟩, rfl⟩, ?_⟩
   clear hK K
   repeat (first | (refine treek_q rfl rfl ?_; go_big_quiet_step (fail); refine wpQuiet_nil ?_) | (refine treek_e rfl rfl ?_; go_big_quiet_step (fail); refine wpQuiet_nil ?_))
   refine treek_a rfl (fun K hK => ?_)
   go_simp
   refine (gAdd_any G OK.out gb (hr * xm) fk _ (HGP.out.up HT.out)).mono ?_
   rintro e w6 ⟨rfl, hb9⟩
   replace HT := Lib.hid (below_up HT.out hb9)
   replace HZS := sz HZS (show wr.heap.size ≤ w6.heap.size from HT.out.size)
   clear hb9
   unfold scV limbV
   refine hK _ _ ⟨fun _ => ⟨⟨w6, HT.out⟩, rfl⟩, ?_⟩
   clear hK K
   repeat (first | (refine treek_q rfl rfl ?_; go_big_quiet_step (fail); refine wpQuiet_nil ?_) | (refine treek_e rfl rfl ?_; go_big_quiet_step (fail); refine wpQuiet_nil ?_))
   clear hov_sm hl_sm hov_xb hl_xb hov_bv
   refine treek_a rfl (fun K hK => ?_)
   clear sm_
   replace Hsm := Lib.hid (Hsm.out.up HT.out)
   clear xb_
   replace Hxb := Lib.hid (Hxb.out.up HT.out)
   replace HGP := Lib.hid (HGP.out.up HT.out)
   replace Hc0 := Lib.hid (Hc0.out.up HT.out)
   replace HB := hbu HB HT.out
   replace HZS := sz HZS HT.out.size
   clear HT
   have sm_ := Hsm.out.c4
   have xb_ := Hxb.out.c4
   have f7_sm := Hsm.out.frozen
   have o7_sm_ := sm_; clear sm_
   have o7_xb_ := xb_; clear xb_
   obtain ⟨w7, hq7, hg9, hz9, hx9⟩ := put4 Hsm 0 (.int .u64 (dig (mont G.q.m (hr * xm + fk)) 0 : Int)) 1 (.int .u64 (dig (mont G.q.m (hr * xm + fk)) 1 : Int)) 2 (.int .u64 (dig (mont G.q.m (hr * xm + fk)) 2 : Int)) 3 (.int .u64 (dig (mont G.q.m (hr * xm + fk)) 3 : Int)) [.int .u64 (dig (mont G.q.m (hr * xm + fk)) 0 : Int), .int .u64 (dig (mont G.q.m (hr * xm + fk)) 1 : Int), .int .u64 (dig (mont G.q.m (hr * xm + fk)) 2 : Int), .int .u64 (dig (mont G.q.m (hr * xm + fk)) 3 : Int)] rfl
   replace Hxb := Lib.hid (Hxb.out.grown hg9.out (sne (by have g0 := HZS.out; omega)))
   replace HGP := Lib.hid (HGP.out.grown hg9.out (sne (by have g0 := HZS.out; omega)))
   replace Hc0 := Lib.hid (Hc0.out.grown hg9.out (sne (by have g0 := HZS.out; omega)))
   replace HB := hbg HB hg9 (by have g0 := HZS.out; omega)
   replace HZS := sz HZS hz9.out
   replace Hsm := hx9
   clear hx9 hg9 hz9
   have sm_ := Hsm.out.c4
   have xb_ := Hxb.out.c4
   go_simp
   try rw [hq7]
   refine hK _ _ ⟨fun h9 => absurd rfl h9, ?_⟩
   clear hK K hq7 o7_xb_ o7_sm_ f7_sm
   repeat (first | (refine treek_q rfl rfl ?_; go_big_quiet_step (fail); refine wpQuiet_nil ?_) | (refine treek_e rfl rfl ?_; go_big_quiet_step (fail); refine wpQuiet_nil ?_))
   refine treek_end ?_
   go_wp2_with fail
   go_roundw
   case rel => exact ⟨d + 1, by omega, by have h9 := HK9.out; rw [show ((n : Int) - 1 - ((d + 1 : Nat) : Int)) = (k9 : Int) - 1 by omega], HB, Hc0, by rw [HH1.out]; exact Hsm, Hxb⟩
   case measure => simp [intOf]
  ·have hdn' : d = n := by omega
   subst hdn'
   have hge : decide (((d : Int) - 1 - (d : Int)) ≥ 0) = false := by simp; omega
   obtain ⟨hr, hhr⟩ : ∃ v, hrN f xm d d = v := ⟨_, rfl⟩
   have HHR := Lib.hid hhr
   rw [hhr] at Hsm
   clear hhr
   replace Hsm := Lib.hid (show Bx wr sa 98 [.int .u64 (dig (mont G.q.m hr) 0 : Int), .int .u64 (dig (mont G.q.m hr) 1 : Int), .int .u64 (dig (mont G.q.m hr) 2 : Int), .int .u64 (dig (mont G.q.m hr) 3 : Int)] from Hsm.out)
   have HZS := HAD
   replace HZS := sz HZS HSW.out
   have sm_ := Hsm.out.c4
   have c0_ := Hc0.out.c4
   have f5_c0 := Hc0.out.frozen
   have o5_sm_ := sm_; clear sm_
   have o5_c0_ := c0_; clear c0_
   obtain ⟨w5, hq5, hg9, hz9, hx9⟩ := put4 Hc0 0 (.int .u64 (dig (mont G.q.m hr) 0 : Int)) 1 (.int .u64 (dig (mont G.q.m hr) 1 : Int)) 2 (.int .u64 (dig (mont G.q.m hr) 2 : Int)) 3 (.int .u64 (dig (mont G.q.m hr) 3 : Int)) [.int .u64 (dig (mont G.q.m hr) 0 : Int), .int .u64 (dig (mont G.q.m hr) 1 : Int), .int .u64 (dig (mont G.q.m hr) 2 : Int), .int .u64 (dig (mont G.q.m hr) 3 : Int)] rfl
   replace Hsm := Lib.hid (Hsm.out.grown hg9.out (sne (by have g0 := HZS.out; omega)))
   replace HB := hbg HB hg9 (by have g0 := HZS.out; omega)
   replace HZS := sz HZS hz9.out
   replace Hc0 := hx9
   clear hx9 hg9 hz9
   have sm_ := Hsm.out.c4
   have c0_ := Hc0.out.c4
   go_wp2_with fail
   clear hq5 o5_c0_ o5_sm_ f5_c0
   simp [bodyPost, results, Try.results84, go_sem, c0_]
   exact (by rw [HHR.out]; exact ⟨⟨rfl, rfl, rfl, rfl⟩, HB.out⟩)
end Go.Proofs.Ytjmeakfjfpnciaa
namespace Go.Proofs.Ytjmeakfjfpnciaa
open Go.RowKit
def comN (cs : List ByteArray) (k : Nat) : Nat := numOf (cs.getD k ⟨#[]⟩)
theorem comN_here {cs : List ByteArray} {i : Nat} (h : i < cs.length) : comN cs i = numOf cs[i] := by unfold comN; rw [List.getD_eq_getElem?_getD, List.getElem?_eq_getElem h]; rfl
def seeN (q : Nat) (c : Nat → Nat) (x n : Nat) : Nat → Nat
 | 0 => 1
 | d + 1 => seeN q c x n d ^ (x % q) * c (n - 1 - d)
theorem com_flat (m : Nat) (cs : List ByteArray) : cs.flatMap (limC m) = coefL m (comN cs) cs.length := by
 unfold coefL
 have h : cs = (List.range cs.length).map fun k => cs.getD k ⟨#[]⟩ := by
  refine List.ext_getElem (by simp) fun i h1 h2 => ?_
  rw [List.getElem_map, List.getElem_range, List.getD_eq_getElem?_getD, List.getElem?_eq_getElem h1]
  rfl
 conv => lhs; rw [h]
 rw [List.flatMap_map]
 rfl
theorem see_any (G : GP) (ok : G.Ok) (gb : Nat) (f : Nat → Nat) (n : Nat) (hn : n ≤ 16) (x : Int) (h1 : -9223372036854775808 ≤ x) (h2 : x ≤ 9223372036854775807) (a : Option Addr) (c : Nat) (w : World) (hG : GroupAt w gb G) (hS : Sl w w.heap.size a (coefL G.p.m f n)) :
  Calls Try.prog 86 #[.pointer (some ⟨gb, 0, none⟩), .slice a n c, .int .i64 x] w (Gives (elV G (seeN G.q.m f (modI G.q.m x) n n)) w) := by
 unfold Gives
 have OK := Lib.hid ok
 have HN := Lib.hid (fun w h => gNumber_any G ok gb x h1 h2 w h)
 have HO := Lib.hid (fun w h => gOne_any G ok gb w h)
 have HG := Lib.hid hG
 have HG0 := HG
 have HGL := Lib.hid hG.lt
 have HS := Lib.hid hS
 generalize modI G.q.m x = xm at *
 unfold scV limbV at HN
 unfold elV limbV at HO ⊢
 clear hG ok hS h1 h2
 go_enter Try.func86, Try.ntmps86
 have HZS := HGL
 go_upto_region 1 with fail
 obtain ⟨w1, hq1, hb9, hz9, Hc0⟩ := new1 w 117 ([.int .u64 0, .int .u64 0, .int .u64 0, .int .u64 0])
 rw [hq1]
 clear hq1
 replace HG := Lib.hid (HG.out.up hb9)
 have HB := Lib.hid hb9
 replace HZS := sz HZS hz9.out
 clear hb9 hz9
 go_wp2_with fail
 refine (HO.out w1 HG.out).mono ?_
 rintro e w2 ⟨rfl, hb9⟩
 replace Hc0 := Lib.hid (Hc0.out.up hb9)
 replace HG := Lib.hid (HG.out.up hb9)
 replace HB := hbu HB hb9
 replace HZS := sz HZS hb9.size
 clear hb9
 obtain ⟨w3, hq3, hb9, hz9, Hsm⟩ := new1 w2 117 [.int .u64 (dig (mont G.p.m 1) 0 : Int), .int .u64 (dig (mont G.p.m 1) 1 : Int), .int .u64 (dig (mont G.p.m 1) 2 : Int), .int .u64 (dig (mont G.p.m 1) 3 : Int)]
 replace Hc0 := Lib.hid (Hc0.out.up hb9)
 replace HG := Lib.hid (HG.out.up hb9)
 replace HB := hbu HB hb9
 replace HZS := sz HZS hz9.out
 clear hb9 hz9
 have sm_ := Hsm.out.c4
 go_wp2_with fail
 clear hq3
 refine (HN.out w3 HG.out).mono ?_
 rintro e w4 ⟨rfl, hb9⟩
 replace Hc0 := Lib.hid (Hc0.out.up hb9)
 clear sm_
 replace Hsm := Lib.hid (Hsm.out.up hb9)
 replace HG := Lib.hid (HG.out.up hb9)
 replace HB := hbu HB hb9
 replace HZS := sz HZS hb9.size
 clear hb9
 have sm_ := Hsm.out.c4
 have o5_sm_ := sm_; clear sm_
 obtain ⟨w5, hq5, hb9, hz9, Hxb⟩ := new1 w4 98 [.int .u64 (dig (mont G.q.m xm) 0 : Int), .int .u64 (dig (mont G.q.m xm) 1 : Int), .int .u64 (dig (mont G.q.m xm) 2 : Int), .int .u64 (dig (mont G.q.m xm) 3 : Int)]
 replace Hc0 := Lib.hid (Hc0.out.up hb9)
 replace Hsm := Lib.hid (Hsm.out.up hb9)
 replace HG := Lib.hid (HG.out.up hb9)
 replace HB := hbu HB hb9
 replace HZS := sz HZS hz9.out
 clear hb9 hz9
 have sm_ := Hsm.out.c4
 have xb_ := Hxb.out.c4
 have hw1 : wrap64 ((n : Int) - 1) = (n : Int) - 1 := by unfold wrap64; omega
 go_wp2_with fail
 clear hq5 o5_sm_ hw1
 have HAD := Lib.hid (show w.heap.size < w2.heap.size ∧ w2.heap.size < w4.heap.size from ⟨by have := HZS.out; omega, by have := HZS.out; omega⟩)
 obtain ⟨xa, hxa⟩ : ∃ q, w4.heap.size = q := ⟨_, rfl⟩
 obtain ⟨sa, hsa⟩ : ∃ q, w2.heap.size = q := ⟨_, rfl⟩
 rw [hxa, hsa] at HAD
 rw [hxa] at Hxb xb_ ⊢
 rw [hsa] at Hsm sm_ ⊢
 clear hxa hsa xb_ sm_
 have HHD := Lib.hid (fun d => show seeN G.q.m f xm n (d + 1) = seeN G.q.m f xm n d ^ (xm % G.q.m) * f (n - 1 - d) from rfl)
 go_loopw [9] (fun v wr => ∃ d : Nat, d ≤ n ∧ v = .int .i64 ((n : Int) - 1 - (d : Int)) ∧ Hid (Below w.heap.size w wr) ∧ Hid (Bx wr w.heap.size 117 [.int .u64 0, .int .u64 0, .int .u64 0, .int .u64 0]) ∧ Hid (Bx wr sa 117 (lim4 G.p.m (seeN G.q.m f xm n d))) ∧ Hid (Bx wr xa 98 (lim4 G.q.m xm))) (fun v _ => (intOf v + 1).toNat)
 case atStart => exact ⟨0, Nat.zero_le _, by simp, HB, Hc0, Hsm, Hxb⟩
 case round =>
  clear HB Hc0 Hsm Hxb HG HZS
  obtain ⟨d, hd, rfl, HB, Hc0, Hsm, Hxb⟩ := hrel
  have HSW := Lib.hid (show sa < wr.heap.size ∧ xa < wr.heap.size ∧ w.heap.size ≤ wr.heap.size from ⟨Hsm.out.lt, Hxb.out.lt, HB.out.size⟩)
  have HGP := Lib.hid (HG0.out.up HB.out)
  by_cases hdn : d < n
  ·obtain ⟨k9, hk9⟩ : ∃ k9 : Nat, (n : Int) - 1 - (d : Int) = (k9 : Int) := ⟨n - 1 - d, by omega⟩
   rw [hk9]
   have HK9 := Lib.hid hk9
   have hk9n : k9 < n := by omega
   have HH1 := Lib.hid (show seeN G.q.m f xm n (d + 1) = seeN G.q.m f xm n d ^ (xm % G.q.m) * f k9 by rw [HHD.out, show n - 1 - d = k9 by omega])
   have HS1 := Lib.hid (show Sl wr wr.heap.size a ((List.range n).flatMap fun k => lim4 G.p.m (f k)) from HS.out.up HB.out)
   obtain ⟨bv, ov, rfl, hbv⟩ := HS1.out.adr (flat_ne (fun i => lim4_len _ _) (by omega) (by rw [← List.length_pos_iff, List.length_range]; omega))
   have hcv := (HS1.out.elemS (fun i => lim4_len _ _) (by omega) k9 (by simpa using hk9n)).2
   rw [List.getElem_range] at hcv
   have hcv_0 := hcv 0 _ rfl
   rw [Nat.add_zero] at hcv_0
   have hcv_1 := hcv 1 _ rfl
   have hcv_2 := hcv 2 _ rfl
   have hcv_3 := hcv 3 _ rfl
   clear hcv HS1 hk9
   generalize f k9 = fk at *
   obtain ⟨hr, hhr⟩ : ∃ v, seeN G.q.m f xm n d = v := ⟨_, rfl⟩
   rw [hhr] at Hsm HH1
   clear hhr
   replace Hsm := Lib.hid (show Bx wr sa 117 [.int .u64 (dig (mont G.p.m hr) 0 : Int), .int .u64 (dig (mont G.p.m hr) 1 : Int), .int .u64 (dig (mont G.p.m hr) 2 : Int), .int .u64 (dig (mont G.p.m hr) 3 : Int)] from Hsm.out)
   replace Hxb := Lib.hid (show Bx wr xa 98 [.int .u64 (dig (mont G.q.m xm) 0 : Int), .int .u64 (dig (mont G.q.m xm) 1 : Int), .int .u64 (dig (mont G.q.m xm) 2 : Int), .int .u64 (dig (mont G.q.m xm) 3 : Int)] from Hxb.out)
   have HZS := HAD
   replace HZS := sz HZS HSW.out
   replace HZS := sz HZS HGL.out
   have sm_ := Hsm.out.c4
   have xb_ := Hxb.out.c4
   have hge : decide ((k9 : Int) ≥ 0) = true := by simp
   have hw1 : wrap64 ((k9 : Int) - 1) = (k9 : Int) - 1 := by unfold wrap64; omega
   go_wp2_with fail
   have HT := Lib.hid (show Below wr.heap.size wr wr.drew from (Below.refl _ _).drew)
   have hl_sm := Hsm.out.lt
   have hl_xb := Hxb.out.lt
   refine wp_region_treek (fun wq9 => ∃ E : Over wr, wq9 = E.w) 10 ((.qs [0, 1] (.e 2 [] (.e 3 [] (.qs [5, 6, 7] (.e 8 [] (.a 4 (.a 9 (.a 10 .done))))))))) (by kernel_rfl) (by kernel_rfl) (fun _ _ d _ _ h => by cases d <;> exact h) ⟨⟨_, HT.out⟩, rfl⟩ ?_
   have hov_sm := fun (E : Over wr) o => E.cell (b := sa) o hl_sm
   have hov_xb := fun (E : Over wr) o => E.cell (b := xa) o hl_xb
   have hov_bv := fun (E : Over wr) o => E.cell (b := bv) o hbv
   simp only [TreeK.qs]
   repeat (first | (refine treek_q rfl rfl ?_; go_big_quiet_step (fail); refine wpQuiet_nil ?_) | (refine treek_e rfl rfl ?_; go_big_quiet_step (fail); refine wpQuiet_nil ?_))
   clear hcv_0 hcv_1 hcv_2 hcv_3
   refine treek_a rfl (fun K hK => ?_)
   go_simp
   refine (gPower_any G OK.out gb hr xm _ (HGP.out.up HT.out)).mono ?_
   rintro e w6 ⟨rfl, hb9⟩
   replace HT := Lib.hid (below_up HT.out hb9)
   replace HZS := sz HZS (show wr.heap.size ≤ w6.heap.size from HT.out.size)
   clear hb9
   refine hK _ _ ⟨fun _ => ⟨⟨w6, HT.out⟩, rfl⟩, ?_⟩
   clear hK K
   repeat (first | (refine treek_q rfl rfl ?_; go_big_quiet_step (fail); refine wpQuiet_nil ?_) | (refine treek_e rfl rfl ?_; go_big_quiet_step (fail); refine wpQuiet_nil ?_))
   refine treek_a rfl (fun K hK => ?_)
   go_simp
   refine (gTimes_any G OK.out gb (hr ^ (xm % G.q.m)) fk _ (HGP.out.up HT.out)).mono ?_
   rintro e w7 ⟨rfl, hb9⟩
   replace HT := Lib.hid (below_up HT.out hb9)
   replace HZS := sz HZS (show wr.heap.size ≤ w7.heap.size from HT.out.size)
   clear hb9
   unfold elV limbV
   refine hK _ _ ⟨fun _ => ⟨⟨w7, HT.out⟩, rfl⟩, ?_⟩
   clear hK K
   repeat (first | (refine treek_q rfl rfl ?_; go_big_quiet_step (fail); refine wpQuiet_nil ?_) | (refine treek_e rfl rfl ?_; go_big_quiet_step (fail); refine wpQuiet_nil ?_))
   clear hov_sm hl_sm hov_xb hl_xb hov_bv
   refine treek_a rfl (fun K hK => ?_)
   clear sm_
   replace Hsm := Lib.hid (Hsm.out.up HT.out)
   clear xb_
   replace Hxb := Lib.hid (Hxb.out.up HT.out)
   replace HGP := Lib.hid (HGP.out.up HT.out)
   replace Hc0 := Lib.hid (Hc0.out.up HT.out)
   replace HB := hbu HB HT.out
   replace HZS := sz HZS HT.out.size
   clear HT
   have sm_ := Hsm.out.c4
   have xb_ := Hxb.out.c4
   have f8_sm := Hsm.out.frozen
   have o8_sm_ := sm_; clear sm_
   have o8_xb_ := xb_; clear xb_
   obtain ⟨w8, hq8, hg9, hz9, hx9⟩ := put4 Hsm 0 (.int .u64 (dig (mont G.p.m (hr ^ (xm % G.q.m) * fk)) 0 : Int)) 1 (.int .u64 (dig (mont G.p.m (hr ^ (xm % G.q.m) * fk)) 1 : Int)) 2 (.int .u64 (dig (mont G.p.m (hr ^ (xm % G.q.m) * fk)) 2 : Int)) 3 (.int .u64 (dig (mont G.p.m (hr ^ (xm % G.q.m) * fk)) 3 : Int)) [.int .u64 (dig (mont G.p.m (hr ^ (xm % G.q.m) * fk)) 0 : Int), .int .u64 (dig (mont G.p.m (hr ^ (xm % G.q.m) * fk)) 1 : Int), .int .u64 (dig (mont G.p.m (hr ^ (xm % G.q.m) * fk)) 2 : Int), .int .u64 (dig (mont G.p.m (hr ^ (xm % G.q.m) * fk)) 3 : Int)] rfl
   replace Hxb := Lib.hid (Hxb.out.grown hg9.out (sne (by have g0 := HZS.out; omega)))
   replace HGP := Lib.hid (HGP.out.grown hg9.out (sne (by have g0 := HZS.out; omega)))
   replace Hc0 := Lib.hid (Hc0.out.grown hg9.out (sne (by have g0 := HZS.out; omega)))
   replace HB := hbg HB hg9 (by have g0 := HZS.out; omega)
   replace HZS := sz HZS hz9.out
   replace Hsm := hx9
   clear hx9 hg9 hz9
   have sm_ := Hsm.out.c4
   have xb_ := Hxb.out.c4
   go_simp
   try rw [hq8]
   refine hK _ _ ⟨fun h9 => absurd rfl h9, ?_⟩
   clear hK K hq8 o8_xb_ o8_sm_ f8_sm
   repeat (first | (refine treek_q rfl rfl ?_; go_big_quiet_step (fail); refine wpQuiet_nil ?_) | (refine treek_e rfl rfl ?_; go_big_quiet_step (fail); refine wpQuiet_nil ?_))
   refine treek_end ?_
   go_wp2_with fail
   go_roundw
   case rel => exact ⟨d + 1, by omega, by have h9 := HK9.out; rw [show ((n : Int) - 1 - ((d + 1 : Nat) : Int)) = (k9 : Int) - 1 by omega], HB, Hc0, by rw [HH1.out]; exact Hsm, Hxb⟩
   case measure => simp [intOf]
  ·have hdn' : d = n := by omega
   subst hdn'
   have hge : decide (((d : Int) - 1 - (d : Int)) ≥ 0) = false := by simp; omega
   obtain ⟨hr, hhr⟩ : ∃ v, seeN G.q.m f xm d d = v := ⟨_, rfl⟩
   have HHR := Lib.hid hhr
   rw [hhr] at Hsm
   clear hhr
   replace Hsm := Lib.hid (show Bx wr sa 117 [.int .u64 (dig (mont G.p.m hr) 0 : Int), .int .u64 (dig (mont G.p.m hr) 1 : Int), .int .u64 (dig (mont G.p.m hr) 2 : Int), .int .u64 (dig (mont G.p.m hr) 3 : Int)] from Hsm.out)
   have HZS := HAD
   replace HZS := sz HZS HSW.out
   have sm_ := Hsm.out.c4
   have c0_ := Hc0.out.c4
   have f6_c0 := Hc0.out.frozen
   have o6_sm_ := sm_; clear sm_
   have o6_c0_ := c0_; clear c0_
   obtain ⟨w6, hq6, hg9, hz9, hx9⟩ := put4 Hc0 0 (.int .u64 (dig (mont G.p.m hr) 0 : Int)) 1 (.int .u64 (dig (mont G.p.m hr) 1 : Int)) 2 (.int .u64 (dig (mont G.p.m hr) 2 : Int)) 3 (.int .u64 (dig (mont G.p.m hr) 3 : Int)) [.int .u64 (dig (mont G.p.m hr) 0 : Int), .int .u64 (dig (mont G.p.m hr) 1 : Int), .int .u64 (dig (mont G.p.m hr) 2 : Int), .int .u64 (dig (mont G.p.m hr) 3 : Int)] rfl
   replace Hsm := Lib.hid (Hsm.out.grown hg9.out (sne (by have g0 := HZS.out; omega)))
   replace HB := hbg HB hg9 (by have g0 := HZS.out; omega)
   replace HZS := sz HZS hz9.out
   replace Hc0 := hx9
   clear hx9 hg9 hz9
   have sm_ := Hsm.out.c4
   have c0_ := Hc0.out.c4
   go_wp2_with fail
   clear hq6 o6_c0_ o6_sm_ f6_c0
   simp [bodyPost, results, Try.results86, go_sem, c0_]
   exact (by rw [HHR.out]; exact ⟨⟨rfl, rfl, rfl, rfl⟩, HB.out⟩)
theorem elems_any (G : GP) (ok : G.Ok) (gb : Nat) (xs : List ByteArray) (n : Nat) (hn : xs.length = n) (hnm : n ≤ 16) (b : Bool) (hb : xs.all (isEl G.q.m G.size) = b) (ax : Option Addr) (cx : Nat) (w : World) (hG : GroupAt w gb G) (hX : Sl w w.heap.size ax (xs.map Value.string)) :
  Calls Try.prog 85 #[.pointer (some ⟨gb, 0, none⟩), .slice ax n cx] w fun e w' => Below w.heap.size w w' ∧ ∃ v, e = .returned (.tuple #[v, .bool b]) ∧ (b = true → ∃ a c, v = .slice a n c ∧ Sl w' w'.heap.size a (coefL G.p.m (comN xs) n) ∧ ∀ y, a = some y → w.heap.size ≤ y.block) := by
 have OK := Lib.hid ok
 have HX := Lib.hid hX
 have HM := Lib.hid hn
 have HG := Lib.hid hG
 have HGL := Lib.hid hG.lt
 have HCF := Lib.hid (com_flat G.p.m xs)
 rw [hn] at HCF
 have HNO := Lib.hid (fun (h : ¬ xs.all (isEl G.q.m G.size) = true) => show b = false by rw [← hb]; exact Bool.eq_false_iff.2 h)
 have HYES := Lib.hid (fun (h : xs.all (isEl G.q.m G.size) = true) => show b = true by rw [← hb]; exact h)
 clear hG ok hX hn hb
 go_enter Try.func85, Try.ntmps85
 go_wp2_with fail
 go_loopw [13, 6] (fun i v wr => ∃ (j : Nat) (g : Option Addr) (c9 : Nat), j ≤ n ∧ i = .int .i64 j ∧ v = .slice g j c9 ∧ Hid (Below w.heap.size w wr) ∧ Hid ((xs.take j).all (isEl G.q.m G.size) = true) ∧ Hid (RowO w.heap.size wr 117 4 (.slice g j c9) j ((xs.take j).flatMap (limC G.p.m)))) (fun i _ _ => n - (intOf i).toNat)
 case atStart => exact ⟨0, none, 0, Nat.zero_le _, rfl, rfl, Below.refl _ _, rfl, RowO.nil⟩
 case round =>
  obtain ⟨j, g, c9, hj, rfl, rfl, HB, HAL, Hr⟩ := hrel
  by_cases hjn : j < n
  ·have HSB := Lib.hid HB.out.size
   have HZS := HSB
   replace HZS := sz HZS HGL.out
   have HGP := Lib.hid (HG.out.up HB.out)
   have hjl : j < xs.length := by rw [HM.out]; exact hjn
   obtain ⟨bl, ol, rfl, hbl, hc⟩ := (HX.out.up HB.out).at j (by simpa using hjl)
   rw [List.getElem_map] at hc
   obtain ⟨bj, hbj⟩ : ∃ x, isEl G.q.m G.size xs[j] = x := ⟨_, rfl⟩
   have HBJ := Lib.hid hbj
   clear hbj
   go_wp2_with fail
   refine (gElem_m G OK.out _ xs[j] bj HBJ.out wr HGP.out).mono ?_
   rintro e w1 ⟨sx, rfl, hb9, hx9⟩
   replace HGP := Lib.hid (HGP.out.up hb9)
   replace Hr := Lib.hid (Hr.out.up hb9)
   replace HB := hbu HB hb9
   replace HZS := sz HZS hb9.size
   have HSX := Lib.hid hx9
   clear hx9 hb9
   unfold limbV
   obtain ⟨w2, hq2, hb9, hz9, Hbp⟩ := new1 w1 117 [.int .u64 (dig (sx) 0 : Int), .int .u64 (dig (sx) 1 : Int), .int .u64 (dig (sx) 2 : Int), .int .u64 (dig (sx) 3 : Int)]
   replace HGP := Lib.hid (HGP.out.up hb9)
   replace Hr := Lib.hid (Hr.out.up hb9)
   replace HB := hbu HB hb9
   replace HZS := sz HZS hz9.out
   clear hb9 hz9
   have bp_ := Hbp.out.c4
   cases bj
   ·obtain rfl := HNO.out (by rw [all_not hjl HBJ.out]; decide)
    go_wp2_with fail
    clear hq2
    go_ret2
    exact ⟨HB.out, _, rfl, fun h => by cases h⟩
   ·obtain rfl := HSX.out rfl
    obtain ⟨i9, hi9, hz90, hz91, hz92⟩ := info_parts infoElem
    go_wp2_with (at_builtin; refine wpList_pushR (w.heap.size) w2 (by have g0 := HZS.out; omega) rfl _ _ 114 rfl 117 i9 _ 4 32 Try.underlying114 hi9 hz90 hz91 hz92 rfl (by omega) ((.slice g j c9)) (j) (((xs.take j).flatMap (limC G.p.m))) rfl Hr.out _ _ _ rfl rfl rfl (by simp [Value.oneCell']) (by omega) (by unfold maxLen; omega) ?_)
    intro g3 c3 w3 hown9 hg9
    clear hq2 bp_ Hbp
    have hb9 := Below.grown HB.out hg9 (by have g0 := HZS.out; omega) (fun q hq => Nat.le_trans (show w.heap.size ≤ w.heap.size by have g0 := HZS.out; omega) (Hr.out.lt q hq).1)
    replace HGP := Lib.hid (HGP.out.grown hg9 (fun e9 => by have a1 := Hr.out.lt _ e9; have g0 := HZS.out; omega))
    replace HZS := sz HZS hg9.size
    clear Hr HB
    have Hr := Lib.hid hown9
    have HB := Lib.hid hb9
    clear hb9 hown9 hg9 hi9 hz90 hz91 hz92
    go_wp2_with fail
    go_roundw
    case rel => exact ⟨j + 1, _, _, by omega, by go_num, rfl, HB, all_snoc hjl HAL.out HBJ.out, Hr.out.eq (flat_snoc _ _ _ hjl).symm rfl⟩
    case measure => simp [intOf]; omega
  ·have hjn' : j = n := by omega
   subst hjn'
   obtain rfl : b = true := HYES.out (by rw [← HM.out] at HAL; exact all_take_true HAL.out)
   rw [List.take_of_length_le (by rw [HM.out]; exact Nat.le_refl _), HCF.out] at Hr
   go_wp2_with fail
   go_ret2
   exact ⟨HB.out, _, rfl, _, ⟨_, rfl⟩, Hr.out.sl, fun y hy => (Hr.out.lt y.block (by rw [hy]; rfl)).1⟩
end Go.Proofs.Ytjmeakfjfpnciaa
namespace Go.Proofs.Ytjmeakfjfpnciaa
def polS (f : Nat → Nat) (X : Nat) : Nat → Nat
 | 0 => 0
 | k + 1 => polS f X k + f k * X ^ k
def prdS (c : Nat → Nat) (X : Nat) : Nat → Nat
 | 0 => 1
 | k + 1 => prdS c X k * c k ^ X ^ k
theorem hr_pol (f : Nat → Nat) (X n : Nat) : ∀ d, d ≤ n → hrN f X n d * X ^ (n - d) + polS f X (n - d) = polS f X n
 | 0, _ => by show 0 * _ + polS f X n = _; rw [Nat.zero_mul, Nat.zero_add]
 | d + 1, h => by
  rw [← hr_pol f X n d (by omega)]
  obtain ⟨k, hk⟩ : ∃ k, n - d = k + 1 := ⟨n - d - 1, by omega⟩
  rw [show n - (d + 1) = k by omega, hk]
  show (hrN f X n d * X + f (n - 1 - d)) * X ^ k + polS f X k = hrN f X n d * X ^ (k + 1) + (polS f X k + f k * X ^ k)
  rw [show n - 1 - d = k by omega, Nat.pow_succ, Nat.add_mul, Nat.mul_assoc, Nat.mul_comm X (X ^ k)]
  omega
theorem hr_full (f : Nat → Nat) (X n : Nat) : hrN f X n n = polS f X n := by
 have h := hr_pol f X n n (Nat.le_refl _)
 rw [Nat.sub_self] at h
 rw [← h]
 show _ = hrN f X n n * X ^ 0 + 0
 rw [Nat.pow_zero, Nat.mul_one, Nat.add_zero]
theorem see_prd (q : Nat) (c : Nat → Nat) (x n : Nat) : ∀ d, d ≤ n → seeN q c x n d ^ (x % q) ^ (n - d) * prdS c (x % q) (n - d) = prdS c (x % q) n
 | 0, _ => by show 1 ^ _ * prdS c (x % q) n = _; rw [Nat.one_pow, Nat.one_mul]
 | d + 1, h => by
  rw [← see_prd q c x n d (by omega)]
  obtain ⟨k, hk⟩ : ∃ k, n - d = k + 1 := ⟨n - d - 1, by omega⟩
  rw [show n - (d + 1) = k by omega, hk]
  show (seeN q c x n d ^ (x % q) * c (n - 1 - d)) ^ (x % q) ^ k * prdS c (x % q) k = seeN q c x n d ^ (x % q) ^ (k + 1) * (prdS c (x % q) k * c k ^ (x % q) ^ k)
  rw [show n - 1 - d = k by omega, Nat.mul_pow, ← Nat.pow_mul, ← Nat.pow_succ', Nat.mul_assoc, Nat.mul_comm (c k ^ _)]
theorem see_full (q : Nat) (c : Nat → Nat) (x n : Nat) : seeN q c x n n = prdS c (x % q) n := by
 have h := see_prd q c x n n (Nat.le_refl _)
 rw [Nat.sub_self] at h
 rw [← h]
 show _ = seeN q c x n n ^ (x % q) ^ 0 * 1
 rw [Nat.pow_zero, Nat.pow_one, Nat.mul_one]
end Go.Proofs.Ytjmeakfjfpnciaa
namespace Go.Proofs.Ytjmeakfjfpnciaa
open Go.RowKit
def cmtL (G : GP) (f : Nat → Nat) (n : Nat) : List ByteArray := (List.range n).map fun k => textS (lowN G (2 ^ (f k % G.q.m))) G.size
def shrL (G : GP) (f : Nat → Nat) (n m : Nat) : List ByteArray := (List.range m).map fun (x : Nat) => textS (hrN f (modI G.q.m ((x : Int) + 1)) n n % G.q.m) G.size
theorem cmtL_snoc (G : GP) (f : Nat → Nat) (n : Nat) : (cmtL G f (n + 1)).map Value.string = (cmtL G f n).map Value.string ++ [.string (textS (lowN G (2 ^ (f n % G.q.m))) G.size)] := by
 unfold cmtL; rw [List.range_succ, List.map_append, List.map_append]; rfl
theorem shrL_snoc (G : GP) (f : Nat → Nat) (n m : Nat) : (shrL G f n (m + 1)).map Value.string = (shrL G f n m).map Value.string ++ [.string (textS (hrN f (modI G.q.m ((m : Int) + 1)) n n % G.q.m) G.size)] := by
 unfold shrL; rw [List.range_succ, List.map_append, List.map_append]; rfl
theorem cmtL_len (G : GP) (f : Nat → Nat) (n : Nat) : (cmtL G f n).length = n := by simp [cmtL]
theorem shrL_len (G : GP) (f : Nat → Nat) (n m : Nat) : (shrL G f n m).length = m := by simp [shrL]
def DealR (er : Nat) (C S : List ByteArray) (w : World) (e : Ending) (w' : World) : Prop :=
 Below w.heap.size w w' ∧ ∃ a c a2 c2, e = .returned (.tuple #[.agg #[.slice a C.length c, .slice a2 S.length c2], .int .i64 (er : Int)]) ∧ Sl w' w'.heap.size a (C.map Value.string) ∧ Sl w' w'.heap.size a2 (S.map Value.string) ∧ (∀ y, a = some y → w.heap.size ≤ y.block) ∧ (∀ y, a2 = some y → w.heap.size ≤ y.block)
theorem dealR_none (er : Nat) {w w' : World} (h : Below w.heap.size w w') : DealR er [] [] w (.returned (.tuple #[.agg #[.slice none 0 0, .slice none 0 0], .int .i64 (er : Int)])) w' := ⟨h, none, 0, none, 0, rfl, Or.inl rfl, Or.inl rfl, (fun y e => nomatch e), (fun y e => nomatch e)⟩
theorem tDeal_none (k : Int) (hk : ¬ (1 ≤ k ∧ k ≤ 3)) (v1 v2 v3 : Value) (w : World) :
  Calls Try.prog 25 #[.int .i64 k, v1, v2, v3] w (DealR 1 [] [] w) := by
 have HN := Lib.hid (fun w => (of_none k hk w).mono (R' := fun e w' => e = .returned (.pointer none) ∧ Below w.heap.size w w') fun e w' h => ⟨h.1, by rw [h.2]; exact Below.refl _ _⟩)
 go_enter Try.func25, Try.ntmps25
 go_upto_region 1 with fail
 obtain ⟨w1, hq1, hb9, hz9, Hrb⟩ := new1 w 46 ([.slice none 0 0, .slice none 0 0])
 rw [hq1]
 clear hq1
 have HB := Lib.hid hb9
 have HZS := hz9
 clear hb9 hz9
 go_wp2_with fail
 refine (HN.out w1).mono ?_
 rintro e w2 ⟨rfl, hb9⟩
 replace Hrb := Lib.hid (Hrb.out.up hb9)
 replace HB := hbu HB hb9
 replace HZS := sz HZS hb9.size
 clear hb9
 have rb_ := Hrb.out.c2
 have f3_rb := Hrb.out.frozen
 have o3_rb_ := rb_; clear rb_
 obtain ⟨w3, hq3, hg9, hz9, hx9⟩ := put2 Hrb 0 (.slice none 0 0) 1 (.slice none 0 0) [.slice none 0 0, .slice none 0 0] rfl
 replace HB := hbg HB hg9 (by have g0 := HZS.out; omega)
 replace HZS := sz HZS hz9.out
 replace Hrb := hx9
 clear hx9 hg9 hz9
 have rb_ := Hrb.out.c2
 go_wp2_with fail
 clear hq3 o3_rb_ f3_rb
 simp [bodyPost, results, Try.results25, go_sem, rb_]
 exact (dealR_none 1 HB.out)
theorem tDeal_range (k : Nat) (h1 : 1 ≤ k) (h3 : k ≤ 3) (need of : Int) (hr : rightB need of = false) (v3 : Value) (w : World) :
  Calls Try.prog 25 #[.int .i64 (k : Int), .int .i64 need, .int .i64 of, v3] w (DealR 4 [] [] w) := by
 have HR := Lib.hid (fun w => right6_any need of w)
 unfold Gives at HR
 rw [hr] at HR
 clear hr
 go_enter Try.func25, Try.ntmps25
 go_upto_region 1 with fail
 obtain ⟨w1, hq1, hb9, hz9, Hrb⟩ := new1 w 46 ([.slice none 0 0, .slice none 0 0])
 rw [hq1]
 clear hq1
 have HB := Lib.hid hb9
 have HZS := hz9
 clear hb9 hz9
 go_wp2_with fail
 refine (of_some k h1 h3 w1).mono ?_
 rintro e w2 ⟨rfl, hg9, hb9⟩
 replace Hrb := Lib.hid (Hrb.out.up hb9)
 replace HB := hbu HB hb9
 replace HZS := sz HZS hb9.size
 have HG := Lib.hid hg9
 clear hg9 hb9
 go_wp2_with fail
 refine (HR.out w2).mono ?_
 rintro e w3 ⟨rfl, hb9⟩
 replace Hrb := Lib.hid (Hrb.out.up hb9)
 replace HG := Lib.hid (HG.out.up hb9)
 replace HB := hbu HB hb9
 replace HZS := sz HZS hb9.size
 clear hb9
 have rb_ := Hrb.out.c2
 have f4_rb := Hrb.out.frozen
 have o4_rb_ := rb_; clear rb_
 obtain ⟨w4, hq4, hg9, hz9, hx9⟩ := put2 Hrb 0 (.slice none 0 0) 1 (.slice none 0 0) [.slice none 0 0, .slice none 0 0] rfl
 replace HG := Lib.hid (HG.out.grown hg9.out (sne (by have g0 := HZS.out; omega)))
 replace HB := hbg HB hg9 (by have g0 := HZS.out; omega)
 replace HZS := sz HZS hz9.out
 replace Hrb := hx9
 clear hx9 hg9 hz9
 have rb_ := Hrb.out.c2
 go_wp2_with fail
 clear hq4 o4_rb_ f4_rb
 simp [bodyPost, results, Try.results25, go_sem, rb_]
 exact (dealR_none 4 HB.out)
theorem tDeal_some (k : Nat) (h1 : 1 ≤ k) (h3 : k ≤ 3) (n m : Nat) (hr : rightB n m = true) (seed : ByteArray) (hs : seed.size < 140737488355328) (w : World) :
  Calls Try.prog 25 #[.int .i64 (k : Int), .int .i64 (n : Int), .int .i64 (m : Int), .string seed] w (DealR 0 (cmtL (grp k) (chcN coefB seed) n) (shrL (grp k) (chcN coefB seed) n m) w) := by
 have hnm : m ≤ 8 ∧ n ≤ 8 ∧ 0 < n := by unfold rightB at hr; simp at hr; omega
 obtain ⟨hm8, hn8, hn0⟩ := hnm
 have OK := Lib.hid (grp_ok k h1 h3)
 have HR := Lib.hid (fun w => right6_any n m w)
 unfold Gives at HR
 rw [hr] at HR
 have HD := Lib.hid (fun gb w h => deal_any (grp k) OK.out gb n hn8 seed hs w h)
 unfold CoefR at HD
 generalize chcN coefB seed = f at *
 have HV := Lib.hid (fun gb (x : Nat) (hx : x < m) a c w h g => value_any (grp k) OK.out gb f n (by omega) ((x : Int) + 1) (by omega) (by omega) a c w h g)
 unfold Gives at HV
 clear hr hs
 go_enter Try.func25, Try.ntmps25
 go_upto_region 1 with fail
 obtain ⟨w1, hq1, hb9, hz9, Hrb⟩ := new1 w 46 ([.slice none 0 0, .slice none 0 0])
 rw [hq1]
 clear hq1
 have HB := Lib.hid hb9
 have HZS := hz9
 clear hb9 hz9
 go_wp2_with fail
 refine (of_some k h1 h3 w1).mono ?_
 rintro e w2 ⟨rfl, hg9, hb9⟩
 replace Hrb := Lib.hid (Hrb.out.up hb9)
 replace HB := hbu HB hb9
 replace HZS := sz HZS hb9.size
 have HG := Lib.hid hg9
 clear hg9 hb9
 have HGL := Lib.hid HG.out.lt
 replace HZS := sz HZS HGL.out
 obtain ⟨gb, hgb⟩ : ∃ b, w1.heap.size = b := ⟨_, rfl⟩
 rw [hgb] at HG HGL ⊢
 clear hgb
 go_wp2_with fail
 refine (HR.out w2).mono ?_
 rintro e w3 ⟨rfl, hb9⟩
 replace Hrb := Lib.hid (Hrb.out.up hb9)
 replace HG := Lib.hid (HG.out.up hb9)
 replace HB := hbu HB hb9
 replace HZS := sz HZS hb9.size
 clear hb9
 go_wp2_with fail
 refine (HD.out _ w3 HG.out).mono ?_
 rintro e w4 ⟨hb9, al, cl, rfl, hx9, hf9⟩
 replace Hrb := Lib.hid (Hrb.out.up hb9)
 replace HG := Lib.hid (HG.out.up hb9)
 replace HB := hbu HB hb9
 replace HZS := sz HZS hb9.size
 have HWS := Lib.hid hx9
 clear hx9
 have HWF := Lib.hid hf9
 clear hf9 hb9
 have HBD := Lib.hid (Below.refl w4.heap.size w4)
 have HLT := Lib.hid (fun y (hy : al = some y) (hne : coefL (grp k).q.m f n ≠ []) => HWS.out.lt hne y hy)
 obtain ⟨w5, hq5, hb9, hz9, Hd⟩ := new1 w4 46 ([.slice none 0 0, .slice none 0 0])
 replace Hrb := Lib.hid (Hrb.out.up hb9)
 replace HG := Lib.hid (HG.out.up hb9)
 replace HBD := hbu HBD hb9
 replace HB := hbu HB hb9
 replace HZS := sz HZS hz9.out
 clear hb9 hz9
 go_wp2_with fail
 clear hq5
 have HDS := Lib.hid (show w.heap.size < w4.heap.size ∧ gb < w4.heap.size ∧ w4.heap.size < w5.heap.size from ⟨by have := HZS.out; omega, by have := HZS.out; have := HGL.out; omega, by have := HZS.out; omega⟩)
 replace HWS := Lib.hid (HWS.out.up HBD.out)
 obtain ⟨D, hD⟩ : ∃ q, w4.heap.size = q := ⟨_, rfl⟩
 rw [hD] at HDS HLT Hd ⊢
 clear hD
 have HB0 := HB
 have HG0 := HG
 go_loopw [34] (fun i wr => ∃ (j : Nat) (g : Option Addr) (c9 : Nat), j ≤ n ∧ i = .int .i64 j ∧ Hid (Kept (fun q9 => q9 = D) w5 wr) ∧ Hid (Bx wr D 46 [.slice g j c9, .slice none 0 0]) ∧ Hid (RowO w5.heap.size wr 9 1 (.slice g j c9) j ((cmtL (grp k) f j).map Value.string))) (fun i _ => n - (intOf i).toNat)
 case atStart => exact ⟨0, none, 0, Nat.zero_le _, rfl, Kept.refl _ _, Hd, RowO.nil⟩
 case round =>
  clear HB HG HZS Hd
  obtain ⟨j, g, c9, hj, rfl, HK, Hd, Hr⟩ := hrel
  have HSZ := Lib.hid (show w.heap.size < D ∧ gb < D ∧ D < w5.heap.size ∧ w5.heap.size ≤ wr.heap.size from ⟨HDS.out.1, HDS.out.2.1, HDS.out.2.2, HK.out.size⟩)
  have HB := Lib.hid (Below.keptP HB0.out HK.out (by have := HSZ.out; omega) (fun q9 h9 => (show w.heap.size ≤ _ by subst h9; have := HSZ.out; omega)))
  have HGP := Lib.hid (HG0.out.keptP HK.out (show ¬ (gb = D) by have := HSZ.out; omega))
  have HW1 := Lib.hid (HWS.out.kept HK.out (fun y hy hq => by have hq : y.block = D := hq; have := HLT.out y hy (flat_ne (fun i => lim4_len _ _) (by omega) (by rw [← List.length_pos_iff, List.length_range]; omega)); omega))
  by_cases hjn : j < n
  ·have HW2 := Lib.hid (show Sl wr wr.heap.size al ((List.range n).flatMap fun i => lim4 (grp k).q.m (f i)) from HW1.out)
   obtain ⟨bw, ow, rfl, hbw⟩ := HW2.out.adr (flat_ne (fun i => lim4_len _ _) (by omega) (by rw [← List.length_pos_iff, List.length_range]; omega))
   have hcw := (HW2.out.elemS (fun i => lim4_len _ _) (by omega) j (by simpa using hjn)).2
   rw [List.getElem_range] at hcw
   have hcw_0 := hcw 0 _ rfl
   rw [Nat.add_zero] at hcw_0
   have hcw_1 := hcw 1 _ rfl
   have hcw_2 := hcw 2 _ rfl
   have hcw_3 := hcw 3 _ rfl
   clear hcw
   have HSN := Lib.hid (cmtL_snoc (grp k) f j)
   generalize f j = fj at *
   have HZS := HSZ
   replace HZS := sz HZS HSZ.out
   have d_ := Hd.out.c2
   have HNP := Lib.hid (fun q e => (Hr.out.lt q e).2)
   have o6_d_ := d_; clear d_
   obtain ⟨w6, hq6, hb9, hz9, Hab⟩ := new1 wr 98 [.int .u64 (dig (mont (grp k).q.m fj) 0 : Int), .int .u64 (dig (mont (grp k).q.m fj) 1 : Int), .int .u64 (dig (mont (grp k).q.m fj) 2 : Int), .int .u64 (dig (mont (grp k).q.m fj) 3 : Int)]
   replace Hd := Lib.hid (Hd.out.up hb9)
   replace HGP := Lib.hid (HGP.out.up hb9)
   replace Hr := Lib.hid (Hr.out.up hb9)
   replace HK := Lib.hid (Kept.up HK.out hb9)
   replace HB := hbu HB hb9
   replace HZS := sz HZS hz9.out
   clear hb9 hz9
   have d_ := Hd.out.c2
   have ab_ := Hab.out.c4
   go_wp2_with fail
   clear hq6 o6_d_ hcw_0 hcw_1 hcw_2 hcw_3 hbw
   have HT := Lib.hid (show Below w6.heap.size w6 w6.drew from (Below.refl _ _).drew)
   have hl_d := Hd.out.lt
   have hl_ab := Hab.out.lt
   refine wp_region_treek (fun wq9 => ∃ E : But w6 (Value.ownBlock (.slice g j c9)), wq9 = E.w) 10 ((.qs [0] (.e 1 [] (.qs [2, 3] (.e 4 [] (.a 5 (.a 6 (.a 7 (.a 8 (.qs [9] (.a 10 .done))))))))))) (by kernel_rfl) (by kernel_rfl) (fun _ _ d _ _ h => by cases d <;> exact h) ⟨⟨_, ((below_grown HT.out).but _)⟩, rfl⟩ ?_
   have hov_d := fun (E : But w6 (Value.ownBlock (.slice g j c9))) o => E.cell (b := D) o hl_d (by intro e9; have a1 := Hr.out.lt _ e9; have a9 := HNP.out _ e9; have g0 := HZS.out; omega)
   have hov_ab := fun (E : But w6 (Value.ownBlock (.slice g j c9))) o => E.cell (b := wr.heap.size) o hl_ab (by intro e9; have a1 := Hr.out.lt _ e9; have a9 := HNP.out _ e9; have g0 := HZS.out; omega)
   simp only [TreeK.qs]
   repeat (first | (refine treek_q rfl rfl ?_; go_big_quiet_step (fail); refine wpQuiet_nil ?_) | (refine treek_e rfl rfl ?_; go_big_quiet_step (fail); refine wpQuiet_nil ?_))
   refine treek_a rfl (fun K hK => ?_)
   go_simp
   refine (gRaise_any (grp k) OK.out gb fj _ (HGP.out.up HT.out)).mono ?_
   rintro e w7 ⟨rfl, hb9⟩
   replace HT := Lib.hid (below_up HT.out hb9)
   replace HZS := sz HZS (show w6.heap.size ≤ w7.heap.size from HT.out.size)
   clear hb9
   refine hK _ _ ⟨fun _ => ⟨⟨w7, ((below_grown HT.out).but _)⟩, rfl⟩, ?_⟩
   clear hK K
   repeat (first | (refine treek_q rfl rfl ?_; go_big_quiet_step (fail); refine wpQuiet_nil ?_) | (refine treek_e rfl rfl ?_; go_big_quiet_step (fail); refine wpQuiet_nil ?_))
   refine treek_a rfl (fun K hK => ?_)
   go_simp
   refine (gText_any (grp k) OK.out gb (2 ^ (fj % (grp k).q.m)) _ (HGP.out.up HT.out)).mono ?_
   rintro e w8 ⟨rfl, hb9⟩
   replace HT := Lib.hid (below_up HT.out hb9)
   replace HZS := sz HZS (show w6.heap.size ≤ w8.heap.size from HT.out.size)
   clear hb9
   refine hK _ _ ⟨fun _ => ⟨⟨w8, ((below_grown HT.out).but _)⟩, rfl⟩, ?_⟩
   clear hK K
   repeat (first | (refine treek_q rfl rfl ?_; go_big_quiet_step (fail); refine wpQuiet_nil ?_) | (refine treek_e rfl rfl ?_; go_big_quiet_step (fail); refine wpQuiet_nil ?_))
   clear hov_d hl_d hov_ab hl_ab
   refine treek_a rfl (fun K hK => ?_)
   go_simp
   refine hK _ _ ⟨fun _ => ⟨⟨_, (below_grown (HT.out.alloc HT.out.size _)).but _⟩, rfl⟩, ?_⟩
   clear hK K
   obtain ⟨i9, hi9, hz90, hz91, hz92⟩ := info_parts infoStr
   have HG1 := Lib.hid ((below_grown HT.out).but (Value.ownBlock (.slice g j c9)))
   clear d_
   replace Hd := Lib.hid (Hd.out.up HT.out)
   clear ab_
   replace Hab := Lib.hid (Hab.out.up HT.out)
   replace HGP := Lib.hid (HGP.out.up HT.out)
   replace Hr := Lib.hid (Hr.out.up HT.out)
   replace HK := Lib.hid (Kept.up HK.out HT.out)
   replace HB := hbu HB HT.out
   replace HZS := sz HZS HT.out.size
   refine treek_a rfl (fun K hK => ?_)
   refine step_pushR (w5.heap.size) w8 (by have g0 := HZS.out; omega) rfl _ _ 22 rfl 9 i9 _ 1 16 Try.underlying22 hi9 hz90 hz91 hz92 rfl (by omega) ((.slice g j c9)) (j) (((cmtL (grp k) f j).map Value.string)) rfl Hr.out _ _ _ rfl rfl rfl (by simp [Value.oneCell']) (by omega) (by unfold maxLen; omega) ?_
   intro g9 c9 w9 hown9 hg9
   have HGR := Lib.hid (HG1.out.trans hg9)
   have hb9 := Below.grown HB.out hg9 (by have g0 := HZS.out; omega) (fun q hq => Nat.le_trans (show w.heap.size ≤ w5.heap.size by have g0 := HZS.out; omega) (Hr.out.lt q hq).1)
   replace Hd := Lib.hid (Hd.out.grown hg9 (fun e9 => by have a1 := Hr.out.lt _ e9; have a9 := HNP.out _ e9; have g0 := HZS.out; omega))
   replace Hab := Lib.hid (Hab.out.grown hg9 (fun e9 => by have a1 := Hr.out.lt _ e9; have a9 := HNP.out _ e9; have g0 := HZS.out; omega))
   replace HGP := Lib.hid (HGP.out.grown hg9 (fun e9 => by have a1 := Hr.out.lt _ e9; have a9 := HNP.out _ e9; have g0 := HZS.out; omega))
   replace HK := Lib.hid (Kept.grown HK.out hg9 (fun q hq => Or.inl (Nat.le_trans (show w5.heap.size ≤ w5.heap.size by have g0 := HZS.out; omega) (Hr.out.lt q hq).1)))
   replace HZS := sz HZS hg9.size
   clear Hr HB HT HG1
   have Hr := Lib.hid hown9
   have HB := Lib.hid hb9
   clear hb9 hown9 hg9 hi9 hz90 hz91 hz92
   refine hK _ _ ⟨fun _ => ⟨⟨w9, HGR.out⟩, rfl⟩, ?_⟩
   clear hK K HGR
   try simp only [Act.put, List.setIfInBounds_toArray, List.set_cons_succ, List.set_cons_zero]
   repeat (first | (refine treek_q rfl rfl ?_; go_big_quiet_step (fail); refine wpQuiet_nil ?_) | (refine treek_e rfl rfl ?_; go_big_quiet_step (fail); refine wpQuiet_nil ?_))
   replace HZS := sz HZS (Hr.out.lt g9 rfl).1
   have d_ := Hd.out.c2
   have ab_ := Hab.out.c4
   have f10_d := Hd.out.frozen
   have o10_d_ := d_; clear d_
   have o10_ab_ := ab_; clear ab_
   obtain ⟨w10, hq10, hg9, hz9, hx9⟩ := put1 Hd 0 (.slice (some ⟨g9, 0, none⟩) ((j + 1)) c9) [.slice (some ⟨g9, 0, none⟩) ((j + 1)) c9, .slice none 0 0] rfl
   replace Hab := Lib.hid (Hab.out.grown hg9.out (sne (by have g0 := HZS.out; omega)))
   replace HGP := Lib.hid (HGP.out.grown hg9.out (sne (by have g0 := HZS.out; omega)))
   replace Hr := Lib.hid (RowO.grown Hr.out hg9.out (fun q9 e8 e9 => by have a1 := Hr.out.lt _ e8; have a0 := Option.some.inj e9; have g0 := HZS.out; omega))
   replace HK := Lib.hid (Kept.grown HK.out hg9.out (fun q9 e9 => by obtain rfl := Option.some.inj e9; exact Or.inr (rfl)))
   replace HB := hbg HB hg9 (by have g0 := HZS.out; omega)
   replace HZS := sz HZS hz9.out
   replace Hd := hx9
   clear hx9 hg9 hz9
   have d_ := Hd.out.c2
   have ab_ := Hab.out.c4
   refine treek_a rfl (fun K hK => ?_)
   go_simp
   try rw [hq10]
   refine hK _ _ ⟨fun h9 => absurd rfl h9, ?_⟩
   clear hK K hq10 o10_ab_ o10_d_ f10_d
   refine treek_end ?_
   go_wp2_with fail
   go_roundw
   case rel => exact ⟨j + 1, _, _, by omega, by go_num, HK, Hd, Hr.out.eq HSN.out.symm rfl⟩
   case measure => simp [intOf]; omega
  ·have hjn' : j = n := by omega
   subst hjn'
   have HF1 := Lib.hid (fun (y : Addr) (hy : g = some y) => (Hr.out.lt y.block (by rw [hy]; rfl)))
   have HS1 := Lib.hid Hr.out.sl
   clear Hr
   have HZS := HSZ
   replace HZS := sz HZS HSZ.out
   have d_ := Hd.out.c2
   have HB1 := HB
   have HG1 := HGP
   obtain ⟨wo, rfl⟩ : ∃ wo : World, wo = wr := ⟨_, rfl⟩
   go_wp2_with fail
   go_loopw [50] (fun i wr => ∃ (j2 : Nat) (g2 : Option Addr) (c2 : Nat), j2 ≤ m ∧ i = .int .i64 j2 ∧ Hid (Kept (fun q9 => q9 = D) wo wr) ∧ Hid (Bx wr D 46 [.slice g j c9, .slice g2 j2 c2]) ∧ Hid (RowO wo.heap.size wr 9 1 (.slice g2 j2 c2) j2 ((shrL (grp k) f j j2).map Value.string))) (fun i _ => m - (intOf i).toNat)
   case atStart => exact ⟨0, none, 0, Nat.zero_le _, rfl, Lib.hid (Kept.refl _ _), Hd, RowO.nil⟩
   case round =>
    clear HB HGP HZS Hd
    obtain ⟨j2, g2, c2, hj2, rfl, HK2, Hd, Hr⟩ := hrel
    have HSZ2 := Lib.hid (show w.heap.size < D ∧ gb < D ∧ D < wo.heap.size ∧ w5.heap.size ≤ wo.heap.size ∧ D < w5.heap.size ∧ wo.heap.size ≤ wr.heap.size from ⟨HDS.out.1, HDS.out.2.1, by have := HSZ.out; omega, HK.out.size, HDS.out.2.2, HK2.out.size⟩)
    have HB := Lib.hid (Below.keptP HB1.out HK2.out (by have := HSZ2.out; omega) (fun q9 h9 => (show w.heap.size ≤ _ by subst h9; have := HSZ2.out; omega)))
    have HGP := Lib.hid (HG1.out.keptP HK2.out (show ¬ (gb = D) by have := HSZ2.out; omega))
    have HSS1 := Lib.hid (HS1.out.kept HK2.out (fun y hy hq => by have hq : y.block = D := hq; have := HF1.out y hy; have := HSZ2.out; omega))
    have HSL := Lib.hid (HW1.out.kept HK2.out (fun y hy hq => by have hq : y.block = D := hq; have := HLT.out y hy (flat_ne (fun i => lim4_len _ _) (by omega) (by rw [← List.length_pos_iff, List.length_range]; omega)); omega))
    by_cases hjm : j2 < m
    ·have HSN := Lib.hid (shrL_snoc (grp k) f j j2)
     have HVJ := Lib.hid (fun a c w h g => HV.out gb j2 hjm a c w h g)
     have hw1 : wrap64 ((j2 : Int) + 1) = (j2 : Int) + 1 := by unfold wrap64; omega
     obtain ⟨sv, hsv⟩ : ∃ v, hrN f (modI (grp k).q.m ((j2 : Int) + 1)) j j = v := ⟨_, rfl⟩
     rw [hsv] at HSN
     simp only [hsv] at HVJ
     clear hsv
     have HZS := HSZ2
     replace HZS := sz HZS HSZ2.out
     have d_ := Hd.out.c2
     go_wp2_with fail
     have HT := Lib.hid (show Below wr.heap.size wr wr.drew from (Below.refl _ _).drew)
     have hl_d := Hd.out.lt
     refine wp_region_treek (fun wq9 => ∃ E : But wr (Value.ownBlock (.slice g2 j2 c2)), wq9 = E.w) 12 ((.qs [0] (.e 1 [] (.qs [2, 3, 4, 5, 6] (.a 7 (.a 8 (.a 9 (.a 10 (.qs [11] (.a 12 .done)))))))))) (by kernel_rfl) (by kernel_rfl) (fun _ _ d _ _ h => by cases d <;> exact h) ⟨⟨_, ((below_grown HT.out).but _)⟩, rfl⟩ ?_
     have hov_d := fun (E : But wr (Value.ownBlock (.slice g2 j2 c2))) o => E.cell (b := D) o hl_d (by intro e9; have a1 := Hr.out.lt _ e9; have g0 := HZS.out; omega)
     simp only [TreeK.qs]
     repeat (first | (refine treek_q rfl rfl ?_; go_big_quiet_step (fail); refine wpQuiet_nil ?_) | (refine treek_e rfl rfl ?_; go_big_quiet_step (fail); refine wpQuiet_nil ?_))
     refine treek_a rfl (fun K hK => ?_)
     go_simp
     refine (HVJ.out _ _ _ (HGP.out.up HT.out) (HSL.out.up HT.out)).mono ?_
     rintro e w6 ⟨rfl, hb9⟩
     replace HT := Lib.hid (below_up HT.out hb9)
     replace HZS := sz HZS (show wr.heap.size ≤ w6.heap.size from HT.out.size)
     clear hb9
     refine hK _ _ ⟨fun _ => ⟨⟨w6, ((below_grown HT.out).but _)⟩, rfl⟩, ?_⟩
     clear hK K
     repeat (first | (refine treek_q rfl rfl ?_; go_big_quiet_step (fail); refine wpQuiet_nil ?_) | (refine treek_e rfl rfl ?_; go_big_quiet_step (fail); refine wpQuiet_nil ?_))
     refine treek_a rfl (fun K hK => ?_)
     go_simp
     refine (gPut_any (grp k) OK.out gb sv _ (HGP.out.up HT.out)).mono ?_
     rintro e w7 ⟨rfl, hb9⟩
     replace HT := Lib.hid (below_up HT.out hb9)
     replace HZS := sz HZS (show wr.heap.size ≤ w7.heap.size from HT.out.size)
     clear hb9
     refine hK _ _ ⟨fun _ => ⟨⟨w7, ((below_grown HT.out).but _)⟩, rfl⟩, ?_⟩
     clear hK K
     repeat (first | (refine treek_q rfl rfl ?_; go_big_quiet_step (fail); refine wpQuiet_nil ?_) | (refine treek_e rfl rfl ?_; go_big_quiet_step (fail); refine wpQuiet_nil ?_))
     clear hov_d hl_d
     refine treek_a rfl (fun K hK => ?_)
     go_simp
     refine hK _ _ ⟨fun _ => ⟨⟨_, (below_grown (HT.out.alloc HT.out.size _)).but _⟩, rfl⟩, ?_⟩
     clear hK K
     obtain ⟨i9, hi9, hz90, hz91, hz92⟩ := info_parts infoStr
     have HG1 := Lib.hid ((below_grown HT.out).but (Value.ownBlock (.slice g2 j2 c2)))
     clear d_
     replace Hd := Lib.hid (Hd.out.up HT.out)
     replace HGP := Lib.hid (HGP.out.up HT.out)
     replace Hr := Lib.hid (Hr.out.up HT.out)
     replace HK2 := Lib.hid (Kept.up HK2.out HT.out)
     replace HB := hbu HB HT.out
     replace HZS := sz HZS HT.out.size
     refine treek_a rfl (fun K hK => ?_)
     refine step_pushR (wo.heap.size) w7 (by have g0 := HZS.out; omega) rfl _ _ 22 rfl 9 i9 _ 1 16 Try.underlying22 hi9 hz90 hz91 hz92 rfl (by omega) ((.slice g2 j2 c2)) (j2) (((shrL (grp k) f j j2).map Value.string)) rfl Hr.out _ _ _ rfl rfl rfl (by simp [Value.oneCell']) (by omega) (by unfold maxLen; omega) ?_
     intro g8 c8 w8 hown9 hg9
     have HGR := Lib.hid (HG1.out.trans hg9)
     have hb9 := Below.grown HB.out hg9 (by have g0 := HZS.out; omega) (fun q hq => Nat.le_trans (show w.heap.size ≤ wo.heap.size by have g0 := HZS.out; omega) (Hr.out.lt q hq).1)
     replace Hd := Lib.hid (Hd.out.grown hg9 (fun e9 => by have a1 := Hr.out.lt _ e9; have g0 := HZS.out; omega))
     replace HGP := Lib.hid (HGP.out.grown hg9 (fun e9 => by have a1 := Hr.out.lt _ e9; have g0 := HZS.out; omega))
     replace HK2 := Lib.hid (Kept.grown HK2.out hg9 (fun q hq => Or.inl (Nat.le_trans (show wo.heap.size ≤ wo.heap.size by have g0 := HZS.out; omega) (Hr.out.lt q hq).1)))
     replace HZS := sz HZS hg9.size
     clear Hr HB HT HG1
     have Hr := Lib.hid hown9
     have HB := Lib.hid hb9
     clear hb9 hown9 hg9 hi9 hz90 hz91 hz92
     refine hK _ _ ⟨fun _ => ⟨⟨w8, HGR.out⟩, rfl⟩, ?_⟩
     clear hK K HGR
     try simp only [Act.put, List.setIfInBounds_toArray, List.set_cons_succ, List.set_cons_zero]
     repeat (first | (refine treek_q rfl rfl ?_; go_big_quiet_step (fail); refine wpQuiet_nil ?_) | (refine treek_e rfl rfl ?_; go_big_quiet_step (fail); refine wpQuiet_nil ?_))
     replace HZS := sz HZS (Hr.out.lt g8 rfl).1
     have d_ := Hd.out.c2
     have f9_d := Hd.out.frozen
     have o9_d_ := d_; clear d_
     obtain ⟨w9, hq9, hg9, hz9, hx9⟩ := put1 Hd 1 (.slice (some ⟨g8, 0, none⟩) ((j2 + 1)) c8) [.slice g j c9, .slice (some ⟨g8, 0, none⟩) ((j2 + 1)) c8] rfl
     replace HGP := Lib.hid (HGP.out.grown hg9.out (sne (by have g0 := HZS.out; omega)))
     replace Hr := Lib.hid (RowO.grown Hr.out hg9.out (fun q9 e8 e9 => by have a1 := Hr.out.lt _ e8; have a0 := Option.some.inj e9; have g0 := HZS.out; omega))
     replace HK2 := Lib.hid (Kept.grown HK2.out hg9.out (fun q9 e9 => by obtain rfl := Option.some.inj e9; exact Or.inr (rfl)))
     replace HB := hbg HB hg9 (by have g0 := HZS.out; omega)
     replace HZS := sz HZS hz9.out
     replace Hd := hx9
     clear hx9 hg9 hz9
     have d_ := Hd.out.c2
     refine treek_a rfl (fun K hK => ?_)
     go_simp
     try rw [hq9]
     refine hK _ _ ⟨fun h9 => absurd rfl h9, ?_⟩
     clear hK K hq9 o9_d_ f9_d
     refine treek_end ?_
     go_wp2_with fail
     go_roundw
     case rel => exact ⟨j2 + 1, _, _, by omega, by go_num, HK2, Hd, Hr.out.eq HSN.out.symm rfl⟩
     case measure => simp [intOf]; omega
    ·have hjm' : j2 = m := by omega
     subst hjm'
     have HF2 := Lib.hid (fun (y : Addr) (hy : g2 = some y) => (Hr.out.lt y.block (by rw [hy]; rfl)))
     have HS2 := Lib.hid Hr.out.sl
     clear Hr
     have hrl := Hrb.out.lt
     have Hrb1 := Lib.hid (show Bx wr w.heap.size 46 [.slice none 0 0, .slice none 0 0] from (HK2.out.block w.heap.size (by have := HSZ2.out; omega) (fun e => by have e : w.heap.size = D := e; have := HSZ2.out; omega)).trans ((HK.out.block w.heap.size hrl (fun e => by have e : w.heap.size = D := e; have := HSZ2.out; omega)).trans Hrb.out))
     clear Hrb
     have Hrb := Hrb1
     clear Hrb1 hrl
     have HZS := HSZ2
     replace HZS := sz HZS HSZ2.out
     have d_ := Hd.out.c2
     have rb_ := Hrb.out.c2
     have HKB := Lib.hid (Kept.refl (fun q9 => q9 = w.heap.size) wr)
     have f6_rb := Hrb.out.frozen
     have o6_d_ := d_; clear d_
     have o6_rb_ := rb_; clear rb_
     obtain ⟨w6, hq6, hg9, hz9, hx9⟩ := put2 Hrb 0 (.slice g j c9) 1 (.slice g2 j2 c2) [.slice g j c9, .slice g2 j2 c2] rfl
     replace Hd := Lib.hid (Hd.out.grown hg9.out (sne (by have g0 := HZS.out; omega)))
     replace HKB := Lib.hid (Kept.grown HKB.out hg9.out (fun q9 e9 => by obtain rfl := Option.some.inj e9; exact Or.inr (rfl)))
     replace HB := hbg HB hg9 (by have g0 := HZS.out; omega)
     replace HZS := sz HZS hz9.out
     replace Hrb := hx9
     clear hx9 hg9 hz9
     have d_ := Hd.out.c2
     have rb_ := Hrb.out.c2
     go_wp2_with fail
     clear hq6 o6_rb_ o6_d_ f6_rb
     simp [bodyPost, results, Try.results25, go_sem, rb_]
     exact ⟨HB.out, g, c9, g2, c2, by rw [cmtL_len, shrL_len]; rfl, HSS1.out.kept HKB.out (fun y hy e => by have e : y.block = w.heap.size := e; have := HF1.out y hy; have := HSZ2.out; omega), HS2.out.kept HKB.out (fun y hy e => by have e : y.block = w.heap.size := e; have := HF2.out y hy; have := HSZ2.out; omega), fun y hy => by have := HF1.out y hy; have := HSZ2.out; omega, fun y hy => by have := HF2.out y hy; have := HSZ2.out; omega⟩
end Go.Proofs.Ytjmeakfjfpnciaa
namespace Go.Proofs.Ytjmeakfjfpnciaa
open Go.RowKit
def seenE (G : GP) (cs : List ByteArray) (x : Int) : Nat :=
 if 16 < cs.length then 3 else if cs.length = 0 then 2 else if cs.all (isEl G.q.m G.size) = true then (if x < 0 ∨ 255 < x then 4 else 0) else 7
def seenS (G : GP) (cs : List ByteArray) (x : Int) : ByteArray :=
 if seenE G cs x = 0 then textS (lowN G (seeN G.q.m (comN cs) (modI G.q.m x) cs.length cs.length)) G.size else ⟨#[]⟩
theorem seenS_bad {G : GP} {cs : List ByteArray} {x : Int} {e : Nat} (h : seenE G cs x = e) (he : e ≠ 0) : seenS G cs x = ⟨#[]⟩ := by unfold seenS; rw [h, if_neg he]
theorem tSeen_none (k : Int) (hk : ¬ (1 ≤ k ∧ k ≤ 3)) (v1 v2 : Value) (w : World) :
  Calls Try.prog 27 #[.int .i64 k, v1, v2] w (Gives (.tuple #[.string ⟨#[]⟩, .int .i64 1]) w) := by
 unfold Gives
 go_enter Try.func27, Try.ntmps27
 go_wp2_with fail
 refine (of_none k hk _).mono ?_
 rintro e w2 ⟨rfl, rfl⟩
 go_wp2_with fail
 go_ret2
 exact ⟨rfl, Below.refl _ _⟩
theorem tSeen_some (k : Nat) (h1 : 1 ≤ k) (h3 : k ≤ 3) (cs : List ByteArray) (n : Nat) (hn : cs.length = n) (hnm : n ≤ 1152921504606846975) (x : Int) (ac : Option Addr) (cc : Nat) (w : World) (hC : Sl w w.heap.size ac (cs.map Value.string)) :
  Calls Try.prog 27 #[.int .i64 (k : Int), .slice ac n cc, .int .i64 x] w (Gives (.tuple #[.string (seenS (grp k) cs x), .int .i64 (seenE (grp k) cs x : Int)]) w) := by
 unfold Gives
 have OK := Lib.hid (grp_ok k h1 h3)
 have HC := Lib.hid hC
 obtain ⟨er, hz⟩ : ∃ z, seenE (grp k) cs x = z := ⟨_, rfl⟩
 have hsr : (er ≠ 0 → seenS (grp k) cs x = ⟨#[]⟩) ∧ (er = 0 → seenS (grp k) cs x = textS (lowN (grp k) (seeN (grp k).q.m (comN cs) (modI (grp k).q.m x) n n)) (grp k).size) := ⟨seenS_bad hz, fun h => by unfold seenS; rw [hz, if_pos h, hn]⟩
 obtain ⟨sr, hs9⟩ : ∃ z, seenS (grp k) cs x = z := ⟨_, rfl⟩
 rw [hz, hs9]
 rw [hs9] at hsr
 unfold seenE at hz
 rw [hn] at hz
 have HSR := Lib.hid hsr
 clear hsr hs9 hC
 by_cases hl : 16 < n
 ·rw [if_pos hl] at hz
  subst hz
  obtain rfl := HSR.out.1 (by decide)
  have hlb : decide ((n : Int) > 16) = true := by simp; omega
  go_enter Try.func27, Try.ntmps27
  go_wp2_with fail
  refine (of_some k h1 h3 w).mono ?_
  rintro e w1 ⟨rfl, hg9, hb9⟩
  have HB := Lib.hid hb9
  have HZS := Lib.hid hb9.size
  clear hb9
  go_wp2_with fail
  go_ret2
  exact ⟨rfl, HB.out⟩
 rw [if_neg hl] at hz
 have hlb : decide ((n : Int) > 16) = false := by simp; omega
 by_cases h0 : n = 0
 ·rw [if_pos h0] at hz
  subst hz
  obtain rfl := HSR.out.1 (by decide)
  subst h0
  go_enter Try.func27, Try.ntmps27
  go_wp2_with fail
  refine (of_some k h1 h3 w).mono ?_
  rintro e w1 ⟨rfl, hg9, hb9⟩
  have HB := Lib.hid hb9
  have HZS := Lib.hid hb9.size
  clear hb9
  go_wp2_with fail
  go_ret2
  exact ⟨rfl, HB.out⟩
 rw [if_neg h0] at hz
 have h0b : ((n : Int) == 0) = false := by simp; omega
 obtain ⟨b, hb⟩ : ∃ b, cs.all (isEl (grp k).q.m (grp k).size) = b := ⟨_, rfl⟩
 rw [hb] at hz
 have HE := Lib.hid (fun gb w h g => elems_any (grp k) OK.out gb cs n hn (by omega) b hb ac cc w h g)
 have HX := Lib.hid (fun gb a c w h g i1 i2 => see_any (grp k) OK.out gb (comN cs) n (by omega) x i1 i2 a c w h g)
 unfold Gives at HX
 generalize comN cs = f at *
 generalize modI (grp k).q.m x = xm at *
 clear hb hn
 go_enter Try.func27, Try.ntmps27
 go_wp2_with fail
 refine (of_some k h1 h3 w).mono ?_
 rintro e w1 ⟨rfl, hg9, hb9⟩
 have HB := Lib.hid hb9
 have HZS := Lib.hid hb9.size
 have HG := Lib.hid hg9
 clear hg9 hb9
 have HGL := Lib.hid HG.out.lt
 replace HZS := sz HZS HGL.out
 go_wp2_with fail
 refine (HE.out _ w1 HG.out (HC.out.up HB.out)).mono ?_
 rintro e w2 ⟨hb9, v, rfl, hx9⟩
 replace HG := Lib.hid (HG.out.up hb9)
 replace HB := hbu HB hb9
 replace HZS := sz HZS hb9.size
 have HEX := Lib.hid hx9
 clear hx9 hb9
 cases b with
 | false =>
  rw [if_neg (by decide)] at hz
  subst hz
  obtain rfl := HSR.out.1 (by decide)
  go_wp2_with fail
  go_ret2
  exact ⟨rfl, HB.out⟩
 | true =>
  obtain ⟨a, c, rfl, hs9, _⟩ := HEX.out rfl
  have HSL := Lib.hid hs9
  clear hs9 HEX
  rw [if_pos rfl] at hz
  have hxb : decide (x < 0) = decide (x < 0) := rfl
  by_cases hx1 : x < 0
  ·rw [if_pos (Or.inl hx1)] at hz
   subst hz
   obtain rfl := HSR.out.1 (by decide)
   have hxb : decide (x < 0) = true := decide_eq_true hx1
   go_wp2_with fail
   go_ret2
   exact ⟨rfl, HB.out⟩
  have hxb : decide (x < 0) = false := decide_eq_false hx1
  by_cases hx2 : 255 < x
  ·rw [if_pos (Or.inr hx2)] at hz
   subst hz
   obtain rfl := HSR.out.1 (by decide)
   have hxc : decide (x > 255) = true := decide_eq_true hx2
   go_wp2_with fail
   go_ret2
   exact ⟨rfl, HB.out⟩
  have hxc : decide (x > 255) = false := decide_eq_false hx2
  rw [if_neg (by omega)] at hz
  subst hz
  obtain rfl := HSR.out.2 rfl
  go_wp2_with fail
  refine (HX.out _ a c w2 HG.out HSL.out (by omega) (by omega)).mono ?_
  rintro e w3 ⟨rfl, hb9⟩
  replace HG := Lib.hid (HG.out.up hb9)
  replace HB := hbu HB hb9
  replace HZS := sz HZS hb9.size
  clear hb9
  go_wp2_with fail
  refine (gText_any (grp k) OK.out _ (seeN (grp k).q.m f xm n n) w3 HG.out).mono ?_
  rintro e w4 ⟨rfl, hb9⟩
  replace HG := Lib.hid (HG.out.up hb9)
  replace HB := hbu HB hb9
  replace HZS := sz HZS hb9.size
  clear hb9
  go_wp2_with fail
  go_ret2
  exact ⟨rfl, HB.out⟩
def fitK (G : GP) (cs : List ByteArray) (x : Int) (s : ByteArray) : Bool :=
 if seenE G cs x = 0 then isSc G.q.m G.size s && ((textS (lowN G (2 ^ (numOf s % G.q.m))) G.size).toList == (seenS G cs x).toList) else false
theorem tFits_some (k : Nat) (h1 : 1 ≤ k) (h3 : k ≤ 3) (cs : List ByteArray) (n : Nat) (hn : cs.length = n) (hnm : n ≤ 1152921504606846975) (x : Int) (s : ByteArray) (ac : Option Addr) (cc : Nat) (w : World) (hC : Sl w w.heap.size ac (cs.map Value.string)) :
  Calls Try.prog 26 #[.int .i64 (k : Int), .slice ac n cc, .int .i64 x, .string s] w (Gives (.bool (fitK (grp k) cs x s)) w) := by
 unfold Gives
 have OK := Lib.hid (grp_ok k h1 h3)
 have HC := Lib.hid hC
 have HS := Lib.hid (fun w h => tSeen_some k h1 h3 cs n hn hnm x ac cc w h)
 unfold Gives at HS
 obtain ⟨kb, hkb⟩ : ∃ b, fitK (grp k) cs x s = b := ⟨_, rfl⟩
 rw [hkb]
 unfold fitK at hkb
 generalize seenE (grp k) cs x = er at *
 generalize seenS (grp k) cs x = sr at *
 clear hn hnm hC
 by_cases he : er = 0
 case neg =>
  have hd : ((er : Int) != 0) = true := by simp; omega
  rw [if_neg he] at hkb
  subst hkb
  go_enter Try.func26, Try.ntmps26
  go_wp2_with fail
  refine (HS.out w HC.out).mono ?_
  rintro e w1 ⟨rfl, hb9⟩
  have HB := Lib.hid hb9
  have HZS := Lib.hid hb9.size
  clear hb9
  go_wp2_with fail
  go_ret
  exact ⟨rfl, HB.out⟩
 subst he
 have hd : ((((0 : Nat) : Int)) != 0) = false := by simp
 rw [if_pos rfl] at hkb
 obtain ⟨b, hb⟩ : ∃ b, isSc (grp k).q.m (grp k).size s = b := ⟨_, rfl⟩
 rw [hb] at hkb
 have HM := Lib.hid (fun gb w h => gScalar_m (grp k) OK.out gb s b hb w h)
 clear hb
 obtain ⟨c, hc⟩ : ∃ c, ((textS (lowN (grp k) (2 ^ (numOf s % (grp k).q.m))) (grp k).size).toList == sr.toList) = c := ⟨_, rfl⟩
 rw [hc] at hkb
 go_enter Try.func26, Try.ntmps26
 go_wp2_with fail
 refine (HS.out w HC.out).mono ?_
 rintro e w1 ⟨rfl, hb9⟩
 have HB := Lib.hid hb9
 have HZS := Lib.hid hb9.size
 clear hb9
 go_wp2_with fail
 refine (of_some k h1 h3 w1).mono ?_
 rintro e w2 ⟨rfl, hg9, hb9⟩
 replace HB := hbu HB hb9
 replace HZS := sz HZS hb9.size
 have HG := Lib.hid hg9
 clear hg9 hb9
 have HGL := Lib.hid HG.out.lt
 replace HZS := sz HZS HGL.out
 go_wp2_with fail
 refine (HM.out _ w2 HG.out).mono ?_
 rintro e w3 ⟨sx, rfl, hb9, hx9⟩
 replace HG := Lib.hid (HG.out.up hb9)
 replace HB := hbu HB hb9
 replace HZS := sz HZS hb9.size
 have HSX := Lib.hid hx9
 clear hx9 hb9
 unfold limbV
 obtain ⟨w4, hq4, hb9, hz9, Hnb⟩ := new1 w3 98 [.int .u64 (dig (sx) 0 : Int), .int .u64 (dig (sx) 1 : Int), .int .u64 (dig (sx) 2 : Int), .int .u64 (dig (sx) 3 : Int)]
 replace HG := Lib.hid (HG.out.up hb9)
 replace HB := hbu HB hb9
 replace HZS := sz HZS hz9.out
 clear hb9 hz9
 have nb_ := Hnb.out.c4
 cases b with
 | false =>
  obtain rfl : kb = false := by rw [← hkb]; rfl
  go_wp2_with fail
  clear hq4
  go_ret
  exact ⟨rfl, HB.out⟩
 | true =>
  obtain rfl := HSX.out rfl
  obtain rfl : kb = c := by rw [← hkb]; rfl
  go_wp2_with fail
  refine (gRaise_any (grp k) OK.out _ (numOf s) w4 HG.out).mono ?_
  rintro e w5 ⟨rfl, hb9⟩
  clear nb_
  replace Hnb := Lib.hid (Hnb.out.up hb9)
  replace HG := Lib.hid (HG.out.up hb9)
  replace HB := hbu HB hb9
  replace HZS := sz HZS hb9.size
  clear hb9
  have nb_ := Hnb.out.c4
  go_wp2_with fail
  refine (gText_any (grp k) OK.out _ (2 ^ (numOf s % (grp k).q.m)) w5 HG.out).mono ?_
  rintro e w6 ⟨rfl, hb9⟩
  clear nb_
  replace Hnb := Lib.hid (Hnb.out.up hb9)
  replace HG := Lib.hid (HG.out.up hb9)
  replace HB := hbu HB hb9
  replace HZS := sz HZS hb9.size
  clear hb9
  have nb_ := Hnb.out.c4
  go_wp2_with fail
  go_ret
  exact ⟨rfl, HB.out⟩
end Go.Proofs.Ytjmeakfjfpnciaa
namespace Go.Proofs.Ytjmeakfjfpnciaa
open Go.RowKit
theorem prm_int {p : Nat} (hp : IsPrime p) : Prm (p : Int) := fun a b h => by
 have h1 : p ∣ a.natAbs * b.natAbs := by
  rw [← Int.natAbs_mul]
  exact Int.ofNat_dvd_left.1 h
 rcases hp.dvd_mul h1 with h | h
 ·exact Or.inl (Int.ofNat_dvd_left.2 h)
 ·exact Or.inr (Int.ofNat_dvd_left.2 h)
theorem one_nd {p : Nat} (hp : IsPrime p) : ¬ (p : Int) ∣ 1 := fun h => by
 have h1 : p ∣ 1 := by have := Int.ofNat_dvd_left.1 h; simpa using this
 have := Nat.le_of_dvd (by omega) h1
 have := hp.1
 omega
theorem fermat_int {p : Nat} (hp : IsPrime p) (d : Int) (h : ¬ (p : Int) ∣ d) : Cg (p : Int) (d * d ^ (p - 2)) 1 := by
 have h2 := hp.1
 obtain ⟨a, ha⟩ : ∃ a : Nat, d % (p : Int) = a := ⟨(d % (p : Int)).toNat, by rw [Int.toNat_of_nonneg (Int.emod_nonneg d (by omega))]⟩
 have hd : Cg (p : Int) d (a : Int) := by rw [← ha]; exact (Cg.mod _ _).symm
 have hna : ¬ p ∣ a := fun e => h (by
  have h3 : (p : Int) ∣ (a : Int) := Int.natCast_dvd_natCast.2 e
  have h4 := hd
  unfold Cg at h4
  have := Int.dvd_add h4 h3
  rwa [show d - (a : Int) + (a : Int) = d by omega] at this)
 refine (hd.mul (hd.pow (p - 2))).trans ?_
 have hf := fermat hp hna
 have e : (a : Int) * (a : Int) ^ (p - 2) = ((a ^ (p - 1) : Nat) : Int) := by
  rw [← Int.natCast_pow, ← Int.natCast_mul, ← Nat.pow_succ', show (p - 2).succ = p - 1 by omega]
 rw [e]
 have h5 : Cg (p : Int) ((a ^ (p - 1) : Nat) : Int) ((1 : Nat) : Int) := Cg.of_nat hf
 exact h5
theorem dis_of {q : Nat} (hq : 255 < q) : ∀ {l : List Int}, OkP l → l.Nodup → Dis (q : Int) l
 | [], _, _ => List.Pairwise.nil
 | a :: l, hl, hn => by
  obtain ⟨h1, h2⟩ := List.nodup_cons.1 hn
  refine List.pairwise_cons.2 ⟨fun b hb hd => ?_, dis_of hq (fun x hx => hl x (List.mem_cons_of_mem _ hx)) h2⟩
  have ha := hl a (List.mem_cons_self ..)
  have hb2 := hl b (List.mem_cons_of_mem _ hb)
  have hne : a ≠ b := fun e => h1 (e ▸ hb)
  obtain ⟨k, hk⟩ := hd
  rcases Int.lt_trichotomy k 0 with h | h | h
  ·have : (q : Int) * k ≤ (q : Int) * (-1) := Int.mul_le_mul_of_nonneg_left (by omega) (by omega)
   omega
  ·subst h
   simp at hk
   omega
  ·have : (q : Int) * 1 ≤ (q : Int) * k := Int.mul_le_mul_of_nonneg_left (by omega) (by omega)
   omega
def valAt (q : Nat) (l : List Int) (v : Nat → Nat) (x : Int) : Nat := thQ q l v x l.length
section
variable {q : Nat} {l : List Int} {v : Nat → Nat}
theorem valAt_lt (hq : 0 < q) (hn : l ≠ []) (x : Int) : valAt q l v x < q := by
 unfold valAt
 match h : l.length with
 | 0 => exact absurd (List.length_eq_zero_iff.1 h) hn
 | n + 1 => exact Nat.mod_lt _ hq
theorem valAt_cg (hq : 255 ≤ q) (ho : q % 2 = 1) (hl : OkP l) (x : Int) (hx : 0 ≤ x ∧ x ≤ 255) : Cg (q : Int) (valAt q l v x : Int) (lagr (fun d => d ^ (q - 2)) l (fun j => (v j : Int)) x) := by
 unfold valAt
 rw [← th_eq q hq ho l hl v x hx l.length (Nat.le_refl _)]
 exact (Cg.natmod _ _).trans (thU_lagr q (by omega) l v x)
end
theorem num_textS {G : GP} (ok : G.Ok) {x : Nat} (h : x < G.q.m) : numOf (textS x G.size) = x := by
 rw [numOf_textS, Nat.mod_eq_of_lt (Nat.lt_of_lt_of_le h ok.fits)]
theorem sc_textS {G : GP} (ok : G.Ok) {x : Nat} (h : x < G.q.m) : isSc G.q.m G.size (textS x G.size) = true := by
 unfold isSc
 rw [textS_size, num_textS ok h, decide_eq_true h]
 simp
theorem pl_errs (l : List Int) : placesE l = 0 ∨ placesE l = 3 ∨ placesE l = 2 ∨ placesE l = 4 ∨ placesE l = 10 := by
 unfold placesE
 by_cases h1 : 16 < l.length
 ·rw [if_pos h1]; simp
 rw [if_neg h1]
 by_cases h2 : l.length = 0
 ·rw [if_pos h2]; simp
 rw [if_neg h2]
 by_cases h3 : l.any outPl = true
 ·rw [if_pos h3]; simp
 rw [if_neg h3]
 by_cases h4 : l.Nodup
 ·rw [if_pos h4]; simp
 ·rw [if_neg h4]; simp
end Go.Proofs.Ytjmeakfjfpnciaa
namespace Go.Proofs.Ytjmeakfjfpnciaa
open Go.ChangeShapes Go.WideShapes Go.ChangeAt Go.RowKit
theorem law_own : ownKnob Try.prog.godebug = none := by kernel_rfl
theorem law_laidOut : laidOutB Try.prog = true := by kernel_rfl
section
variable {H : Type} {enc : TypeId × Value → H} {P : Program} {w : World}
theorem add_plain (b off i : Nat) : (⟨b, off, none⟩ : Addr).add i = ⟨b, off + i, none⟩ := by unfold Addr.add; split <;> simp_all
end
end Go.Proofs.Ytjmeakfjfpnciaa
namespace Go.Proofs.Ytjmeakfjfpnciaa
open Go.RowKit
end Go.Proofs.Ytjmeakfjfpnciaa
namespace Go.Proofs.Ytjmeakfjfpnciaa
open Go.RowKit
end Go.Proofs.Ytjmeakfjfpnciaa
namespace Go.Proofs.Ytjmeakfjfpnciaa
open Go.RowKit
end Go.Proofs.Ytjmeakfjfpnciaa
namespace Go.Proofs.Ytjmeakfjfpnciaa
end Go.Proofs.Ytjmeakfjfpnciaa
namespace Go.Proofs.Ytjmeakfjfpnciaa
open Go.RowKit
section
variable {G : GP}
theorem lowN_pos (ok : G.Ok) (_hpp : IsPrime G.p.m) {x : Nat} (h : ¬ G.p.m ∣ x) : 0 < lowN G x := Lw_pos ok.twice h
theorem pow2_nd (ok : G.Ok) (hpp : IsPrime G.p.m) (n : Nat) : ¬ G.p.m ∣ 2 ^ n := hpp.not_dvd_pow (not_dvd_small (by decide) (by have := ok.twice; have := ok.odd; omega)) n
end
end Go.Proofs.Ytjmeakfjfpnciaa
namespace Go.Proofs.Ytjmeakfjfpnciaa
open Go.RowKit
end Go.Proofs.Ytjmeakfjfpnciaa
namespace Go.Proofs.Ytjmeakfjfpnciaa
open Go.RowKit
end Go.Proofs.Ytjmeakfjfpnciaa
namespace Go.Proofs.Ytjmeakfjfpnciaa
open Go.RowKit
end Go.Proofs.Ytjmeakfjfpnciaa
namespace Go.Proofs.Ytjmeakfjfpnciaa
open Go.RowKit
end Go.Proofs.Ytjmeakfjfpnciaa
namespace Go.Proofs.Ytjmeakfjfpnciaa
open Go.RowKit
end Go.Proofs.Ytjmeakfjfpnciaa
namespace Go.Proofs.Ytjmeakfjfpnciaa
open Go.RowKit
end Go.Proofs.Ytjmeakfjfpnciaa
namespace Go.Proofs.Ytjmeakfjfpnciaa
open Go.RowKit
end Go.Proofs.Ytjmeakfjfpnciaa
namespace Go.Proofs.Ytjmeakfjfpnciaa
open Go.RowKit
end Go.Proofs.Ytjmeakfjfpnciaa
namespace Go.Proofs.Ytjmeakfjfpnciaa
open Go.RowKit
end Go.Proofs.Ytjmeakfjfpnciaa
namespace Go.Proofs.Ytjmeakfjfpnciaa
open Go.RowKit
end Go.Proofs.Ytjmeakfjfpnciaa
namespace Go.Proofs.Ytjmeakfjfpnciaa
open Go.RowKit
theorem T_isEl {k : Nat} (h1 : 1 ≤ k) (h3 : k ≤ 3) {x : Nat} (h : ¬ (grp k).p.m ∣ x) : isEl (grp k).q.m (grp k).size (textS (lowN (grp k) x) (grp k).size) = true :=
 T_el (grp_ok k h1 h3) (grp_fits k h1 h3) (lowN_pos (grp_ok k h1 h3) (grp_prime_p k h1 h3) h) (lowN_le (grp_ok k h1 h3) x)
end Go.Proofs.Ytjmeakfjfpnciaa
namespace Go.Proofs.Ytjmeakfjfpnciaa
open Go.RowKit
end Go.Proofs.Ytjmeakfjfpnciaa
namespace Go.Proofs.Ytjmeakfjfpnciaa
open Go.RowKit
theorem pm_exp {q p a m n : Nat} (hpp : IsPrime p) (hp : p = 2 * q + 1) (h0 : 0 < a) (ha : a < p) (h : m % q = n % q) : PM p (a ^ m) (a ^ n) := by
 have h1 := pm_pow_mod hpp hp h0 ha m
 rw [h] at h1
 exact h1.symm.trans (pm_pow_mod hpp hp h0 ha n)
end Go.Proofs.Ytjmeakfjfpnciaa
namespace Go.Proofs.Ytjmeakfjfpnciaa
open Go.RowKit
def shV (G : GP) (f : Nat → Nat) (n : Nat) (x : Int) : Nat := hrN f (modI G.q.m x) n n % G.q.m
def shT (G : GP) (f : Nat → Nat) (n : Nat) (x : Int) : ByteArray := textS (shV G f n x) G.size
def snT (G : GP) (f : Nat → Nat) (n : Nat) (x : Int) : ByteArray := textS (lowN G (2 ^ shV G f n x)) G.size
theorem shrL_at (G : GP) (f : Nat → Nat) (n m : Nat) (i : Nat) (h : i < (shrL G f n m).length) : (shrL G f n m)[i] = shT G f n ((i : Int) + 1) := by
 have e := List.getElem_map (fun (x : Nat) => textS (hrN f (modI G.q.m ((x : Int) + 1)) n n % G.q.m) G.size) (l := List.range m) (i := i) (h := h)
 rw [List.getElem_range] at e
 exact e
theorem cmtL_at (G : GP) (f : Nat → Nat) (n : Nat) (i : Nat) (h : i < (cmtL G f n).length) : (cmtL G f n)[i] = textS (lowN G (2 ^ (f i % G.q.m))) G.size := by
 have e := List.getElem_map (fun k => textS (lowN G (2 ^ (f k % G.q.m))) G.size) (l := List.range n) (i := i) (h := h)
 rw [List.getElem_range] at e
 exact e
theorem shV_lt {G : GP} (ok : G.Ok) (f : Nat → Nat) (n : Nat) (x : Int) : shV G f n x < G.q.m := Nat.mod_lt _ ok.q.pos
def polI (f : Nat → Nat) : Nat → Int → Int
 | 0, _ => 0
 | k + 1, x => polI f k x + f k * x ^ k
theorem polI_nat (f : Nat → Nat) (X : Nat) : ∀ k, (polS f X k : Int) = polI f k (X : Int)
 | 0 => rfl
 | k + 1 => by
  show ((polS f X k + f k * X ^ k : Nat) : Int) = polI f k X + f k * (X : Int) ^ k
  rw [Int.natCast_add, Int.natCast_mul, Int.natCast_pow, polI_nat f X k]
theorem polI_cg {q : Int} (f : Nat → Nat) {x y : Int} (h : Cg q x y) : ∀ k, Cg q (polI f k x) (polI f k y)
 | 0 => Cg.refl _ _
 | k + 1 => (polI_cg f h k).add ((Cg.refl _ _).mul (h.pow k))
theorem deg_pow {q : Int} (c : Int) : ∀ k, Deg q (k + 1) (fun x => c * x ^ k)
 | 0 => (Deg.const c).congr fun x => Cg.of_eq (by simp)
 | k + 1 => (deg_pow c k).mulx.congr fun x => Cg.of_eq (by rw [Int.pow_succ, ← Int.mul_assoc, Int.mul_comm])
theorem polI_deg {q : Int} (f : Nat → Nat) : ∀ k, Deg q k (polI f k)
 | 0 => Deg.zero 0
 | k + 1 => ((polI_deg f k).up).add (deg_pow (f k) k)
theorem polI_zero (f : Nat → Nat) : ∀ k, polI f (k + 1) 0 = f 0
 | 0 => by show 0 + (f 0 : Int) * 0 ^ 0 = _; simp
 | k + 1 => by
  show polI f (k + 1) 0 + (f (k + 1) : Int) * 0 ^ (k + 1) = _
  rw [polI_zero f k, Int.pow_succ, Int.mul_zero, Int.mul_zero, Int.add_zero]
theorem shV_cg {G : GP} (ok : G.Ok) (f : Nat → Nat) (n : Nat) (x : Int) : Cg (G.q.m : Int) (shV G f n x : Int) (polI f n x) := by
 unfold shV
 rw [hr_full]
 refine (Cg.natmod _ _).trans ?_
 rw [polI_nat]
 exact polI_cg f (modI_cg _ ok.q.pos x) n
section
variable {k : Nat} (h1 : 1 ≤ k) (h3 : k ≤ 3)
include h1 h3
theorem pm_lowQ (m : Nat) : PM (grp k).p.m (2 ^ (m % (grp k).q.m)) (2 ^ m) := by
 have ok := grp_ok k h1 h3
 exact pm_exp (grp_prime_p k h1 h3) ok.twice (by decide) (by have := ok.odd; have := ok.twice; omega) (Nat.mod_mod _ _)
theorem sT_num (x : Nat) : numOf (textS (lowN (grp k) x) (grp k).size) = lowN (grp k) x := by
 have ok := grp_ok k h1 h3
 rw [numOf_textS, Nat.mod_eq_of_lt]
 have := grp_fits k h1 h3
 have := lowN_le ok x
 omega
theorem cmt_el (f : Nat → Nat) (n : Nat) : (cmtL (grp k) f n).all (isEl (grp k).q.m (grp k).size) = true := List.all_eq_true.2 fun s hs => by
 obtain ⟨i, hi, rfl⟩ := List.getElem_of_mem hs
 rw [cmtL_at]
 exact T_isEl h1 h3 (pow2_nd (grp_ok k h1 h3) (grp_prime_p k h1 h3) _)
theorem seen_pol (f : Nat → Nat) (n X : Nat) : ∀ j, j ≤ n → PM (grp k).p.m (prdS (comN (cmtL (grp k) f n)) X j) (2 ^ polS f X j)
 | 0, _ => PM.refl _ _
 | j + 1, h => by
  have hl : j < (cmtL (grp k) f n).length := by rw [cmtL_len]; omega
  show PM _ (prdS _ X j * comN (cmtL (grp k) f n) j ^ X ^ j) (2 ^ (polS f X j + f j * X ^ j))
  rw [comN_here hl, cmtL_at, sT_num h1 h3, Nat.pow_add, Nat.pow_mul]
  exact (seen_pol f n X j (by omega)).mul (((lowN_pm (grp_ok k h1 h3) _).trans (pm_lowQ h1 h3 (f j))).pow (X ^ j))
theorem seenS_share (f : Nat → Nat) (n : Nat) (hn0 : n ≠ 0) (hn16 : n ≤ 16) (x : Int) (hx : 0 ≤ x ∧ x ≤ 255) : seenE (grp k) (cmtL (grp k) f n) x = 0 ∧ seenS (grp k) (cmtL (grp k) f n) x = snT (grp k) f n x := by
 have he : seenE (grp k) (cmtL (grp k) f n) x = 0 := by
  unfold seenE
  rw [cmtL_len, if_neg (by omega), if_neg hn0, if_pos (cmt_el h1 h3 f n), if_neg (by omega)]
 refine ⟨he, ?_⟩
 unfold seenS snT shV
 rw [if_pos he, cmtL_len, see_full, Nat.mod_eq_of_lt (modI_lt _ (grp_ok k h1 h3).q.pos x), hr_full]
 congr 1
 exact lowN_eq (grp_ok k h1 h3) ((seen_pol h1 h3 f n _ n (Nat.le_refl _)).trans (pm_lowQ h1 h3 _).symm)
theorem fit_share (f : Nat → Nat) (n : Nat) (hn0 : n ≠ 0) (hn16 : n ≤ 16) (x : Int) (hx : 0 ≤ x ∧ x ≤ 255) : fitK (grp k) (cmtL (grp k) f n) x (shT (grp k) f n x) = true := by
 have ok := grp_ok k h1 h3
 obtain ⟨e1, e2⟩ := seenS_share h1 h3 f n hn0 hn16 x hx
 have hlt := shV_lt ok f n x
 unfold fitK
 rw [if_pos e1, e2]
 unfold shT snT
 rw [sc_textS ok hlt, num_textS ok hlt, Nat.mod_eq_of_lt hlt]
 simp
def shL (G : GP) (f : Nat → Nat) (n : Nat) (l : List Int) : List ByteArray := l.map (shT G f n)
def snL (G : GP) (f : Nat → Nat) (n : Nat) (l : List Int) : List ByteArray := l.map (snT G f n)
theorem shL_sc (f : Nat → Nat) (n : Nat) (l : List Int) : (shL (grp k) f n l).all (isSc (grp k).q.m (grp k).size) = true := List.all_eq_true.2 fun s hs => by
 unfold shL at hs
 obtain ⟨x, _, rfl⟩ := List.mem_map.1 hs
 exact sc_textS (grp_ok k h1 h3) (shV_lt (grp_ok k h1 h3) f n x)
theorem snL_el (f : Nat → Nat) (n : Nat) (l : List Int) : (snL (grp k) f n l).all (isEl (grp k).q.m (grp k).size) = true := List.all_eq_true.2 fun s hs => by
 unfold snL at hs
 obtain ⟨x, _, rfl⟩ := List.mem_map.1 hs
 exact T_isEl h1 h3 (pow2_nd (grp_ok k h1 h3) (grp_prime_p k h1 h3) _)
theorem share_errs (f : Nat → Nat) (n : Nat) (l : List Int) : thrE (grp k) l (shL (grp k) f n l) 0 = placesE l ∧ togE (grp k) l (snL (grp k) f n l) = placesE l := by
 have e1 : l.length = (shL (grp k) f n l).length := by simp [shL]
 have e2 : l.length = (snL (grp k) f n l).length := by simp [snL]
 unfold thrE togE readE
 rw [if_pos e1, if_pos (shL_sc h1 h3 f n l), if_pos e2, if_pos (snL_el h1 h3 f n l)]
 by_cases h : placesE l = 0
 ·rw [h]; exact ⟨by decide, rfl⟩
 ·rw [if_pos h, if_pos h]; exact ⟨rfl, rfl⟩
theorem valN_sh (f : Nat → Nat) (n : Nat) (l : List Int) (j : Nat) (h : j < l.length) : valN (shL (grp k) f n l) j = shV (grp k) f n l[j] := by
 have hj : j < (shL (grp k) f n l).length := by simpa [shL] using h
 rw [valN_here hj, show (shL (grp k) f n l)[j] = shT (grp k) f n l[j] from List.getElem_map ..]
 exact num_textS (grp_ok k h1 h3) (shV_lt (grp_ok k h1 h3) f n _)
theorem valN_sn (f : Nat → Nat) (n : Nat) (l : List Int) (j : Nat) (h : j < l.length) : valN (snL (grp k) f n l) j = lowN (grp k) (2 ^ shV (grp k) f n l[j]) := by
 have hj : j < (snL (grp k) f n l).length := by simpa [snL] using h
 rw [valN_here hj, show (snL (grp k) f n l)[j] = snT (grp k) f n l[j] from List.getElem_map ..]
 exact sT_num h1 h3 _
theorem share_val (f : Nat → Nat) (n : Nat) (hn0 : n ≠ 0) (l : List Int) (hz : placesE l = 0) (hnl : n ≤ l.length) : valAt (grp k).q.m l (valN (shL (grp k) f n l)) 0 = f 0 % (grp k).q.m := by
 have ok := grp_ok k h1 h3
 have hp := grp_prime_q k h1 h3
 have hq : 255 < (grp k).q.m := by have := ok.odd; omega
 obtain ⟨_, _, hl, hd⟩ := pl_zero hz
 have h2 := (valAt_cg (v := valN (shL (grp k) f n l)) (by omega) (grp_odd k h1 h3) hl 0 (by decide)).trans (lagr_uniq (prm_int hp) (one_nd hp) _ (fermat_int hp) l (dis_of hq hl hd) (fun j => (valN (shL (grp k) f n l) j : Int)) (polI_deg f n) hnl (fun j hj => by
  show Cg _ _ ((valN (shL (grp k) f n l) j : Nat) : Int)
  rw [valN_sh h1 h3 f n l j hj]
  exact (shV_cg ok f n _).symm) 0)
 obtain ⟨m, rfl⟩ : ∃ m, n = m + 1 := ⟨n - 1, by omega⟩
 rw [polI_zero] at h2
 have h4 := Cg.nat h2
 rwa [Nat.mod_eq_of_lt (valAt_lt (by omega) (fun e => by subst e; simp at hnl) _)] at h4
theorem tog_pow (f : Nat → Nat) (n : Nat) (l : List Int) : ∀ i, i ≤ l.length → PM (grp k).p.m (tgU (grp k).q.m l (valN (snL (grp k) f n l)) i) (2 ^ thU (grp k).q.m l (valN (shL (grp k) f n l)) 0 i)
 | 0, _ => PM.refl _ _
 | i + 1, h => by
  have ok := grp_ok k h1 h3
  show PM _ (tgU _ l _ i * valN (snL (grp k) f n l) i ^ (wtN (grp k).q.m l i 0 % (grp k).q.m)) (2 ^ (thU _ l _ 0 i + wtN (grp k).q.m l i 0 * valN (shL (grp k) f n l) i))
  rw [valN_sn h1 h3 f n l i (by omega), valN_sh h1 h3 f n l i (by omega), Nat.pow_add]
  refine (tog_pow f n l i (by omega)).mul (((lowN_pm ok _).pow _).trans ?_)
  rw [← Nat.pow_mul]
  exact pm_exp (grp_prime_p k h1 h3) ok.twice (by decide) (by have := ok.odd; have := ok.twice; omega) (by rw [Nat.mul_mod, Nat.mod_mod, ← Nat.mul_mod, Nat.mul_comm])
theorem share_join (f : Nat → Nat) (n : Nat) (hn0 : n ≠ 0) (l : List Int) (hz : placesE l = 0) (hnl : n ≤ l.length) : thrS (grp k) l (shL (grp k) f n l) 0 = textS (f 0 % (grp k).q.m) (grp k).size ∧ togS (grp k) l (snL (grp k) f n l) = textS (lowN (grp k) (2 ^ (f 0 % (grp k).q.m))) (grp k).size := by
 have ok := grp_ok k h1 h3
 obtain ⟨e1, e2⟩ := share_errs h1 h3 f n l
 obtain ⟨_, _, hl, _⟩ := pl_zero hz
 have hv := share_val h1 h3 f n hn0 l hz hnl
 unfold valAt at hv
 refine ⟨by unfold thrS; rw [if_pos (e1.trans hz), hv], ?_⟩
 unfold togS
 rw [if_pos (e2.trans hz)]
 congr 1
 refine lowN_eq ok ((tog_pow h1 h3 f n l l.length (Nat.le_refl _)).trans ((pm_lowQ h1 h3 _).symm.trans ?_))
 rw [th_eq (grp k).q.m (by have := ok.odd; omega) (grp_odd k h1 h3) l hl _ 0 (by decide) l.length (Nat.le_refl _), hv]
 exact PM.refl _ _
end
end Go.Proofs.Ytjmeakfjfpnciaa
namespace Go.Proofs.Ytjmeakfjfpnciaa
open Go.RowKit
theorem together_some (k : Nat) (h1 : 1 ≤ k) (h3 : k ≤ 3) (l : List Int) (n : Nat) (hn : l.length = n) (hnm : n ≤ 1152921504606846975) (xs : List ByteArray) (m : Nat) (hm : xs.length = m) (al ax : Option Addr) (cl cx : Nat) (w : World) (hL : Sl w w.heap.size al (l.map intV)) (hX : Sl w w.heap.size ax (xs.map Value.string)) :
  Calls Try.prog 21 #[.int .i64 (k : Int), .slice al n cl, .slice ax m cx] w (Gives (.tuple #[.string (togS (grp k) l xs), .int .i64 (togE (grp k) l xs : Int)]) w) := by
 unfold Gives
 have OK := Lib.hid (grp_ok k h1 h3)
 have HL := Lib.hid hL
 have HRD := Lib.hid (fun W h g => readEl_some k h1 h3 l n hn hnm xs m hm 7 (by decide) al ax cl cx W h g)
 have HX := Lib.hid hX
 obtain ⟨er, hz⟩ : ∃ z, togE (grp k) l xs = z := ⟨_, rfl⟩
 obtain ⟨sr, hsr⟩ : ∃ z, togS (grp k) l xs = z := ⟨_, rfl⟩
 rw [hz, hsr]
 unfold togS at hsr
 rw [hz] at hsr
 unfold togE at hz
 have hR0 := readE_zero (f := isEl (grp k).q.m (grp k).size) (bad := 7) (by decide) (l := l) (xs := xs)
 rw [hz] at hR0 HRD
 unfold ReadQ at HRD
 clear hz hL hX h1 h3
 by_cases hz0 : er = 0
 case neg =>
  have hd : ((er : Int) != 0) = true := by simp; omega
  obtain rfl : sr = ⟨#[]⟩ := by rw [← hsr, if_neg hz0]
  clear hz0 hsr hR0 hn hm hnm
  go_enter Try.func21, Try.ntmps21
  go_wp2_with fail
  refine (HRD.out w HL.out HX.out).mono ?_
  rintro e w1 ⟨hb9, p, v, rfl, hx9⟩
  have HB := Lib.hid hb9
  have HZS := Lib.hid hb9.size
  clear hb9
  go_wp2_with fail
  go_ret2
  exact ⟨rfl, HB.out⟩
 subst hz0
 have hd : ((((0 : Nat) : Int)) != 0) = false := by simp
 rw [if_pos rfl] at hsr
 obtain ⟨hpl, hlm, hall⟩ := hR0 rfl
 obtain ⟨h16, h0, hok, hnd⟩ := pl_zero hpl
 obtain rfl : m = n := by omega
 have HW := Lib.hid (fun gb a c W h g => weights_any (grp k) OK.out gb l m hn (by omega) hok 0 (by decide) a c W h g)
 unfold WtR at HW
 rw [hn] at HW hsr
 have HVN := Lib.hid (fun i (hi : i < xs.length) => valN_here hi)
 have HM := Lib.hid hm
 have HSR := Lib.hid hsr
 have hm16 : m ≤ 16 := by omega
 clear hsr hn hm hnm hpl hlm hall h16 h0 hok hnd hR0
 go_enter Try.func21, Try.ntmps21
 go_wp2_with fail
 refine (HRD.out w HL.out HX.out).mono ?_
 rintro e w1 ⟨hb9, p, v, rfl, hx9⟩
 have HB := Lib.hid hb9
 have HZS := Lib.hid hb9.size
 have HRK := Lib.hid hx9
 clear hx9 hb9
 obtain ⟨gb, a, c, rfl, rfl, hg9, hs9, _⟩ := HRK.out (by simp)
 rw [HM.out]
 have HG := Lib.hid hg9
 have HS := Lib.hid hs9
 clear hg9 hs9 HRK
 have BS := Lib.hid (Below.refl w1.heap.size w1)
 have HGL := Lib.hid HG.out.lt
 replace HZS := sz HZS HGL.out
 go_wp2_with fail
 refine (gOne_any (grp k) OK.out gb w1 HG.out).mono ?_
 rintro e w2 ⟨rfl, hb9⟩
 replace HG := Lib.hid (HG.out.up hb9)
 replace BS := hbu BS hb9
 replace HB := hbu HB hb9
 replace HZS := sz HZS hb9.size
 clear hb9
 unfold elV limbV
 obtain ⟨w3, hq3, hb9, hz9, Hsm⟩ := new1 w2 117 [.int .u64 (dig (mont (grp k).p.m 1) 0 : Int), .int .u64 (dig (mont (grp k).p.m 1) 1 : Int), .int .u64 (dig (mont (grp k).p.m 1) 2 : Int), .int .u64 (dig (mont (grp k).p.m 1) 3 : Int)]
 replace HG := Lib.hid (HG.out.up hb9)
 replace BS := hbu BS hb9
 replace HB := hbu HB hb9
 replace HZS := sz HZS hz9.out
 clear hb9 hz9
 have sm_ := Hsm.out.c4
 go_wp2_with fail
 clear hq3
 refine (HW.out gb al cl w3 HG.out (HL.out.up HB.out)).mono ?_
 rintro e w4 ⟨hb9, aw, cw, rfl, hx9, hf9⟩
 clear sm_
 replace Hsm := Lib.hid (Hsm.out.up hb9)
 replace HG := Lib.hid (HG.out.up hb9)
 replace BS := hbu BS hb9
 replace HB := hbu HB hb9
 replace HZS := sz HZS hb9.size
 have HWS := Lib.hid hx9
 clear hx9
 have HWF := Lib.hid hf9
 clear hf9 hb9
 have sm_ := Hsm.out.c4
 have HSX := Lib.hid (HS.out.up BS.out)
 have HSL := Lib.hid (fun y (hy : a = some y) (hne : xs.flatMap (limC (grp k).p.m) ≠ []) => HS.out.lt hne y hy)
 clear BS HS
 have HKS := Lib.hid (Kept.refl (fun q9 => q9 = w2.heap.size) w4)
 have HB0 := HB
 have HG0 := HG
 have HZK := HZS
 go_wp2_with fail
 go_loopw [31] (fun i wr => ∃ j : Nat, j ≤ m ∧ i = .int .i64 j ∧ Hid (Kept (fun q9 => q9 = w2.heap.size) w4 wr) ∧ Hid (Bx wr w2.heap.size 117 (lim4 (grp k).p.m (tgU (grp k).q.m l (valN xs) j)))) (fun i _ => m - (intOf i).toNat)
 case atStart => exact ⟨0, Nat.zero_le _, rfl, HKS, Hsm⟩
 case round =>
  clear Hsm HB HG HZS HKS
  obtain ⟨j, hj, rfl, HK, Hsm⟩ := hrel
  have HSZ := Lib.hid (show w.heap.size ≤ w2.heap.size ∧ w2.heap.size < w4.heap.size ∧ w4.heap.size ≤ wr.heap.size ∧ gb < w1.heap.size ∧ w2.heap.size < w3.heap.size ∧ w1.heap.size ≤ w2.heap.size from ⟨by have := HZK.out; omega, by have := HZK.out; omega, HK.out.size, HGL.out, by have := HZK.out; omega, by have := HZK.out; omega⟩)
  have HB := Lib.hid (Below.keptP HB0.out HK.out (by have := HSZ.out; omega) (fun q9 h9 => (show w.heap.size ≤ _ by subst h9; have := HSZ.out; omega)))
  have HGP := Lib.hid (HG0.out.keptP HK.out (show ¬ (gb = w2.heap.size) by have := HSZ.out; omega))
  have HW1 := Lib.hid (HWS.out.kept HK.out (fun y hy hq => by have := HWF.out y hy; have := HSZ.out; have hq : y.block = w2.heap.size := hq; omega))
  by_cases hjm : j < m
  ·have hjx : j < xs.length := by rw [HM.out]; exact hjm
   have HX1 := Lib.hid (HSX.out.kept HK.out (fun y hy hq => by have := HSL.out y hy (flat_ne (limC_len _) (by omega) (by rw [← List.length_pos_iff]; omega)); have hs := HSZ.out; have hq : y.block = w2.heap.size := hq; omega))
   have HW2 := Lib.hid (show Sl wr wr.heap.size aw ((List.range m).flatMap fun i => lim4 (grp k).q.m (wtN (grp k).q.m l i 0)) from HW1.out)
   obtain ⟨bw, ow, rfl, hbw⟩ := HW2.out.adr (flat_ne (fun i => lim4_len _ _) (by omega) (by rw [← List.length_pos_iff, List.length_range]; omega))
   obtain ⟨bv, ov, rfl, hbv⟩ := HX1.out.adr (flat_ne (limC_len _) (by omega) (by rw [← List.length_pos_iff]; omega))
   have hcw := (HW2.out.elemS (fun i => lim4_len _ _) (by omega) j (by simpa using hjm)).2
   rw [List.getElem_range] at hcw
   have hcv := (HX1.out.elemS (limC_len _) (by omega) j hjx).2
   have hcw_0 := hcw 0 _ rfl
   rw [Nat.add_zero] at hcw_0
   have hcw_1 := hcw 1 _ rfl
   have hcw_2 := hcw 2 _ rfl
   have hcw_3 := hcw 3 _ rfl
   clear hcw
   have hcv_0 := hcv 0 _ rfl
   rw [Nat.add_zero] at hcv_0
   have hcv_1 := hcv 1 _ rfl
   have hcv_2 := hcv 2 _ rfl
   have hcv_3 := hcv 3 _ rfl
   clear hcv
   have HVJ := Lib.hid (HVN.out j hjx)
   generalize xs[j] = v at *
   have HTS := Lib.hid (show tgU (grp k).q.m l (valN xs) (j + 1) = tgU (grp k).q.m l (valN xs) j * numOf v ^ (wtN (grp k).q.m l j 0 % (grp k).q.m) by rw [← HVJ.out]; rfl)
   generalize tgU (grp k).q.m l (valN xs) j = th at *
   generalize wtN (grp k).q.m l j 0 = wt at *
   have HBV := Lib.hid hbv
   replace Hsm := Lib.hid (show Bx wr w2.heap.size 117 [.int .u64 (dig (mont (grp k).p.m th) 0 : Int), .int .u64 (dig (mont (grp k).p.m th) 1 : Int), .int .u64 (dig (mont (grp k).p.m th) 2 : Int), .int .u64 (dig (mont (grp k).p.m th) 3 : Int)] from Hsm.out)
   have HZS := HSZ
   replace HZS := sz HZS HBV.out
   have sm_ := Hsm.out.c4
   have HCV := Lib.hid (fun (W : World) (h : Below wr.heap.size wr W) => And.intro ((h.cell (p := ⟨bv, ov + j * 4, none⟩) hbv).trans hcv_0) (And.intro ((h.cell (p := ⟨bv, ov + j * 4 + 1, none⟩) hbv).trans hcv_1) (And.intro ((h.cell (p := ⟨bv, ov + j * 4 + 2, none⟩) hbv).trans hcv_2) ((h.cell (p := ⟨bv, ov + j * 4 + 3, none⟩) hbv).trans hcv_3))))
   clear hcv_0 hcv_1 hcv_2 hcv_3 hbv
   have BV := Lib.hid (Below.refl wr.heap.size wr)
   have o5_sm_ := sm_; clear sm_
   obtain ⟨w5, hq5, hb9, hz9, Hwb⟩ := new1 wr 98 [.int .u64 (dig (mont (grp k).q.m wt) 0 : Int), .int .u64 (dig (mont (grp k).q.m wt) 1 : Int), .int .u64 (dig (mont (grp k).q.m wt) 2 : Int), .int .u64 (dig (mont (grp k).q.m wt) 3 : Int)]
   replace Hsm := Lib.hid (Hsm.out.up hb9)
   replace HGP := Lib.hid (HGP.out.up hb9)
   replace BV := hbu BV hb9
   replace HK := Lib.hid (Kept.up HK.out hb9)
   replace HB := hbu HB hb9
   replace HZS := sz HZS hz9.out
   clear hb9 hz9
   have sm_ := Hsm.out.c4
   have wb_ := Hwb.out.c4
   go_wp2_with fail
   clear hq5 o5_sm_ hcw_0 hcw_1 hcw_2 hcw_3 hbw
   have hcv := HCV.out _ BV.out
   have hbv := Nat.lt_of_lt_of_le HBV.out BV.out.size
   have HT := Lib.hid (show Below w5.heap.size w5 w5.drew from (Below.refl _ _).drew)
   have hl_sm := Hsm.out.lt
   have hl_wb := Hwb.out.lt
   refine wp_region_treek (fun wq9 => ∃ E : Over w5, wq9 = E.w) 10 ((.qs [0] (.e 1 [] (.qs [2, 3, 4, 5] (.e 6 [] (.e 7 [] (.a 8 (.a 9 (.a 10 .done))))))))) (by kernel_rfl) (by kernel_rfl) (fun _ _ d _ _ h => by cases d <;> exact h) ⟨⟨_, HT.out⟩, rfl⟩ ?_
   have hov_sm := fun (E : Over w5) o => E.cell (b := w2.heap.size) o hl_sm
   have hov_wb := fun (E : Over w5) o => E.cell (b := wr.heap.size) o hl_wb
   have hov_bv := fun (E : Over w5) o => E.cell (b := bv) o hbv
   simp only [TreeK.qs]
   repeat (first | (refine treek_q rfl rfl ?_; go_big_quiet_step (fail); refine wpQuiet_nil ?_) | (refine treek_e rfl rfl ?_; go_big_quiet_step (fail); refine wpQuiet_nil ?_))
   refine treek_a rfl (fun K hK => ?_)
   go_simp
   refine (gPower_any (grp k) OK.out gb (numOf v) wt _ (HGP.out.up HT.out)).mono ?_
   rintro e w6 ⟨rfl, hb9⟩
   replace HT := Lib.hid (below_up HT.out hb9)
   replace HZS := sz HZS (show w5.heap.size ≤ w6.heap.size from HT.out.size)
   clear hb9
   refine hK _ _ ⟨fun _ => ⟨⟨w6, HT.out⟩, rfl⟩, ?_⟩
   clear hK K
   repeat (first | (refine treek_q rfl rfl ?_; go_big_quiet_step (fail); refine wpQuiet_nil ?_) | (refine treek_e rfl rfl ?_; go_big_quiet_step (fail); refine wpQuiet_nil ?_))
   refine treek_a rfl (fun K hK => ?_)
   go_simp
   refine (gTimes_any (grp k) OK.out gb th (numOf v ^ (wt % (grp k).q.m)) _ (HGP.out.up HT.out)).mono ?_
   rintro e w7 ⟨rfl, hb9⟩
   replace HT := Lib.hid (below_up HT.out hb9)
   replace HZS := sz HZS (show w5.heap.size ≤ w7.heap.size from HT.out.size)
   clear hb9
   unfold elV limbV
   refine hK _ _ ⟨fun _ => ⟨⟨w7, HT.out⟩, rfl⟩, ?_⟩
   clear hK K
   repeat (first | (refine treek_q rfl rfl ?_; go_big_quiet_step (fail); refine wpQuiet_nil ?_) | (refine treek_e rfl rfl ?_; go_big_quiet_step (fail); refine wpQuiet_nil ?_))
   clear hov_sm hl_sm hov_wb hl_wb hov_bv
   refine treek_a rfl (fun K hK => ?_)
   clear sm_
   replace Hsm := Lib.hid (Hsm.out.up HT.out)
   clear wb_
   replace Hwb := Lib.hid (Hwb.out.up HT.out)
   replace HGP := Lib.hid (HGP.out.up HT.out)
   replace HK := Lib.hid (Kept.up HK.out HT.out)
   replace HB := hbu HB HT.out
   replace HZS := sz HZS HT.out.size
   clear HT
   have sm_ := Hsm.out.c4
   have wb_ := Hwb.out.c4
   have f8_sm := Hsm.out.frozen
   have o8_sm_ := sm_; clear sm_
   have o8_wb_ := wb_; clear wb_
   obtain ⟨w8, hq8, hg9, hz9, hx9⟩ := put4 Hsm 0 (.int .u64 (dig (mont (grp k).p.m (th * numOf v ^ (wt % (grp k).q.m))) 0 : Int)) 1 (.int .u64 (dig (mont (grp k).p.m (th * numOf v ^ (wt % (grp k).q.m))) 1 : Int)) 2 (.int .u64 (dig (mont (grp k).p.m (th * numOf v ^ (wt % (grp k).q.m))) 2 : Int)) 3 (.int .u64 (dig (mont (grp k).p.m (th * numOf v ^ (wt % (grp k).q.m))) 3 : Int)) [.int .u64 (dig (mont (grp k).p.m (th * numOf v ^ (wt % (grp k).q.m))) 0 : Int), .int .u64 (dig (mont (grp k).p.m (th * numOf v ^ (wt % (grp k).q.m))) 1 : Int), .int .u64 (dig (mont (grp k).p.m (th * numOf v ^ (wt % (grp k).q.m))) 2 : Int), .int .u64 (dig (mont (grp k).p.m (th * numOf v ^ (wt % (grp k).q.m))) 3 : Int)] rfl
   replace Hwb := Lib.hid (Hwb.out.grown hg9.out (sne (by have g0 := HZS.out; omega)))
   replace HGP := Lib.hid (HGP.out.grown hg9.out (sne (by have g0 := HZS.out; omega)))
   replace HK := Lib.hid (Kept.grown HK.out hg9.out (fun q9 e9 => by obtain rfl := Option.some.inj e9; exact Or.inr (rfl)))
   replace HB := hbg HB hg9 (by have g0 := HZS.out; omega)
   replace HZS := sz HZS hz9.out
   replace Hsm := hx9
   clear hx9 hg9 hz9
   have sm_ := Hsm.out.c4
   have wb_ := Hwb.out.c4
   go_simp
   try rw [hq8]
   refine hK _ _ ⟨fun h9 => absurd rfl h9, ?_⟩
   clear hK K hq8 o8_wb_ o8_sm_ f8_sm
   repeat (first | (refine treek_q rfl rfl ?_; go_big_quiet_step (fail); refine wpQuiet_nil ?_) | (refine treek_e rfl rfl ?_; go_big_quiet_step (fail); refine wpQuiet_nil ?_))
   refine treek_end ?_
   go_wp2_with fail
   go_roundw
   case rel => exact ⟨j + 1, by omega, by go_num, HK, by rw [HTS.out]; exact Hsm⟩
   case measure => simp [intOf]; omega
  ·have hjm' : j = m := by omega
   subst hjm'
   have hsm := HSR.out
   generalize tgU (grp k).q.m l (valN xs) j = th at *
   replace Hsm := Lib.hid (show Bx wr w2.heap.size 117 [.int .u64 (dig (mont (grp k).p.m th) 0 : Int), .int .u64 (dig (mont (grp k).p.m th) 1 : Int), .int .u64 (dig (mont (grp k).p.m th) 2 : Int), .int .u64 (dig (mont (grp k).p.m th) 3 : Int)] from Hsm.out)
   have HZS := HSZ
   have sm_ := Hsm.out.c4
   go_wp2_with fail
   refine (gText_any (grp k) OK.out gb th wr HGP.out).mono ?_
   rintro e w5 ⟨rfl, hb9⟩
   clear sm_
   replace Hsm := Lib.hid (Hsm.out.up hb9)
   replace HGP := Lib.hid (HGP.out.up hb9)
   replace HB := hbu HB hb9
   replace HZS := sz HZS hb9.size
   clear hb9
   have sm_ := Hsm.out.c4
   rw [hsm]
   go_wp2_with fail
   go_ret2
   exact ⟨rfl, HB.out⟩
end Go.Proofs.Ytjmeakfjfpnciaa
namespace Go.Proofs.Ytjmeakfjfpnciaa
open Go.RowKit Go.Lib
end Go.Proofs.Ytjmeakfjfpnciaa
namespace Go.Proofs.Ytjmeakfjfpnciaa
open Go.RowKit
end Go.Proofs.Ytjmeakfjfpnciaa
namespace Go.Proofs.Ytjmeakfjfpnciaa
open Go.RowKit
end Go.Proofs.Ytjmeakfjfpnciaa
namespace Go.Proofs.Ytjmeakfjfpnciaa
open Go.RowKit Go.Lib
end Go.Proofs.Ytjmeakfjfpnciaa
namespace Go.Proofs.Ytjmeakfjfpnciaa
open Go.RowKit
end Go.Proofs.Ytjmeakfjfpnciaa
namespace Go.Proofs.Ytjmeakfjfpnciaa
open Go.RowKit
end Go.Proofs.Ytjmeakfjfpnciaa
namespace Go.Proofs.Ytjmeakfjfpnciaa
open Go.RowKit
end Go.Proofs.Ytjmeakfjfpnciaa
namespace Go.Proofs.Ytjmeakfjfpnciaa
open Go.RowKit
end Go.Proofs.Ytjmeakfjfpnciaa
namespace Go.Proofs.Ytjmeakfjfpnciaa
open Go.RowKit
end Go.Proofs.Ytjmeakfjfpnciaa
namespace Go.Proofs.Ytjmeakfjfpnciaa
open Go.RowKit
end Go.Proofs.Ytjmeakfjfpnciaa
namespace Go.Proofs.Ytjmeakfjfpnciaa
open Go.RowKit
end Go.Proofs.Ytjmeakfjfpnciaa
namespace Go.Proofs.Ytjmeakfjfpnciaa
open Go.RowKit
end Go.Proofs.Ytjmeakfjfpnciaa
namespace Go.Proofs.Ytjmeakfjfpnciaa
open Go.RowKit
def strE (e : Int) : Value := .tuple #[.string ⟨#[]⟩, .int .i64 e]
end Go.Proofs.Ytjmeakfjfpnciaa
namespace Go.Proofs.Ytjmeakfjfpnciaa
open Go.RowKit
end Go.Proofs.Ytjmeakfjfpnciaa
