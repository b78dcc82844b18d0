/- SigmaHides: each challenge and answers come of just one choice of nonces. No condition. -/
import Derived.Test.YtipgjookfdkciaaZSigmaHides3

set_option maxRecDepth 100000
set_option maxHeartbeats 4000000
set_option linter.unusedVariables false
set_option linter.unusedSimpArgs false
namespace Go.Proofs.Ytipgjookfdkciaa
open Go.RowKit
structure ClaimB where
 bb : Nat
 ib : Nat
 s : ByteArray
 t : ByteArray
 u : ByteArray
 v : ByteArray
def ClaimB.a (c : ClaimB) : ClaimA := ⟨some ⟨c.bb, 0, none⟩, 2, [c.s, c.t], some ⟨c.ib, 0, none⟩, 2, [c.u, c.v]⟩
def ClaimB.x (c : ClaimB) : ByteArray × ByteArray × ByteArray × ByteArray := (c.s, c.t, c.u, c.v)
def ClaimB.cells (c : ClaimB) : List Value := [.slice (some ⟨c.bb, 0, none⟩) 2 2, .slice (some ⟨c.ib, 0, none⟩) 2 2]
structure ClaimB.At (w : World) (c : ClaimB) : Prop where
 b : Bx w c.bb 9 [.string c.s, .string c.t]
 i : Bx w c.ib 9 [.string c.u, .string c.v]
def ClaimsOff (v : Value) (N : Nat) (w : World) (cs : List ClaimB) : Prop := ∀ c ∈ cs, c.At w ∧ N ≤ c.bb ∧ N ≤ c.ib ∧ c.bb ≠ c.ib ∧ v.ownBlock ≠ some c.bb ∧ v.ownBlock ≠ some c.ib
theorem ClaimB.At.up {w w1 : World} {c : ClaimB} (h : c.At w) (hb : Below w.heap.size w w1) : c.At w1 := ⟨h.b.up hb, h.i.up hb⟩
theorem ClaimsOff.up {v : Value} {N : Nat} {w w1 : World} {cs : List ClaimB} (h : ClaimsOff v N w cs) (hb : Below w.heap.size w w1) : ClaimsOff v N w1 cs := fun c hc =>
 let ⟨h1, h2⟩ := h c hc
 ⟨h1.up hb, h2⟩
theorem ClaimsOff.push {v : Value} {N g n c : Nat} {w w1 : World} {cs : List ClaimB} {r : ClaimB} (h : ClaimsOff v N w cs) (hr : ClaimsOff v N w [r]) (hk : Kept (fun q => Value.ownBlock v = some q) w w1) (hf : Value.ownBlock v = some g ∨ w.heap.size ≤ g) : ClaimsOff (.slice (some ⟨g, 0, none⟩) n c) N w1 (cs ++ [r]) := fun s hs => by
 obtain ⟨h1, h2, h3, h4, h5, h6⟩ : s.At w ∧ N ≤ s.bb ∧ N ≤ s.ib ∧ s.bb ≠ s.ib ∧ v.ownBlock ≠ some s.bb ∧ v.ownBlock ≠ some s.ib := by
  rcases List.mem_append.1 hs with h9 | h9
  ·exact h s h9
  ·exact hr s h9
 have key : ∀ b, b < w.heap.size → v.ownBlock ≠ some b → (Value.slice (some ⟨g, 0, none⟩) n c).ownBlock ≠ some b := fun b hl hv e => by
  have e9 : g = b := Option.some.inj e
  rcases hf with hf | hf
  ·exact hv (by rw [hf, e9])
  ·omega
 exact ⟨⟨h1.b.keptP hk h5, h1.i.keptP hk h6⟩, h2, h3, h4, key _ h1.b.lt h5, key _ h1.i.lt h6⟩
theorem ClaimB.At.full {w : World} {c : ClaimB} (h : c.At w) : c.a.At w := by
 have key : ∀ (b : Nat) (s t : ByteArray), Bx w b 9 [.string s, .string t] → Sl w w.heap.size (some ⟨b, 0, none⟩) ([s, t].map Value.string) := fun b s t hb => Sl.of_bx hb
 exact ⟨key _ _ _ h.b, key _ _ _ h.i⟩
theorem made_cells (cs : List ClaimB) : (cs.map ClaimB.a).flatMap ClaimA.cells = cs.flatMap ClaimB.cells := by
 induction cs with
 | nil => rfl
 | cons c r ih => rw [List.map_cons, List.flatMap_cons, List.flatMap_cons, ih]; rfl
def madeT (G : GP) (o x : ByteArray) : ByteArray × ByteArray × ByteArray × ByteArray := (textS 2 G.size, o, textS (lowN G (2 ^ numOf x)) G.size, textS (lowN G (numOf o ^ numOf x)) G.size)
def MadeR (z : Bool) (L : List (ByteArray × ByteArray × ByteArray × ByteArray)) (w : World) (e : Ending) (w' : World) : Prop :=
 Below w.heap.size w w' ∧ ∃ (a : Option Addr) (c : Nat) (cs : List ClaimB), e = .returned (.slice a L.length c) ∧ cs.map ClaimB.x = L ∧ Sl w' w'.heap.size a (cs.flatMap ClaimB.cells) ∧ ClaimsOff (.slice a L.length c) w.heap.size w' cs ∧ (∀ x, a = some x → w.heap.size ≤ x.block) ∧ (z = true → a = none)
theorem infoClaimA : (Try.prog.info? 70).map (fun i => (i.zero, i.size, i.bytes)) = some (some (.agg #[.slice none 0 0, .slice none 0 0]), 2, 48) := by kernel_rfl
theorem madeR_none {z : Bool} {w w' : World} (h : Below w.heap.size w w') : MadeR z [] w (.returned (.slice none 0 0)) w' := ⟨h, none, 0, [], rfl, rfl, Or.inl rfl, (fun _ h => by cases h), (fun _ h => by cases h), fun _ => rfl⟩
theorem MadeR.weak {z : Bool} {L : List (ByteArray × ByteArray × ByteArray × ByteArray)} {w w' : World} {e : Ending} (h : MadeR z L w e w') : MadeR false L w e w' :=
 let ⟨h1, a, c, cs, h2, h3, h4, h5, h6, _⟩ := h
 ⟨h1, a, c, cs, h2, h3, h4, h5, h6, fun h => by cases h⟩
theorem grp2 {k : Nat} (h1 : 1 ≤ k) (h3 : k ≤ 3) : isEl (grp k).q.m (grp k).size (textS 2 (grp k).size) = true ∧ numOf (textS 2 (grp k).size) = 2 := by
 have ok := grp_ok k h1 h3
 have := ok.odd
 exact ⟨T_el ok (grp_fits k h1 h3) (by decide) (by omega), T_num ok (by omega) (grp_fits k h1 h3)⟩
theorem powA {k : Nat} {a x : ByteArray} (ha : isEl (grp k).q.m (grp k).size a = true) (hx : isSc (grp k).q.m (grp k).size x = true) : powV (grp k) a x = textS (lowN (grp k) (numOf a ^ numOf x)) (grp k).size ∧ powE (grp k) a x = 0 := by
 unfold powV powE
 rw [ha, hx]
 exact ⟨rfl, rfl⟩
theorem powB {k : Nat} {a x : ByteArray} (ha : isEl (grp k).q.m (grp k).size a = true) (hx : isSc (grp k).q.m (grp k).size x = false) : powE (grp k) a x = 6 := by
 unfold powE
 rw [ha, hx]
 rfl
theorem made_none (k : Int) (hk : ¬ (1 ≤ k ∧ k ≤ 3)) (o : ByteArray) (v : Value) (w : World) : Calls Try.prog 54 #[.int .i64 k, .string o, v] w (MadeR true [] w) := by
 have HB0 := Lib.hid (fun w => Base_none k hk w)
 clear hk
 go_enter Try.func54, Try.ntmps54
 go_wp2_with fail
 refine (HB0.out w).mono ?_
 rintro e w1 ⟨rfl, hb9⟩
 have HB := Lib.hid hb9
 have HZS := Lib.hid hb9.size
 clear hb9
 go_wp2_with fail
 go_ret
 exact madeR_none HB.out
theorem made_elem (k : Nat) (h1 : 1 ≤ k) (h3 : k ≤ 3) (o : ByteArray) (ho : isEl (grp k).q.m (grp k).size o = false) (v : Value) (w : World) : Calls Try.prog 54 #[.int .i64 (k : Int), .string o, v] w (MadeR true [] w) := by
 have HB0 := Lib.hid (fun w => Base_some k h1 h3 w)
 have hm := fun w => Member_some k h1 h3 o w
 rw [ho] at hm
 have HM := Lib.hid hm
 clear hm ho
 go_enter Try.func54, Try.ntmps54
 go_wp2_with fail
 refine (HB0.out w).mono ?_
 rintro e w1 ⟨rfl, hb9⟩
 have HB := Lib.hid hb9
 have HZS := Lib.hid hb9.size
 clear hb9
 go_wp2_with fail
 refine (HM.out w1).mono ?_
 rintro e w2 ⟨rfl, hb9⟩
 replace HB := hbu HB hb9
 replace HZS := sz HZS hb9.size
 clear hb9
 go_wp2_with fail
 go_ret
 exact madeR_none HB.out
theorem made_some (k : Nat) (h1 : 1 ≤ k) (h3 : k ≤ 3) (o : ByteArray) (ho : isEl (grp k).q.m (grp k).size o = true) (xs : List ByteArray) (n : Nat) (hxn : xs.length = n) (ax : Option Addr) (cx : Nat) (hn : n ≤ 1000000000000) (b : Bool) (hb : xs.all (isSc (grp k).q.m (grp k).size) = b) (w : World) (hX : Sl w w.heap.size ax (xs.map Value.string)) :
  Calls Try.prog 54 #[.int .i64 (k : Int), .string o, .slice ax n cx] w (MadeR (!b) (if b = true then xs.map (madeT (grp k) o) else []) w) := by
 have HB0 := Lib.hid (fun w => Base_some k h1 h3 w)
 have hm := fun w => Member_some k h1 h3 o w
 rw [ho] at hm
 have HM := Lib.hid hm
 have HP1 := Lib.hid (fun x (hx : isSc (grp k).q.m (grp k).size x = true) w => by
  have h := Power_some k h1 h3 (textS 2 (grp k).size) x w
  rw [(powA (grp2 h1 h3).1 hx).1, (powA (grp2 h1 h3).1 hx).2, (grp2 h1 h3).2] at h
  exact h)
 have HP2 := Lib.hid (fun x (hx : isSc (grp k).q.m (grp k).size x = true) w => by
  have h := Power_some k h1 h3 o x w
  rw [(powA ho hx).1, (powA ho hx).2] at h
  exact h)
 have HP3 := Lib.hid (fun x (hx : isSc (grp k).q.m (grp k).size x = false) w => by
  have h := Power_some k h1 h3 (textS 2 (grp k).size) x w
  rw [powB (grp2 h1 h3).1 hx] at h
  exact h)
 have HP4 := Lib.hid (fun x w => Power_some k h1 h3 o x w)
 have HXN := Lib.hid hxn
 have HX := Lib.hid hX
 have HBB := Lib.hid hb
 have HTE0 := Lib.hid (fun x => (show madeT (grp k) o x = (textS 2 (grp k).size, o, textS (lowN (grp k) (2 ^ numOf x)) (grp k).size, textS (lowN (grp k) (numOf o ^ numOf x)) (grp k).size) from rfl))
 obtain ⟨tb, htb⟩ : ∃ t, textS 2 (grp k).size = t := ⟨_, rfl⟩
 rw [htb] at HB0 HP1 HP3
 simp only [htb] at HTE0
 obtain ⟨L, hL⟩ : ∃ L, (if b = true then xs.map (madeT (grp k) o) else []) = L := ⟨_, rfl⟩
 rw [hL]
 have HLF := Lib.hid (show b = false → L = [] from fun h => by rw [← hL, h]; rfl)
 have HLT := Lib.hid (show b = true → L = xs.map (madeT (grp k) o) from fun h => by rw [← hL, if_pos h])
 clear hm ho hxn hX hb hL htb
 go_enter Try.func54, Try.ntmps54
 go_wp2_with fail
 refine (HB0.out w).mono ?_
 rintro e w1 ⟨rfl, hb9⟩
 have HB := Lib.hid hb9
 have HZS := Lib.hid hb9.size
 clear hb9
 go_wp2_with fail
 refine (HM.out w1).mono ?_
 rintro e w2 ⟨rfl, hb9⟩
 replace HB := hbu HB hb9
 replace HZS := sz HZS hb9.size
 clear hb9
 have BL := Lib.hid (Below.refl w2.heap.size w2)
 have HBS := Lib.hid HB.out.size
 go_wp2_with fail
 go_loopw [31, 9] (fun i v wr => ∃ (j : Nat) (g : Option Addr) (c9 : Nat) (cs : List ClaimB), j ≤ n ∧ i = .int .i64 j ∧ v = .slice g j c9 ∧ Hid (cs.map ClaimB.x = (xs.take j).map (madeT (grp k) o)) ∧ Hid ((xs.take j).all (isSc (grp k).q.m (grp k).size) = true) ∧ Hid (Below w2.heap.size w2 wr) ∧ Hid (RowO w2.heap.size wr 70 2 (.slice g j c9) j (cs.flatMap ClaimB.cells)) ∧ Hid (ClaimsOff (.slice g j c9) w2.heap.size wr cs)) (fun i _ _ => n - (intOf i).toNat)
 case atStart => exact ⟨0, none, 0, [], Nat.zero_le _, rfl, rfl, rfl, rfl, BL, RowO.nil, fun _ h => by cases h⟩
 case round =>
  obtain ⟨j, g, c9, cs, hj, rfl, rfl, HCM, HAL, HL9, Hr, HCN⟩ := hrel
  have hb9 := HL9.out
  clear HL9
  replace BL := hbu BL hb9
  replace HB := hbu HB hb9
  replace HZS := sz HZS hb9.size
  clear hb9
  have BR := Lib.hid (Below.refl wr.heap.size wr)
  have hro := Hr.out.lt
  by_cases hjn : j < n
  ·have hjx : j < xs.length := by rw [HXN.out]; exact hjn
   obtain ⟨bx, ox, rfl, hbx, hcx⟩ := (HX.out.up HB.out).at j (by simpa using hjx)
   rw [List.getElem_map] at hcx
   have HTK := Lib.hid (List.take_succ_eq_append_getElem hjx)
   have HALS := Lib.hid (fun h => all_snoc (f := isSc (grp k).q.m (grp k).size) hjx HAL.out h)
   have HALN := Lib.hid (fun h => all_not (f := isSc (grp k).q.m (grp k).size) hjx h)
   generalize xs[j] = x at *
   obtain ⟨bj, hbj⟩ : ∃ b, isSc (grp k).q.m (grp k).size x = b := ⟨_, rfl⟩
   have HBJ := Lib.hid hbj
   clear hbj
   cases bj
   ·obtain rfl : b = false := by rw [← HBB.out]; exact HALN.out HBJ.out
    obtain rfl := HLF.out rfl
    obtain ⟨pv, hpv⟩ : ∃ v, powV (grp k) o x = v := ⟨_, rfl⟩
    obtain ⟨pe, hpe⟩ : ∃ v, powE (grp k) o x = v := ⟨_, rfl⟩
    have h4 := HP4.out x
    rw [hpv, hpe] at h4
    have HP5 := Lib.hid h4
    obtain ⟨pw, hpw⟩ : ∃ v, powV (grp k) tb x = v := ⟨_, rfl⟩
    have h3' := HP3.out x HBJ.out
    rw [hpw] at h3'
    have HP6 := Lib.hid h3'
    clear h4 h3' hpv hpe hpw HP4 HP3
    go_wp2_with fail
    refine (HP6.out wr).mono ?_
    rintro e w3 ⟨rfl, hb9⟩
    replace Hr := Lib.hid (Hr.out.up hb9)
    replace BL := hbu BL hb9
    replace BR := hbu BR hb9
    replace HB := hbu HB hb9
    replace HZS := sz HZS hb9.size
    clear hb9
    go_wp2_with fail
    refine (HP5.out w3).mono ?_
    rintro e w4 ⟨rfl, hb9⟩
    replace Hr := Lib.hid (Hr.out.up hb9)
    replace BL := hbu BL hb9
    replace BR := hbu BR hb9
    replace HB := hbu HB hb9
    replace HZS := sz HZS hb9.size
    clear hb9
    go_wp2_with fail
    go_ret
    exact madeR_none HB.out
   ·have HT := Lib.hid (HALS.out HBJ.out)
    have HQ1 := Lib.hid (HP1.out x HBJ.out)
    have HQ2 := Lib.hid (HP2.out x HBJ.out)
    have HTE := Lib.hid (HTE0.out x)
    obtain ⟨tu, htu⟩ : ∃ t, textS (lowN (grp k) (2 ^ numOf x)) (grp k).size = t := ⟨_, rfl⟩
    obtain ⟨tv, htv⟩ : ∃ t, textS (lowN (grp k) (numOf o ^ numOf x)) (grp k).size = t := ⟨_, rfl⟩
    rw [htu] at HQ1 HTE
    rw [htv] at HQ2 HTE
    clear htu htv
    go_wp2_with fail
    refine (HQ1.out wr).mono ?_
    rintro e w3 ⟨rfl, hb9⟩
    replace Hr := Lib.hid (Hr.out.up hb9)
    replace BL := hbu BL hb9
    replace BR := hbu BR hb9
    replace HB := hbu HB hb9
    replace HZS := sz HZS hb9.size
    clear hb9
    go_wp2_with fail
    refine (HQ2.out w3).mono ?_
    rintro e w4 ⟨rfl, hb9⟩
    replace Hr := Lib.hid (Hr.out.up hb9)
    replace BL := hbu BL hb9
    replace BR := hbu BR hb9
    replace HB := hbu HB hb9
    replace HZS := sz HZS hb9.size
    clear hb9
    obtain ⟨w5, hq5, hb9, hz9, Hbb, Hbi⟩ := new2 w4 9 [.string tb, .string o] 9 [.string tu, .string tv]
    replace Hr := Lib.hid (Hr.out.up hb9)
    replace BL := hbu BL hb9
    replace BR := hbu BR hb9
    replace HB := hbu HB hb9
    replace HZS := sz HZS hz9.out
    clear hb9 hz9
    have bb_ := Hbb.out.c2
    have bi_ := Hbi.out.c2
    have HOFF := Lib.hid (HCN.out.up BR.out)
    have HONE := Lib.hid (show ClaimsOff (.slice g j c9) w2.heap.size w5 [⟨w4.heap.size, w4.heap.size + 1, tb, o, tu, tv⟩] from fun s hs => by
     obtain rfl := List.mem_singleton.1 hs
     have g1 := BR.out.size
     have g2 := BL.out.size
     exact ⟨⟨Hbb.out, Hbi.out⟩, by show _ ≤ w4.heap.size; have q1 := HZS.out; have q2 := HZS.out; have q3 := HZS.out; omega, by show _ ≤ w4.heap.size + 1; have q1 := HZS.out; have q2 := HZS.out; have q3 := HZS.out; omega, by show w4.heap.size ≠ w4.heap.size + 1; omega, fun e => by have a1 := hro _ e; have a2 : w4.heap.size < wr.heap.size := a1.2; have q1 := HZS.out; have q2 := HZS.out; have q3 := HZS.out; omega, fun e => by have a1 := hro _ e; have a2 : w4.heap.size + 1 < wr.heap.size := a1.2; have q1 := HZS.out; have q2 := HZS.out; have q3 := HZS.out; omega⟩)
    have HKP := Lib.hid (Kept.refl (fun q9 => Value.ownBlock (.slice g j c9) = some q9) w5)
    obtain ⟨i9, hi9, hz90, hz91, hz92⟩ := info_parts infoClaimA
    go_wp2_with (at_builtin; refine wpList_pushF (w2.heap.size) w5 (by have g0 := HZS.out; omega) rfl _ _ 58 rfl 70 i9 _ 2 48 Try.underlying58 hi9 hz90 hz91 hz92 rfl (by omega) ((.slice g j c9)) (j) ((cs.flatMap ClaimB.cells)) rfl Hr.out _ _ _ rfl rfl rfl (by simp [Value.oneCell']) (by omega) (by unfold maxLen; omega) ?_)
    intro g6 c6 w6 hown9 hg9 hf9
    clear hq5 bb_ bi_ Hbb Hbi
    have hb9 := Below.grown HB.out hg9 (by have g0 := HZS.out; omega) (fun q hq => Nat.le_trans (show w.heap.size ≤ w2.heap.size by have g0 := HZS.out; omega) (Hr.out.lt q hq).1)
    replace BL := Lib.hid (Below.grown BL.out hg9 (by have g0 := HZS.out; omega) (fun q hq => Nat.le_trans (show w2.heap.size ≤ w2.heap.size by have g0 := HZS.out; omega) (Hr.out.lt q hq).1))
    replace HKP := Lib.hid (Kept.grown HKP.out hg9 (fun q hq => Or.inr hq))
    replace HZS := sz HZS hg9.size
    clear Hr HB
    have Hr := Lib.hid hown9
    have HB := Lib.hid hb9
    clear hb9 hown9 hg9 hi9 hz90 hz91 hz92
    have HRP := Lib.hid (fun (n9 c9 : Nat) => ClaimsOff.push (n := n9) (c := c9) HOFF.out HONE.out HKP.out hf9)
    go_wp2_with fail
    go_roundw
    case rel => exact ⟨j + 1, _, _, _, by omega, by go_num, rfl, Lib.hid (by rw [List.map_append, HCM.out, HTK.out, List.map_append, show [x].map (madeT (grp k) o) = [madeT (grp k) o x] from rfl, HTE.out]; rfl), HT, BL, Hr.out.eq (by rw [List.flatMap_append]; simp [ClaimB.cells]) rfl, HRP.out _ _⟩
    case measure => simp [intOf]; omega
  ·have hjn' : j = n := by omega
   subst hjn'
   obtain rfl : b = true := by rw [← HBB.out]; have h9 := HAL.out; rwa [List.take_of_length_le (by rw [HXN.out]; exact Nat.le_refl _)] at h9
   have HCM2 := Lib.hid (show cs.map ClaimB.x = xs.map (madeT (grp k) o) by have h9 := HCM.out; rwa [List.take_of_length_le (by rw [HXN.out]; exact Nat.le_refl _)] at h9)
   obtain rfl := HLT.out rfl
   go_wp2_with fail
   go_ret
   exact ⟨HB.out, g, c9, cs, by rw [List.length_map, HXN.out]; rfl, HCM2.out, Hr.out.sl, by rw [List.length_map, HXN.out]; exact fun s hs => let ⟨h1, h2, h3, h4⟩ := HCN.out s hs; ⟨h1, Nat.le_trans HBS.out h2, Nat.le_trans HBS.out h3, h4⟩, fun x hx => Nat.le_trans HBS.out (RowO.own_le Hr.out hx), fun h => by cases h⟩
end Go.Proofs.Ytipgjookfdkciaa
namespace Go.Proofs.Ytipgjookfdkciaa
open Go.RowKit
theorem mod_cancel {q s t y : Nat} (h : (s + y) % q = (t + y) % q) : s % q = t % q := by
 rcases Nat.le_total s t with h9 | h9
 ·have := (mod_eq_iff_dvd_sub (Nat.add_le_add_right h9 y)).1 h.symm
  rw [Nat.add_sub_add_right] at this
  exact ((mod_eq_iff_dvd_sub h9).2 this).symm
 ·have := (mod_eq_iff_dvd_sub (Nat.add_le_add_right h9 y)).1 h
  rw [Nat.add_sub_add_right] at this
  exact (mod_eq_iff_dvd_sub h9).2 this
theorem nonce_exp {q c x a : Nat} (hq : 1 < q) (hc : c < q) : (a % q + x * ((q - c) % q)) % q = (a + (q - c * x % q)) % q := by
 have h1 : (a % q + x * ((q - c) % q)) % q = (a + x * (q - c)) % q := by
  rw [Nat.mod_add_mod, Nat.add_mod, Nat.mul_mod_mod, ← Nat.add_mod]
 rw [h1]
 refine mod_cancel (y := c * x) ?_
 have e1 : a + x * (q - c) + c * x = a + q * x := by
  rw [Nat.add_assoc, Nat.mul_comm c x, ← Nat.mul_add, Nat.sub_add_cancel (Nat.le_of_lt hc), Nat.mul_comm]
 have e2 : a + (q - c * x % q) + c * x = a + q * (1 + c * x / q) := by
  have h2 := Nat.div_add_mod (c * x) q
  have h3 := Nat.mod_lt (c * x) (show 0 < q by omega)
  rw [Nat.mul_add, Nat.mul_one]
  omega
 rw [e1, e2, Nat.add_mul_mod_self_left, Nat.add_mul_mod_self_left]
theorem hides1 {q p B M x c a : Nat} (hpp : IsPrime p) (hp : p = 2 * q + 1) (hq : 1 < q) (hB0 : 0 < B) (hB : B < p) (hM : PM p M (B ^ x)) (hc : c < q) :
  PM p (B ^ (a % q) * M ^ ((q - c) % q)) (B ^ ((a + (q - c * x % q)) % q)) := by
 have h1 := (PM.refl p (B ^ (a % q))).mul (hM.pow ((q - c) % q))
 rw [← Nat.pow_mul, ← Nat.pow_add] at h1
 exact h1.trans (pm_exp hpp hp hB0 hB (by rw [nonce_exp hq hc, Nat.mod_mod]))
def nonF (G : GP) (ch x a : ByteArray) : ByteArray := textS ((numOf a + (G.q.m - numOf ch * numOf x % G.q.m)) % G.q.m) G.size
def nonL (G : GP) (ch : ByteArray) (xs zs : List ByteArray) : List ByteArray := List.zipWith (nonF G ch) xs zs
theorem made_at {G : GP} {o : ByteArray} {xs : List ByteArray} {cs : List ClaimB} (h : cs.map ClaimB.x = xs.map (madeT G o)) : cs.length = xs.length ∧ ∀ i (hc : i < cs.length) (hx : i < xs.length),
  cs[i].s = textS 2 G.size ∧ cs[i].t = o ∧ cs[i].u = textS (lowN G (2 ^ numOf xs[i])) G.size ∧ cs[i].v = textS (lowN G (numOf o ^ numOf xs[i])) G.size := by
 have hl : cs.length = xs.length := by have := congrArg List.length h; simpa using this
 refine ⟨hl, fun i hc hx => ?_⟩
 have e : (cs.map ClaimB.x)[i]? = (xs.map (madeT G o))[i]? := by rw [h]
 rw [List.getElem?_map, List.getElem?_map, List.getElem?_eq_getElem hc, List.getElem?_eq_getElem hx] at e
 have e := Option.some.inj e
 unfold ClaimB.x madeT at e
 simp only [Prod.mk.injEq] at e
 exact e
theorem shape_two {l : List ClaimA} (h0 : 0 < l.length) (h64 : l.length ≤ 64) (h : ∀ c ∈ l, c.bases.length = 2 ∧ c.images.length = 2) : shapeE l = 0 := by
 unfold shapeE
 have e1 : l.any cLong = false := by
  rw [List.any_eq_false]
  intro c hc
  unfold cLong
  rw [(h c hc).1, (h c hc).2]
  decide
 have e2 : l.any cForm = false := by
  rw [List.any_eq_false]
  intro c hc
  unfold cForm
  rw [(h c hc).1, (h c hc).2]
  decide
 rw [e1, e2, decide_eq_false (by omega), decide_eq_false (by omega)]
 rfl
theorem made_wf {k : Nat} (h1 : 1 ≤ k) (h3 : k ≤ 3) {o : ByteArray} (ho : isEl (grp k).q.m (grp k).size o = true) {xs : List ByteArray} {cs : List ClaimB} (h : cs.map ClaimB.x = xs.map (madeT (grp k) o)) (h0 : 0 < xs.length) (h64 : xs.length ≤ 64) :
  shapeE (cs.map ClaimB.a) = 0 ∧ (cs.map ClaimB.a).all (cElems (grp k)) = true := by
 obtain ⟨hl, hi⟩ := made_at h
 refine ⟨shape_two (by rw [List.length_map]; omega) (by rw [List.length_map]; omega) fun c hc => by
  obtain ⟨b, _, rfl⟩ := List.mem_map.1 hc
  exact ⟨rfl, rfl⟩, ?_⟩
 rw [List.all_eq_true]
 intro c hc
 obtain ⟨b, hb, rfl⟩ := List.mem_map.1 hc
 obtain ⟨i, hci, rfl⟩ := List.getElem_of_mem hb
 obtain ⟨e1, e2, e3, e4⟩ := hi i hci (by omega)
 have hpp := grp_prime_p k h1 h3
 have ok := grp_ok k h1 h3
 have bd := isEl_bd ok ho
 have m1 := T_isEl h1 h3 (pow2_nd ok hpp (numOf (xs[i]'(by omega))))
 have m2 := T_isEl h1 h3 (hpp.not_dvd_pow (not_dvd_small bd.1 bd.2) (numOf (xs[i]'(by omega))))
 unfold cElems ClaimB.a
 simp only [List.all_cons, List.all_nil, Bool.and_true, e1, e2, e3, e4, (grp2 h1 h3).1, ho, m1, m2]
theorem zip_sc {k : Nat} (h1 : 1 ≤ k) (h3 : k ≤ 3) (ch : ByteArray) (xs zs : List ByteArray) : (nonL (grp k) ch xs zs).all (isSc (grp k).q.m (grp k).size) = true := by
 rw [List.all_eq_true]
 intro x hx
 unfold nonL at hx
 obtain ⟨i, hi, rfl⟩ := List.getElem_of_mem hx
 rw [List.getElem_zipWith]
 exact T_sc (grp_ok k h1 h3) (grp_fits k h1 h3) (Nat.mod_lt _ (grp_ok k h1 h3).q.pos)
theorem hides_any {k : Nat} (h1 : 1 ≤ k) (h3 : k ≤ 3) {o : ByteArray} (ho : isEl (grp k).q.m (grp k).size o = true) {xs zs : List ByteArray} {ch : ByteArray} {cs : List ClaimB} (h : cs.map ClaimB.x = xs.map (madeT (grp k) o)) (h0 : 0 < xs.length) (h64 : xs.length ≤ 64)
  (hal : zs.length = xs.length) (has : zs.all (isSc (grp k).q.m (grp k).size) = true) (hch : isSc (grp k).q.m (grp k).size ch = true) :
  backE (k : Int) (cs.map ClaimB.a) ch zs = 0 ∧ openK (k : Int) (cs.map ClaimB.a) (nonL (grp k) ch xs zs) = 0 ∧ backK (k : Int) (cs.map ClaimB.a) ch zs = firstK (k : Int) (cs.map ClaimB.a) (nonL (grp k) ch xs zs) := by
 obtain ⟨hs, he⟩ := made_wf h1 h3 ho h h0 h64
 obtain ⟨hl, hi⟩ := made_at h
 have hnl : (nonL (grp k) ch xs zs).length = xs.length := by unfold nonL; rw [List.length_zipWith]; omega
 have o1 : openK (k : Int) (cs.map ClaimB.a) zs = 0 := openK_zero (by omega) hs he (by rw [List.length_map]; omega) has
 have o2 : openK (k : Int) (cs.map ClaimB.a) (nonL (grp k) ch xs zs) = 0 := openK_zero (by omega) hs he (by rw [List.length_map]; omega) (zip_sc h1 h3 ch xs zs)
 have b1 : backE (k : Int) (cs.map ClaimB.a) ch zs = 0 := backE_zero o1 hch
 refine ⟨b1, o2, ?_⟩
 unfold backK firstK
 rw [if_pos b1, if_pos o2]
 simp only [Int.toNat_natCast]
 have ok := grp_ok k h1 h3
 have hpp := grp_prime_p k h1 h3
 have hq : 1 < (grp k).q.m := by have := ok.odd; omega
 refine eachA_congr fun i t hi9 ht => ?_
 have hic : i < cs.length := by simpa using hi9
 have hix : i < xs.length := by omega
 have hia : i < zs.length := by omega
 obtain ⟨e1, e2, e3, e4⟩ := hi i hic hix
 have hcl : (lens (cs.map ClaimB.a)).getD i 0 = 2 := by
  unfold lens
  rw [List.map_map]
  simp only [List.getD, List.getElem?_map, List.getElem?_eq_getElem hic, Option.map_some, Option.getD_some, Function.comp]
  rfl
 have ht2 : t < 2 := by omega
 have sa := isSc_lt' (List.all_eq_true.1 has _ (List.getElem_mem hia))
 have sc := isSc_lt' hch
 have eN : numOf ((nonL (grp k) ch xs zs)[i]'(by omega)) = (numOf zs[i] + ((grp k).q.m - numOf ch * numOf xs[i] % (grp k).q.m)) % (grp k).q.m := by
  unfold nonL
  rw [List.getElem_zipWith]
  exact T_num ok (Nat.le_of_lt (Nat.mod_lt _ ok.q.pos)) (grp_fits k h1 h3)
 have eb : ∀ (B M : Nat), numOf ((((cs.map ClaimB.a).getD i claim0).bases).getD t ⟨#[]⟩) = B → numOf ((((cs.map ClaimB.a).getD i claim0).images).getD t ⟨#[]⟩) = M → 0 < B → B < (grp k).p.m → PM (grp k).p.m M (B ^ numOf xs[i]) →
   lowN (grp k) (valB (grp k) ((grp k).q.m - numOf ch) (cs.map ClaimB.a) zs i t) = lowN (grp k) (valF (grp k) (cs.map ClaimB.a) (nonL (grp k) ch xs zs) i t) := fun B M hB hM hB0 hBp hMB => by
  unfold valB valF
  rw [hB, hM, show zs.getD i ⟨#[]⟩ = zs[i] by simp [List.getD, hia], show (nonL (grp k) ch xs zs).getD i ⟨#[]⟩ = (nonL (grp k) ch xs zs)[i]'(by omega) by simp [List.getD, show i < (nonL (grp k) ch xs zs).length by omega], eN, Nat.mod_mod]
  exact (lowN_iff ok _ _).2 (hides1 hpp ok.twice hq hB0 hBp hMB sc.2)
 have ec : (cs.map ClaimB.a).getD i claim0 = cs[i].a := by simp [List.getD, hic]
 have bd := isEl_bd ok ho
 have t2 := (grp2 h1 h3).2
 obtain rfl | rfl : t = 0 ∨ t = 1 := by omega
 ·refine eb 2 (lowN (grp k) (2 ^ numOf xs[i])) ?_ ?_ (by decide) (by have := ok.twice; omega) (lowN_pm ok _)
  ·rw [ec]; show numOf cs[i].s = 2; rw [e1, t2]
  ·rw [ec]; show numOf cs[i].u = _; rw [e3, T_numOf h1 h3]
 ·refine eb (numOf o) (lowN (grp k) (numOf o ^ numOf xs[i])) ?_ ?_ bd.1 bd.2 (lowN_pm ok _)
  ·rw [ec]; show numOf cs[i].t = _; rw [e2]
  ·rw [ec]; show numOf cs[i].v = _; rw [e4, T_numOf h1 h3]
end Go.Proofs.Ytipgjookfdkciaa
namespace Go.Proofs.Ytipgjookfdkciaa
open Go.RowKit
theorem eachA_small (G : GP) (v : Nat → Nat → Nat) {l : List ClaimA} (hn : l.length ≤ 64) (hb : ∀ c ∈ l, c.bases.length ≤ 8) : (eachA G v (lens l) l.length).length ≤ 64 ∧ ∀ r ∈ eachA G v (lens l) l.length, r.length ≤ 8 := by
 refine ⟨by rw [eachA_len]; exact hn, fun r hr => ?_⟩
 unfold eachA at hr
 obtain ⟨i, hi, rfl⟩ := List.mem_map.1 hr
 have hi := List.mem_range.1 hi
 rw [eachL_len]
 have e : (lens l).getD i 0 = l[i].bases.length := by unfold lens; simp [List.getD, hi]
 rw [e]
 exact hb _ (List.getElem_mem hi)
theorem small_if {P : Prop} [Decidable P] {L : List (List ByteArray)} (h : P → L.length ≤ 64 ∧ ∀ r ∈ L, r.length ≤ 8) : (if P then L else []).length ≤ 64 ∧ ∀ r ∈ (if P then L else []), r.length ≤ 8 := by
 by_cases p : P
 ·rw [if_pos p]; exact h p
 ·rw [if_neg p]; exact ⟨Nat.zero_le _, fun _ h => by cases h⟩
theorem backK_small (k : Int) (l : List ClaimA) (ch : ByteArray) (xs : List ByteArray) : (backK k l ch xs).length ≤ 64 ∧ ∀ r ∈ backK k l ch xs, r.length ≤ 8 := by
 unfold backK
 refine small_if fun h => ?_
 have hs := shape_ok (openK_ok (backE_ok h).1).2.1
 exact eachA_small _ _ hs.2.1 fun c hc => (hs.2.2 c hc).2.1
end Go.Proofs.Ytipgjookfdkciaa
namespace Go.Proofs.Ytipgjookfdkciaa
open Go.ChangeShapes Go.WideShapes Go.ChangeAt Go.RowKit
theorem bulk_one {H : Type} (d : DataW H) : 1 ≤ Rows.uptoBulk d := by
 cases d with
 | lit l => cases l <;> simp [Rows.uptoBulk]
 | nil => simp [Rows.uptoBulk]
 | ptr d => simp [Rows.uptoBulk]
 | slice elems spare => simp [Rows.uptoBulk]
 | agg parts => simp [Rows.uptoBulk]
 | iface t d => simp [Rows.uptoBulk]
 | map entries => simp [Rows.uptoBulk]
 | held h => simp [Rows.uptoBulk]
theorem bulk_part {H : Type} {d : DataW H} {l : List (DataW H)} (h : d ∈ l) : Rows.uptoBulk d ≤ Rows.uptoBulkAll l := by
 induction l with
 | nil => cases h
 | cons x r ih =>
  simp only [Rows.uptoBulkAll]
  rcases List.mem_cons.1 h with rfl | e
  ·omega
  ·have := ih e; omega
theorem bulk_length {H : Type} (l : List (DataW H)) : l.length ≤ Rows.uptoBulkAll l := by
 induction l with
 | nil => simp [Rows.uptoBulkAll]
 | cons x r ih => have := bulk_one x; simp only [Rows.uptoBulkAll, List.length_cons]; omega
theorem bulk_slice {H : Type} {elems spare : List (DataW H)} {B : Nat} (h : Rows.uptoBulk (.slice elems spare) ≤ B) : elems.length ≤ B ∧ ∀ d ∈ elems, Rows.uptoBulk d ≤ B := by
 simp only [Rows.uptoBulk] at h
 refine ⟨by have := bulk_length elems; omega, fun d hd => by have := bulk_part hd; omega⟩
theorem flat_range (g : Nat → Value) (k len : Nat) : ((List.range len).map fun i => (List.range k).map fun j => g (i * k + j)).flatten = (List.range (len * k)).map g := by
 induction len with
 | zero => simp
 | succ m ih =>
  rw [List.range_succ, List.map_append, List.flatten_append, ih, Nat.succ_mul, List.range_add, List.map_append]
  simp [List.map_map, Function.comp_def]
section
variable {H : Type} {enc : TypeId × Value → H} {P : Program} {w : World}
theorem open_flat {sp : Nat → Bool} {held : Bool} {t e : TypeId} {k fuel : Nat} {c : Value} {y : DataW H × List MemPlace} (ht : P.underlying t = some (.slice e)) (hk : P.cellsOf e = k) (hk0 : 0 < k) {B : Nat} (hB : Rows.uptoBulk y.1 ≤ B)
  (h : DataW.trod enc P w 0 sp held fuel t [c] = some y) :
  ∃ (a : Option Addr) (cap : Nat) (css : List (List Value)), c = .slice a css.length cap ∧ css.length ≤ B ∧ (∀ l ∈ css, l.length = k) ∧ Sl w w.heap.size a css.flatten ∧
   ∀ l ∈ css, ∃ n y', Rows.uptoBulk y'.1 ≤ B ∧ DataW.trod enc P w 0 sp held n e l = some y' := by
 have hlt := DataW.trod_lt _ _ _ _ h
 rcases DataW.trod_slice ht h with ⟨hcs, _⟩ | ⟨x, len, cap, elems, rest, n, _, hcs, hx, hb, hl, hm, hlen, hel, _, _⟩
 ·simp only [List.cons.injEq, and_true] at hcs
  exact ⟨none, 0, [], hcs, by simp, by simp, Or.inl rfl, by simp⟩
 simp only [List.cons.injEq, and_true] at hcs
 subst hcs
 by_cases h0 : len = 0
 ·subst h0
  exact ⟨some x, cap, [], rfl, by simp, by simp, Or.inl rfl, by simp⟩
 have hbk := bulk_slice (elems := elems.map (·.1)) (spare := rest.map (·.1)) (B := B) (by rw [hx] at hB; exact hB)
 have each : ∀ i, i < len → ∃ l y', w.cells? 0 (x.add (i * k)) k = some l ∧ Rows.uptoBulk y'.1 ≤ B ∧ DataW.trod enc P w 0 sp held n e l = some y' := by
  intro i hi
  have h1 := hel i hi
  rw [hk, show elems[i]? = some (elems[i]'(by omega)) from List.getElem?_eq_getElem (by omega), Option.bind_eq_some_iff] at h1
  obtain ⟨l, hl, hy⟩ := h1
  exact ⟨l, _, hl, hbk.2 _ (List.mem_map.2 ⟨_, List.getElem_mem _, rfl⟩), hy⟩
 obtain ⟨b, off, spot⟩ := x
 have hspot : spot = none := by
  obtain ⟨l, _, h1, _⟩ := each 0 (by omega)
  obtain ⟨_, h2, h3⟩ := World.cells?_some h1
  have h4 := h3 0 hk0
  obtain ⟨v, hv⟩ : ∃ v, l[0]? = some v := ⟨_, List.getElem?_eq_getElem (by omega)⟩
  rw [hv, Deep.add_add, Nat.zero_mul, Nat.zero_add] at h4
  simpa [Addr.add] using World.cell?_spot h4
 subst hspot
 have hbW : b < w.heap.size := hlt (.cell b off) (by
  rw [hx]
  exact List.mem_append_left _ (MemPlace.mem_row.2 ⟨0, by rw [hk]; have : 0 < (elems.length + rest.length) * k := Nat.mul_pos (by omega) hk0; omega, by simp⟩))
 have hL : ∀ i, i < len → ((List.range k).map fun j => (w.cell? ⟨b, off + (i * k + j), none⟩).getD (.bool false)).length = k ∧
   (∀ j, j < k → w.cell? ⟨b, off + (i * k + j), none⟩ = some ((w.cell? ⟨b, off + (i * k + j), none⟩).getD (.bool false))) ∧
   ∃ y', Rows.uptoBulk y'.1 ≤ B ∧ DataW.trod enc P w 0 sp held n e ((List.range k).map fun j => (w.cell? ⟨b, off + (i * k + j), none⟩).getD (.bool false)) = some y' := by
  intro i hi
  obtain ⟨l, y', h1, h2b, h2⟩ := each i hi
  obtain ⟨_, h3, h4⟩ := World.cells?_some h1
  have h5 : ∀ j, j < k → w.cell? ⟨b, off + (i * k + j), none⟩ = l[j]? := by
   intro j hj
   have := h4 j hj
   rwa [Deep.add_add, add_plain] at this
  have e1 : (List.range k).map (fun j => (w.cell? ⟨b, off + (i * k + j), none⟩).getD (.bool false)) = l := by
   apply List.ext_getElem?
   intro j
   by_cases hj : j < k
   ·rw [List.getElem?_map, List.getElem?_range hj, Option.map_some, h5 j hj, List.getElem?_eq_getElem (show j < l.length by omega), Option.getD_some]
   ·rw [List.getElem?_eq_none (by simp; omega), List.getElem?_eq_none (by omega)]
  refine ⟨by simp, ?_, ?_⟩
  ·intro j hj
   rw [h5 j hj, List.getElem?_eq_getElem (show j < l.length by omega), Option.getD_some]
  ·rw [e1]; exact ⟨y', h2b, h2⟩
 refine ⟨some ⟨b, off, none⟩, cap, (List.range len).map fun i => (List.range k).map fun j => (w.cell? ⟨b, off + (i * k + j), none⟩).getD (.bool false), by simp, ?_, ?_, Or.inr ⟨b, off, rfl, hbW, ?_⟩, ?_⟩
 ·have := hbk.1; rw [List.length_map] at this; simp; omega
 ·intro l hl
  obtain ⟨i, _, rfl⟩ := List.mem_map.1 hl
  simp
 ·have hflat := flat_range (fun m => (w.cell? ⟨b, off + m, none⟩).getD (.bool false)) k len
  intro i v hv
  rw [hflat] at hv
  have hi : i < len * k := by have := (List.getElem?_eq_some_iff.1 hv).1; simpa using this
  have hq : i / k < len := Nat.div_lt_of_lt_mul (by rwa [Nat.mul_comm] at hi)
  have hc := (hL (i / k) hq).2.1 (i % k) (Nat.mod_lt _ hk0)
  rw [show i / k * k + i % k = i by rw [Nat.mul_comm]; exact Nat.div_add_mod i k] at hc
  rw [hc, ← hv, List.getElem?_map, List.getElem?_range hi, Option.map_some]
 ·intro l hl
  obtain ⟨i, hi, rfl⟩ := List.mem_map.1 hl
  obtain ⟨y', hyb, hy⟩ := (hL i (List.mem_range.1 hi)).2.2
  exact ⟨n, y', hyb, hy⟩
theorem list_shapes {α : Type} (f : α → List Value) (R : α → Prop) : ∀ css : List (List Value), (∀ l ∈ css, ∃ x, l = f x ∧ R x) → ∃ xs : List α, xs.length = css.length ∧ css.flatten = xs.flatMap f ∧ ∀ x ∈ xs, R x
 | [], _ => ⟨[], rfl, rfl, by simp⟩
 | l :: css, h => by
  obtain ⟨x, rfl, hR⟩ := h l (by simp)
  obtain ⟨xs, h1, h2, h3⟩ := list_shapes f R css (fun c hc => h c (by simp [hc]))
  refine ⟨x :: xs, by simp [h1], by simp [h2], ?_⟩
  intro y hy
  rcases List.mem_cons.1 hy with rfl | hy
  ·exact hR
  ·exact h3 y hy
theorem open_els {α : Type} (f : α → List Value) (R : α → Prop) {sp : Nat → Bool} {held : Bool} {t e : TypeId} {k fuel : Nat} {c : Value} {y : DataW H × List MemPlace} (ht : P.underlying t = some (.slice e)) (hk : P.cellsOf e = k) (hk0 : 0 < k) {B : Nat} (hB : Rows.uptoBulk y.1 ≤ B)
  (hel : ∀ n l y', l.length = k → Rows.uptoBulk y'.1 ≤ B → DataW.trod enc P w 0 sp held n e l = some y' → ∃ x, l = f x ∧ R x) (h : DataW.trod enc P w 0 sp held fuel t [c] = some y) :
  ∃ (a : Option Addr) (cap : Nat) (xs : List α), c = .slice a xs.length cap ∧ xs.length ≤ B ∧ Sl w w.heap.size a (xs.flatMap f) ∧ ∀ x ∈ xs, R x := by
 obtain ⟨a, cap, css, rfl, hlB, hl, hs, he⟩ := open_flat ht hk hk0 hB h
 obtain ⟨xs, h1, h2, h3⟩ := list_shapes f R css (fun l hm => by
  obtain ⟨n, y', hyb, hy⟩ := he l hm
  exact hel n l y' (hl l hm) hyb hy)
 exact ⟨a, cap, xs, by rw [h1], by omega, h2 ▸ hs, h3⟩
theorem open_str {sp : Nat → Bool} {held : Bool} {t : TypeId} {fuel : Nat} {c : Value} {y : DataW H × List MemPlace} (ht : P.underlying t = some .string) (h : DataW.trod enc P w 0 sp held fuel t [c] = some y) : ∃ s : ByteArray, c = .string s := by
 obtain ⟨s, hs, _⟩ := DataW.trod_string ht h
 simp only [List.cons.injEq, and_true] at hs
 exact ⟨s, hs⟩
theorem open_strs {sp : Nat → Bool} {held : Bool} {t e : TypeId} {fuel : Nat} {c : Value} {y : DataW H × List MemPlace} (ht : P.underlying t = some (.slice e)) (he : P.underlying e = some .string) (hk : P.cellsOf e = 1) {B : Nat} (hB : Rows.uptoBulk y.1 ≤ B) (h : DataW.trod enc P w 0 sp held fuel t [c] = some y) :
  ∃ (a : Option Addr) (cap : Nat) (bs : List ByteArray), c = .slice a bs.length cap ∧ bs.length ≤ B ∧ Sl w w.heap.size a (bs.map Value.string) := by
 obtain ⟨a, cap, xs, h1, hb, h2, _⟩ := open_els (fun s : ByteArray => [Value.string s]) (fun _ => True) ht hk (by omega) hB (fun n l y' hl _ hy => by
  match l, hl with
  | [c'], _ =>
   obtain ⟨s, rfl⟩ := open_str he hy
   exact ⟨s, rfl, trivial⟩) h
 refine ⟨a, cap, xs, h1, hb, ?_⟩
 rw [← List.flatMap_singleton' (xs.map Value.string), List.flatMap_map]
 exact h2
end
end Go.Proofs.Ytipgjookfdkciaa
namespace Go.Proofs.Ytipgjookfdkciaa
open Go.ChangeShapes Go.WideShapes Go.ChangeAt Go.RowKit
section
variable {H : Type} {enc : TypeId × Value → H} {P : Program} {w : World}
end
end Go.Proofs.Ytipgjookfdkciaa
namespace Go.Proofs.Ytipgjookfdkciaa
open Go.ChangeShapes Go.WideShapes Go.ChangeAt Go.RowKit
theorem str_cells : Try.prog.cellsOf 9 = 1 := by kernel_rfl
end Go.Proofs.Ytipgjookfdkciaa
namespace Go.Proofs.Ytipgjookfdkciaa
open Go.ChangeShapes Go.WideShapes Go.ChangeAt Go.RowKit
section
variable {H : Type} {enc : TypeId × Value → H} {w : World}
theorem open_capW {P : Program} {sp : Nat → Bool} {held : Bool} {t e : TypeId} {fuel n cap : Nat} {a : Option Addr} {y : DataW H × List MemPlace} (ht : P.underlying t = some (.slice e)) (h : DataW.trod enc P w 0 sp held fuel t [.slice a n cap] = some y) : n ≤ cap := by
 rcases DataW.trod_slice ht h with ⟨hcs, _⟩ | ⟨x, len, cap', elems, rest, n', _, hcs, hx, hb, hl, hm, hlen, hel, _, _⟩
 ·simp only [List.cons.injEq, Value.slice.injEq, and_true] at hcs
  omega
 ·simp only [List.cons.injEq, Value.slice.injEq, and_true] at hcs
  omega
end
section
variable {H : Type} {enc : TypeId × Value → H} {w : World}
end
end Go.Proofs.Ytipgjookfdkciaa
namespace Go.Proofs.Ytipgjookfdkciaa
open Go.RowKit
section
variable {G : GP} {aq ap : Option Addr} {cq cp : Nat}
end
theorem toList_ne {a b : ByteArray} (h : ¬ a = b) : ¬ a.toList = b.toList := fun e => h (by
 have h9 : (a == b) = true := by rw [beq_toListBytes]; exact beq_iff_eq.2 e
 obtain ⟨x⟩ := a
 obtain ⟨y⟩ := b
 have h10 : (x == y) = true := h9
 rw [eq_of_beq h10])
theorem toList_bne {a b : ByteArray} (h : ¬ a = b) : (a.toList == b.toList) = false := beq_eq_false_iff_ne.2 (toList_ne h)
section
variable {G : GP} {aq ap : Option Addr} {cq cp : Nat}
end
end Go.Proofs.Ytipgjookfdkciaa
namespace Go.Proofs.Ytipgjookfdkciaa
open Go.RowKit
theorem take_eq_snoc {l m : List ByteArray} {j : Nat} (hl : j < l.length) (hm : j < m.length) (h : l.take j = m.take j) (h1 : l[j] = m[j]) : l.take (j + 1) = m.take (j + 1) := by
 rw [List.take_succ_eq_append_getElem hl, List.take_succ_eq_append_getElem hm, h, h1]
theorem same5_any (l m : List ByteArray) (al am : Option Addr) (cl cm : Nat) (hl : l.length ≤ 8796093022207) (b : Bool) (hb : decide (l = m) = b) (w : World) (hL : Sl w w.heap.size al (l.map Value.string)) (hM : Sl w w.heap.size am (m.map Value.string)) :
  Calls Try.prog 17 #[.slice al l.length cl, .slice am m.length cm] w (Gives (.bool b) w) := by
 have HL := Lib.hid hL
 have HM := Lib.hid hM
 have HBB := Lib.hid hb
 clear hL hM hb
 unfold Gives
 by_cases h1 : l.length = m.length
 ·have hd : ((l.length : Int) != (m.length : Int)) = false := by rw [bne_eq_false_iff_eq]; omega
  obtain ⟨n, hn⟩ : ∃ n, l.length = n := ⟨_, rfl⟩
  have hm : m.length = n := by omega
  have HNL := Lib.hid hn
  have HNM := Lib.hid hm
  rw [hn] at hd hl ⊢
  rw [hm] at hd ⊢
  clear h1 hn hm
  go_enter Try.func17, Try.ntmps17
  go_wp2_with fail
  go_loopw [13] (fun i wr => ∃ j : Nat, j ≤ n ∧ i = .int .i64 j ∧ Hid (Below w.heap.size w wr) ∧ Hid (l.take j = m.take j)) (fun i _ => n - (intOf i).toNat)
  case atStart => exact ⟨0, Nat.zero_le _, rfl, Below.refl _ _, rfl⟩
  case round =>
   obtain ⟨j, hj, rfl, HB, HT⟩ := hrel
   by_cases hjn : j < n
   ·skip
    have hjl : j < l.length := by rw [HNL.out]; exact hjn
    have hjm : j < m.length := by rw [HNM.out]; exact hjn
    obtain ⟨b1, o1, rfl, hb10, hb1, hc1⟩ := HL.out.atUp HB.out j (by simpa using hjl)
    obtain ⟨b2, o2, rfl, hb20, hb2, hc2⟩ := HM.out.atUp HB.out j (by simpa using hjm)
    rw [List.getElem_map] at hc1 hc2
    have HTS := Lib.hid (take_eq_snoc hjl hjm HT.out)
    have HNE := Lib.hid (fun (h : ¬ l[j] = m[j]) => (show ¬ l = m from fun e => h (by subst e; rfl)))
    generalize l[j] = x at *
    generalize m[j] = y at *
    by_cases hxy : x = y
    ·have HF := Lib.hid (HTS.out hxy)
     subst hxy
     go_wp2_with fail
     refine wp_region_over (by kernel_rfl) (by kernel_rfl) ?_
     have hov_b1 := fun (E : Over wr) o => E.cell (b := b1) o hb1
     have hov_b2 := fun (E : Over wr) o => E.cell (b := b2) o hb2
     repeat (go_big_quiet_step (first | fail))
     all_goals (try unfold elV limbV)
     repeat (go_big_quiet_step (first | fail))
     all_goals (try unfold elV limbV)
     repeat (go_big_quiet_step (first | fail))
     all_goals (try unfold ciphV)
     refine wpQuiet_nil ?_
     rintro _ ⟨E, rfl⟩
     clear hov_b1 hov_b2
     replace HB := hbu HB E.h
     have HZS := Lib.hid E.h.size
     obtain ⟨w1, hq9⟩ : ∃ W9 : World, E.w = W9 := ⟨_, rfl⟩
     rw [hq9] at HB HZS ⊢
     clear hq9 E
     go_wp2_with fail
     go_roundw
     case rel => exact ⟨j + 1, by omega, by go_num, HB, HF⟩
     case measure => simp [intOf]; omega
    ·obtain rfl : b = false := by rw [← HBB.out]; exact decide_eq_false (HNE.out hxy)
     have hcd := toList_bne hxy
     clear hxy
     go_wp2_with fail
     refine wp_region_over (by kernel_rfl) (by kernel_rfl) ?_
     have hov_b1 := fun (E : Over wr) o => E.cell (b := b1) o hb1
     have hov_b2 := fun (E : Over wr) o => E.cell (b := b2) o hb2
     repeat (go_big_quiet_step (first | fail))
     all_goals (try unfold elV limbV)
     repeat (go_big_quiet_step (first | fail))
     all_goals (try unfold elV limbV)
     repeat (go_big_quiet_step (first | fail))
     all_goals (try unfold ciphV)
     refine wpQuiet_nil ?_
     rintro _ ⟨E, rfl⟩
     clear hov_b1 hov_b2
     replace HB := hbu HB E.h
     have HZS := Lib.hid E.h.size
     obtain ⟨w1, hq9⟩ : ∃ W9 : World, E.w = W9 := ⟨_, rfl⟩
     rw [hq9] at HB HZS ⊢
     clear hq9 E
     go_wp2_with fail
     go_ret
     exact ⟨rfl, HB.out⟩
   ·have hjn' : j = n := by omega
    subst hjn'
    obtain rfl : b = true := by
     rw [← HBB.out]
     refine decide_eq_true ?_
     have h9 := HT.out
     rwa [List.take_of_length_le (by rw [HNL.out]; exact Nat.le_refl _), List.take_of_length_le (by rw [HNM.out]; exact Nat.le_refl _)] at h9
    go_wp2_with fail
    go_ret
    exact ⟨rfl, HB.out⟩
 ·have hd : ((l.length : Int) != (m.length : Int)) = true := by rw [bne_iff_ne]; omega
  obtain rfl : b = false := by rw [← HBB.out]; exact decide_eq_false (fun e => h1 (by rw [e]))
  clear h1
  go_enter Try.func17, Try.ntmps17
  go_wp2_with fail
  go_ret
  exact ⟨rfl, Below.refl _ _⟩
end Go.Proofs.Ytipgjookfdkciaa
namespace Go.Proofs.Ytipgjookfdkciaa
open Go.RowKit
theorem take_rows {L M : List (List ByteArray)} {j : Nat} (hl : j < L.length) (hm : j < M.length) (h : L.take j = M.take j) (h1 : L[j] = M[j]) : L.take (j + 1) = M.take (j + 1) := by
 rw [List.take_succ_eq_append_getElem hl, List.take_succ_eq_append_getElem hm, h, h1]
theorem sameLists5_any (L M : List (List ByteArray)) (n m : Nat) (hL : L.length = n) (hM : M.length = m) (hn : n ≤ 8796093022206) (hr : ∀ r ∈ L, r.length ≤ 8796093022206) (ro so : List RowA) (h1 : ro.map RowA.l = L) (h2 : so.map RowA.l = M) (b : Bool) (hb : decide (L = M) = b) (a1 a2 : Option Addr) (c1 c2 : Nat) (w : World) (hR : RowsAt w a1 ro) (hS : RowsAt w a2 so) :
  Calls Try.prog 48 #[.slice a1 n c1, .slice a2 m c2] w (Gives (.bool b) w) := by
 have hn1 : ro.length = n := by rw [← hL, ← h1, List.length_map]
 have hn2 : so.length = m := by rw [← hM, ← h2, List.length_map]
 have HN1 := Lib.hid hn1
 have HN2 := Lib.hid hn2
 have HLL := Lib.hid hL
 have HLM := Lib.hid hM
 have HBB := Lib.hid hb
 have HE := Lib.hid (fun i (g1 : i < ro.length) (g2 : i < L.length) => (show L[i] = ro[i].l by subst h1; simp))
 have HF := Lib.hid (fun i (g1 : i < so.length) (g2 : i < M.length) => (show M[i] = so[i].l by subst h2; simp))
 have HLE := Lib.hid (fun i (g1 : i < ro.length) => (show ro[i].l.length ≤ 8796093022207 by
  have := hr ro[i].l (by rw [← h1]; exact List.mem_map.2 ⟨_, List.getElem_mem g1, rfl⟩)
  omega))
 have HR := Lib.hid hR
 have HS := Lib.hid hS
 clear hn1 hn2 h1 h2 hr hR hS hL hM hb
 unfold Gives
 by_cases hnm : n = m
 ·subst hnm
  have hd : ((n : Int) != (n : Int)) = false := by simp
  go_enter Try.func48, Try.ntmps48
  go_wp2_with fail
  go_loopw [13] (fun i wr => ∃ j : Nat, j ≤ n ∧ i = .int .i64 j ∧ Hid (Below w.heap.size w wr) ∧ Hid (L.take j = M.take j)) (fun i _ => n - (intOf i).toNat)
  case atStart => exact ⟨0, Nat.zero_le _, rfl, Below.refl _ _, rfl⟩
  case round =>
   obtain ⟨j, hj, rfl, HB, HT⟩ := hrel
   by_cases hjn : j < n
   ·skip
    have g1 : j < ro.length := by rw [HN1.out]; exact hjn
    have g2 : j < so.length := by rw [HN2.out]; exact hjn
    have g3 : j < L.length := by rw [HLL.out]; exact hjn
    have g4 : j < M.length := by rw [HLM.out]; exact hjn
    obtain ⟨b1, o1, rfl, hb10, hb1, hc1⟩ := HR.out.cell HB.out j g1
    obtain ⟨b2, o2, rfl, hb20, hb2, hc2⟩ := HS.out.cell HB.out j g2
    have HP := Lib.hid (show Sl wr wr.heap.size ro[j].a (ro[j].l.map Value.string) from (HR.out.up HB.out).one j g1)
    have HQ := Lib.hid (show Sl wr wr.heap.size so[j].a (so[j].l.map Value.string) from (HS.out.up HB.out).one j g2)
    have HYE := Lib.hid (fun (e : ro[j].l = so[j].l) => take_rows g3 g4 HT.out ((HE.out j g1 g3).trans (e.trans (HF.out j g2 g4).symm)))
    have HNE := Lib.hid (fun (e : ¬ ro[j].l = so[j].l) => (show ¬ L = M from fun e' => e ((HE.out j g1 g3).symm.trans (Eq.trans (by subst e'; rfl) (HF.out j g2 g4)))))
    have HLJ := Lib.hid (HLE.out j g1)
    generalize ro[j] = r at *
    generalize so[j] = s at *
    obtain ⟨bj, hbj⟩ : ∃ x, decide (r.l = s.l) = x := ⟨_, rfl⟩
    have HBJ := Lib.hid hbj
    cases bj
    ·obtain rfl : b = false := by rw [← HBB.out]; exact decide_eq_false (HNE.out (of_decide_eq_false hbj))
     clear hbj
     go_wp2_with fail
     refine wp_region_over (by kernel_rfl) (by kernel_rfl) ?_
     have hov_b1 := fun (E : Over wr) o => E.cell (b := b1) o hb1
     have hov_b2 := fun (E : Over wr) o => E.cell (b := b2) o hb2
     repeat (go_big_quiet_step (first | (go_at_call 17; exact calls_over (same5_any r.l s.l r.a s.a r.c s.c HLJ.out false HBJ.out _ (HP.out.up (Over.h _)) (HQ.out.up (Over.h _))))))
     all_goals (try unfold elV limbV)
     repeat (go_big_quiet_step (first | (go_at_call 17; exact calls_over (same5_any r.l s.l r.a s.a r.c s.c HLJ.out false HBJ.out _ (HP.out.up (Over.h _)) (HQ.out.up (Over.h _))))))
     all_goals (try unfold elV limbV)
     repeat (go_big_quiet_step (first | (go_at_call 17; exact calls_over (same5_any r.l s.l r.a s.a r.c s.c HLJ.out false HBJ.out _ (HP.out.up (Over.h _)) (HQ.out.up (Over.h _))))))
     all_goals (try unfold ciphV)
     refine wpQuiet_nil ?_
     rintro _ ⟨E, rfl⟩
     clear hov_b1 hov_b2
     replace HB := hbu HB E.h
     have HZS := Lib.hid E.h.size
     obtain ⟨w1, hq9⟩ : ∃ W9 : World, E.w = W9 := ⟨_, rfl⟩
     rw [hq9] at HB HZS ⊢
     clear hq9 E
     go_wp2_with fail
     go_ret
     exact ⟨rfl, HB.out⟩
    ·have HTS := Lib.hid (HYE.out (of_decide_eq_true hbj))
     clear hbj
     go_wp2_with fail
     refine wp_region_over (by kernel_rfl) (by kernel_rfl) ?_
     have hov_b1 := fun (E : Over wr) o => E.cell (b := b1) o hb1
     have hov_b2 := fun (E : Over wr) o => E.cell (b := b2) o hb2
     repeat (go_big_quiet_step (first | (go_at_call 17; exact calls_over (same5_any r.l s.l r.a s.a r.c s.c HLJ.out true HBJ.out _ (HP.out.up (Over.h _)) (HQ.out.up (Over.h _))))))
     all_goals (try unfold elV limbV)
     repeat (go_big_quiet_step (first | (go_at_call 17; exact calls_over (same5_any r.l s.l r.a s.a r.c s.c HLJ.out true HBJ.out _ (HP.out.up (Over.h _)) (HQ.out.up (Over.h _))))))
     all_goals (try unfold elV limbV)
     repeat (go_big_quiet_step (first | (go_at_call 17; exact calls_over (same5_any r.l s.l r.a s.a r.c s.c HLJ.out true HBJ.out _ (HP.out.up (Over.h _)) (HQ.out.up (Over.h _))))))
     all_goals (try unfold ciphV)
     refine wpQuiet_nil ?_
     rintro _ ⟨E, rfl⟩
     clear hov_b1 hov_b2
     replace HB := hbu HB E.h
     have HZS := Lib.hid E.h.size
     obtain ⟨w1, hq9⟩ : ∃ W9 : World, E.w = W9 := ⟨_, rfl⟩
     rw [hq9] at HB HZS ⊢
     clear hq9 E
     go_wp2_with fail
     go_roundw
     case rel => exact ⟨j + 1, by omega, by go_num, HB, HTS⟩
     case measure => simp [intOf]; omega
   ·have hjn' : j = n := by omega
    subst hjn'
    obtain rfl : b = true := by
     rw [← HBB.out]
     refine decide_eq_true ?_
     have h9 := HT.out
     rwa [List.take_of_length_le (by rw [HLL.out]; exact Nat.le_refl _), List.take_of_length_le (by rw [HLM.out]; exact Nat.le_refl _)] at h9
    go_wp2_with fail
    go_ret
    exact ⟨rfl, HB.out⟩
 ·have hd : ((n : Int) != (m : Int)) = true := by rw [bne_iff_ne]; omega
  obtain rfl : b = false := by rw [← HBB.out]; exact decide_eq_false (fun e => hnm (by rw [← HLL.out, ← HLM.out, e]))
  clear hnm
  go_enter Try.func48, Try.ntmps48
  go_wp2_with fail
  go_ret
  exact ⟨rfl, Below.refl _ _⟩
theorem sameLists5_true (L : List (List ByteArray)) (n : Nat) (hL : L.length = n) (hn : n ≤ 8796093022206) (hr : ∀ r ∈ L, r.length ≤ 8796093022206) (ro so : List RowA) (h1 : ro.map RowA.l = L) (h2 : so.map RowA.l = L) (a1 a2 : Option Addr) (c1 c2 : Nat) (w : World) (hR : RowsAt w a1 ro) (hS : RowsAt w a2 so) :
  Calls Try.prog 48 #[.slice a1 n c1, .slice a2 n c2] w (Gives (.bool true) w) :=
 sameLists5_any L L n n hL hL hn hr ro so h1 h2 true (decide_eq_true rfl) a1 a2 c1 c2 w hR hS
end Go.Proofs.Ytipgjookfdkciaa
namespace Go.Proofs.Ytipgjookfdkciaa
open Go.RowKit
theorem alive5 (w : World) : Calls Try.prog 52 #[] w fun e w' => e = .returned (.bool true) ∧ Below w.heap.size w w' := by
 have h := fun w => Scalar_some 1 (by decide) (by decide) ⟨#[0, 5]⟩ w
 rw [show isSc (grp 1).q.m (grp 1).size ⟨#[0, 5]⟩ = true by decide +kernel] at h
 have HS := Lib.hid h
 clear h
 go_enter Try.func52, Try.ntmps52
 go_wp2_with fail
 refine (HS.out w).mono ?_
 rintro e w1 ⟨rfl, hb9⟩
 have HB := Lib.hid hb9
 have HZS := Lib.hid hb9.size
 clear hb9
 go_wp2_with fail
 go_ret
 exact ⟨rfl, HB.out⟩
end Go.Proofs.Ytipgjookfdkciaa
namespace Go.Proofs.Ytipgjookfdkciaa
open Go.ChangeShapes Go.WideShapes Go.ChangeAt Go.RowKit
def madeL (k : Int) (o : ByteArray) (xs : List ByteArray) : List (ByteArray × ByteArray × ByteArray × ByteArray) :=
 if (1 ≤ k ∧ k ≤ 3) ∧ isEl (grp k.toNat).q.m (grp k.toNat).size o = true ∧ xs.all (isSc (grp k.toNat).q.m (grp k.toNat).size) = true then xs.map (madeT (grp k.toNat) o) else []
theorem made_any (k : Int) (o : ByteArray) (xs : List ByteArray) (n : Nat) (hxn : xs.length = n) (ax : Option Addr) (cx : Nat) (hn : n ≤ 1000000000000) (w : World) (hX : Sl w w.heap.size ax (xs.map Value.string)) :
  Calls Try.prog 54 #[.int .i64 k, .string o, .slice ax n cx] w (MadeR false (madeL k o xs) w) := by
 unfold madeL
 by_cases hk : 1 ≤ k ∧ k ≤ 3
 ·obtain ⟨j, rfl⟩ : ∃ j : Nat, k = j := ⟨k.toNat, by omega⟩
  simp only [Int.toNat_natCast]
  have h1 : 1 ≤ j := by omega
  have h3 : j ≤ 3 := by omega
  by_cases ho : isEl (grp j).q.m (grp j).size o = true
  ·have h := made_some j h1 h3 o ho xs n hxn ax cx hn _ rfl w hX
   by_cases hs : xs.all (isSc (grp j).q.m (grp j).size) = true
   ·rw [if_pos hs] at h
    rw [if_pos ⟨hk, ho, hs⟩]
    exact h.mono fun _ _ h => h.weak
   ·rw [if_neg hs] at h
    rw [if_neg (fun e => hs e.2.2)]
    exact h.mono fun _ _ h => h.weak
  ·rw [if_neg (fun e => ho e.2.1)]
   exact (made_elem j h1 h3 o (by simpa using ho) _ w).mono fun _ _ h => h.weak
 ·rw [if_neg (fun e => hk e.1)]
  exact (made_none k hk o _ w).mono fun _ _ h => h.weak
theorem mul_s (k : Nat) (h1 : 1 ≤ k) (h3 : k ≤ 3) {a b : ByteArray} (ha : isSc (grp k).q.m (grp k).size a = true) (hb : isSc (grp k).q.m (grp k).size b = true) (w : World) :
  Calls Try.prog 33 #[.int .i64 (k : Int), .string a, .string b] w (Ans (.string (textS (numOf a * numOf b % (grp k).q.m) (grp k).size)) 0 w) := by
 have h := Mul_some k h1 h3 a b w
 unfold recV recE at h
 rw [ha, hb] at h
 exact h
theorem sub_s (k : Nat) (h1 : 1 ≤ k) (h3 : k ≤ 3) {a b : ByteArray} (ha : isSc (grp k).q.m (grp k).size a = true) (hb : isSc (grp k).q.m (grp k).size b = true) (w : World) :
  Calls Try.prog 35 #[.int .i64 (k : Int), .string a, .string b] w (Ans (.string (textS ((numOf a + ((grp k).q.m - numOf b)) % (grp k).q.m) (grp k).size)) 0 w) := by
 have h := Sub_some k h1 h3 a b w
 unfold recV recE at h
 rw [ha, hb] at h
 exact h
theorem nonce_calls {k : Nat} (h1 : 1 ≤ k) (h3 : k ≤ 3) {ch x a : ByteArray} (hc : isSc (grp k).q.m (grp k).size ch = true) (hx : isSc (grp k).q.m (grp k).size x = true) (ha : isSc (grp k).q.m (grp k).size a = true) :
  ∃ p, (∀ w, Calls Try.prog 33 #[.int .i64 (k : Int), .string ch, .string x] w (Ans (.string p) 0 w)) ∧ (∀ w, Calls Try.prog 35 #[.int .i64 (k : Int), .string a, .string p] w (Ans (.string (nonF (grp k) ch x a)) 0 w)) := by
 refine ⟨_, fun w => mul_s k h1 h3 hc hx w, fun w => ?_⟩
 have ok := grp_ok k h1 h3
 have h := sub_s k h1 h3 ha (b := textS (numOf ch * numOf x % (grp k).q.m) (grp k).size) (T_sc ok (grp_fits k h1 h3) (Nat.mod_lt _ ok.q.pos)) w
 have e : numOf (textS (numOf ch * numOf x % (grp k).q.m) (grp k).size) = numOf ch * numOf x % (grp k).q.m := T_num ok (Nat.le_of_lt (Nat.mod_lt _ ok.q.pos)) (grp_fits k h1 h3)
 rw [e] at h
 exact h
theorem hides_nil (k : Int) (o ch : ByteArray) (xs : List ByteArray) (n : Nat) (hxn : xs.length = n) (ax : Option Addr) (cx : Nat) (hn : n ≤ 1000000000000) (h0 : madeL k o xs = []) (v : Value) (w : World) (hX : Sl w w.heap.size ax (xs.map Value.string)) :
  Calls Try.prog 12 #[.int .i64 k, .string o, .slice ax n cx, .string ch, v] w fun e w' => e = .returned (.bool true) ∧ Below w.heap.size w w' := by
 have HM := Lib.hid (fun w1 (hb : Below w.heap.size w w1) => made_any k o xs n hxn ax cx hn w1 (hX.up hb))
 rw [h0] at HM
 clear hX h0
 unfold MadeR at HM
 go_enter Try.func12, Try.ntmps12
 go_wp2_with fail
 refine (alive5 w).mono ?_
 rintro e w1 ⟨rfl, hb9⟩
 have HB := Lib.hid hb9
 have HZS := Lib.hid hb9.size
 clear hb9
 go_wp2_with fail
 refine (HM.out _ HB.out).mono ?_
 rintro e w2 ⟨hb9, a, c, cs, rfl, _⟩
 replace HB := hbu HB hb9
 replace HZS := sz HZS hb9.size
 clear hb9
 go_wp2_with fail
 go_ret
 exact ⟨rfl, HB.out⟩
theorem hides_body (k : Nat) (h1 : 1 ≤ k) (h3 : k ≤ 3) (o ch : ByteArray) (ho : isEl (grp k).q.m (grp k).size o = true) (xs : List ByteArray) (n : Nat) (hxn : xs.length = n) (hxs : xs.all (isSc (grp k).q.m (grp k).size) = true) (ax : Option Addr) (cx : Nat) (hn : n ≤ 1000000000000) (h0 : 0 < n)
  (zs : List ByteArray) (m : Nat) (han : n ≤ m → zs.length = n) (aa : Option Addr) (ca : Nat) (hca : m ≤ ca) (w : World) (hX : Sl w w.heap.size ax (xs.map Value.string)) (hA : Sl w w.heap.size aa (zs.map Value.string)) :
  Calls Try.prog 12 #[.int .i64 (k : Int), .string o, .slice ax n cx, .string ch, .slice aa m ca] w fun e w' => e = .returned (.bool true) ∧ Below w.heap.size w w' := by
 have HM := Lib.hid (fun w1 (hb : Below w.heap.size w w1) => made_some k h1 h3 o ho xs n hxn ax cx hn true hxs w1 (hX.up hb))
 rw [if_pos rfl] at HM
 unfold MadeR at HM
 rw [List.length_map, hxn] at HM
 have HO := Lib.hid ho
 have HXN := Lib.hid hxn
 have HXS := Lib.hid hxs
 have HX := Lib.hid hX
 have HA := Lib.hid hA
 have HAN := Lib.hid han
 clear hX hA ho hxn hxs han
 have hd0 : ((n : Int) == 0) = false := by simp; omega
 by_cases c1 : 64 < n
 ·have hd : decide ((n : Int) > 64) = true := by simp; omega
  go_enter Try.func12, Try.ntmps12
  go_wp2_with fail
  refine (alive5 w).mono ?_
  rintro e w1 ⟨rfl, hb9⟩
  have HB := Lib.hid hb9
  have HZS := Lib.hid hb9.size
  clear hb9
  go_wp2_with fail
  refine (HM.out _ HB.out).mono ?_
  rintro e w2 ⟨hb9, a, c, cs, rfl, hcx, hcs, hco, _, _⟩
  replace HB := hbu HB hb9
  replace HZS := sz HZS hb9.size
  have HCX := Lib.hid hcx
  clear hcx
  have HCS := Lib.hid hcs
  clear hcs
  have HCO := Lib.hid hco
  clear hco hb9
  have BC := Lib.hid (Below.refl w2.heap.size w2)
  have HCL := Lib.hid (show ClaimsAt w2 a (cs.map ClaimB.a) from ⟨by rw [made_cells]; exact HCS.out, fun c hc => by obtain ⟨b, hb, rfl⟩ := List.mem_map.1 hc; exact (HCO.out b hb).1.full⟩)
  clear HCS HCO
  go_wp2_with fail
  go_ret
  exact ⟨rfl, HB.out⟩
 have hd : decide ((n : Int) > 64) = false := by simp; omega
 by_cases c2 : m < n
 ·have hd2 : decide ((m : Int) < (n : Int)) = true := by simp; omega
  go_enter Try.func12, Try.ntmps12
  go_wp2_with fail
  refine (alive5 w).mono ?_
  rintro e w1 ⟨rfl, hb9⟩
  have HB := Lib.hid hb9
  have HZS := Lib.hid hb9.size
  clear hb9
  go_wp2_with fail
  refine (HM.out _ HB.out).mono ?_
  rintro e w2 ⟨hb9, a, c, cs, rfl, hcx, hcs, hco, _, _⟩
  replace HB := hbu HB hb9
  replace HZS := sz HZS hb9.size
  have HCX := Lib.hid hcx
  clear hcx
  have HCS := Lib.hid hcs
  clear hcs
  have HCO := Lib.hid hco
  clear hco hb9
  have BC := Lib.hid (Below.refl w2.heap.size w2)
  have HCL := Lib.hid (show ClaimsAt w2 a (cs.map ClaimB.a) from ⟨by rw [made_cells]; exact HCS.out, fun c hc => by obtain ⟨b, hb, rfl⟩ := List.mem_map.1 hc; exact (HCO.out b hb).1.full⟩)
  clear HCS HCO
  go_wp2_with fail
  go_ret
  exact ⟨rfl, HB.out⟩
 have hd2 : decide ((m : Int) < (n : Int)) = false := by simp; omega
 obtain ⟨bc, hbc⟩ : ∃ b, isSc (grp k).q.m (grp k).size ch = b := ⟨_, rfl⟩
 have hsc := fun w => Scalar_some k h1 h3 ch w
 rw [hbc] at hsc
 have HSC := Lib.hid hsc
 have HBC := Lib.hid hbc
 clear hsc hbc
 cases bc
 ·go_enter Try.func12, Try.ntmps12
  go_wp2_with fail
  refine (alive5 w).mono ?_
  rintro e w1 ⟨rfl, hb9⟩
  have HB := Lib.hid hb9
  have HZS := Lib.hid hb9.size
  clear hb9
  go_wp2_with fail
  refine (HM.out _ HB.out).mono ?_
  rintro e w2 ⟨hb9, a, c, cs, rfl, hcx, hcs, hco, _, _⟩
  replace HB := hbu HB hb9
  replace HZS := sz HZS hb9.size
  have HCX := Lib.hid hcx
  clear hcx
  have HCS := Lib.hid hcs
  clear hcs
  have HCO := Lib.hid hco
  clear hco hb9
  have BC := Lib.hid (Below.refl w2.heap.size w2)
  have HCL := Lib.hid (show ClaimsAt w2 a (cs.map ClaimB.a) from ⟨by rw [made_cells]; exact HCS.out, fun c hc => by obtain ⟨b, hb, rfl⟩ := List.mem_map.1 hc; exact (HCO.out b hb).1.full⟩)
  clear HCS HCO
  go_wp2_with fail
  refine (HSC.out w2).mono ?_
  rintro e w3 ⟨rfl, hb9⟩
  replace BC := hbu BC hb9
  replace HB := hbu HB hb9
  replace HZS := sz HZS hb9.size
  clear hb9
  go_wp2_with fail
  go_ret
  exact ⟨rfl, HB.out⟩
 have hnm : n ≤ m := by omega
 have HAL := Lib.hid (HAN.out hnm)
 have HNL := Lib.hid (show (nonL (grp k) ch xs zs).length = n by unfold nonL; rw [List.length_zipWith, HXN.out, HAL.out, Nat.min_self])
 have HSA := Lib.hid (fun a w => Scalar_some k h1 h3 a w)
 have HNC := Lib.hid (fun x a hx ha => nonce_calls h1 h3 (ch := ch) (x := x) (a := a) HBC.out hx ha)
 go_enter Try.func12, Try.ntmps12
 go_wp2_with fail
 refine (alive5 w).mono ?_
 rintro e w1 ⟨rfl, hb9⟩
 have HB := Lib.hid hb9
 have HZS := Lib.hid hb9.size
 clear hb9
 go_wp2_with fail
 refine (HM.out _ HB.out).mono ?_
 rintro e w2 ⟨hb9, a, c, cs, rfl, hcx, hcs, hco, _, _⟩
 replace HB := hbu HB hb9
 replace HZS := sz HZS hb9.size
 have HCX := Lib.hid hcx
 clear hcx
 have HCS := Lib.hid hcs
 clear hcs
 have HCO := Lib.hid hco
 clear hco hb9
 have BC := Lib.hid (Below.refl w2.heap.size w2)
 have HCL := Lib.hid (show ClaimsAt w2 a (cs.map ClaimB.a) from ⟨by rw [made_cells]; exact HCS.out, fun c hc => by obtain ⟨b, hb, rfl⟩ := List.mem_map.1 hc; exact (HCO.out b hb).1.full⟩)
 clear HCS HCO
 go_wp2_with fail
 refine (HSC.out w2).mono ?_
 rintro e w3 ⟨rfl, hb9⟩
 replace BC := hbu BC hb9
 replace HB := hbu HB hb9
 replace HZS := sz HZS hb9.size
 clear hb9
 have BL := Lib.hid (Below.refl w3.heap.size w3)
 go_wp2_with fail
 go_loopw [56, 12] (fun i v wr => ∃ (j : Nat) (g : Option Addr) (c9 : Nat), j ≤ n ∧ i = .int .i64 j ∧ v = .slice g j c9 ∧ Hid ((zs.take j).all (isSc (grp k).q.m (grp k).size) = true) ∧ Hid (Below w3.heap.size w3 wr) ∧ Hid (RowO w3.heap.size wr 9 1 (.slice g j c9) j (((nonL (grp k) ch xs zs).take j).map Value.string))) (fun i _ _ => n - (intOf i).toNat)
 case atStart => exact ⟨0, none, 0, Nat.zero_le _, rfl, rfl, rfl, BL, RowO.nil⟩
 case round =>
  obtain ⟨j, g, c9, hj, rfl, rfl, HAS, HL9, Hr⟩ := hrel
  have hb9 := HL9.out
  clear HL9
  replace BC := hbu BC hb9
  replace BL := hbu BL hb9
  replace HB := hbu HB hb9
  replace HZS := sz HZS hb9.size
  clear hb9
  by_cases hjn : j < n
  ·have hjx : j < xs.length := by rw [HXN.out]; exact hjn
   have hja : j < zs.length := by rw [HAL.out]; exact hjn
   have hjl : j < (nonL (grp k) ch xs zs).length := by rw [HNL.out]; exact hjn
   obtain ⟨bx, ox, rfl, hbx0, hbx, hcx⟩ := HX.out.atUp HB.out j (by simpa using hjx)
   obtain ⟨ba, oa, rfl, hba0, hba, hca9⟩ := HA.out.atUp HB.out j (by simpa using hja)
   rw [List.getElem_map] at hcx hca9
   have HXJ := Lib.hid (List.all_eq_true.1 HXS.out _ (List.getElem_mem hjx))
   have HTK := Lib.hid (show (nonL (grp k) ch xs zs).take (j + 1) = (nonL (grp k) ch xs zs).take j ++ [nonF (grp k) ch xs[j] zs[j]] by rw [List.take_succ_eq_append_getElem hjl]; simp only [nonL, List.getElem_zipWith])
   have HALS := Lib.hid (fun h => all_snoc (f := isSc (grp k).q.m (grp k).size) hja HAS.out h)
   generalize xs[j] = x at *
   generalize zs[j] = a9 at *
   obtain ⟨bj, hbj⟩ : ∃ b, isSc (grp k).q.m (grp k).size a9 = b := ⟨_, rfl⟩
   have hs9 := HSA.out a9
   rw [hbj] at hs9
   have HS9 := Lib.hid hs9
   have HBJ := Lib.hid hbj
   clear hs9 hbj
   have HCX9 := Lib.hid hcx
   have HCA9 := Lib.hid hca9
   cases bj
   ·go_wp2_with fail
    refine (HS9.out wr).mono ?_
    rintro e w4 ⟨rfl, hb9⟩
    replace Hr := Lib.hid (Hr.out.up hb9)
    replace BC := hbu BC hb9
    replace BL := hbu BL hb9
    replace HB := hbu HB hb9
    replace HZS := sz HZS hb9.size
    clear hb9
    go_wp2_with fail
    go_ret
    exact ⟨rfl, HB.out⟩
   ·obtain ⟨p, hp1, hp2⟩ := HNC.out x a9 HXJ.out HBJ.out
    have HP1 := Lib.hid hp1
    have HP2 := Lib.hid hp2
    have HA9 := Lib.hid (HALS.out HBJ.out)
    clear hp1 hp2
    generalize nonF (grp k) ch x a9 = z at *
    have BW := Lib.hid (Below.refl wr.heap.size wr)
    go_wp2_with fail
    refine (HS9.out wr).mono ?_
    rintro e w4 ⟨rfl, hb9⟩
    replace Hr := Lib.hid (Hr.out.up hb9)
    replace BC := hbu BC hb9
    replace BL := hbu BL hb9
    replace BW := hbu BW hb9
    replace HB := hbu HB hb9
    replace HZS := sz HZS hb9.size
    clear hb9
    go_wp2_with fail
    refine (HP1.out w4).mono ?_
    rintro e w5 ⟨rfl, hb9⟩
    replace Hr := Lib.hid (Hr.out.up hb9)
    replace BC := hbu BC hb9
    replace BL := hbu BL hb9
    replace BW := hbu BW hb9
    replace HB := hbu HB hb9
    replace HZS := sz HZS hb9.size
    clear hb9 hca9
    have hca9 := (BW.out.cell (p := ⟨ba, oa + j, none⟩) hba).trans HCA9.out
    go_wp2_with fail
    refine (HP2.out w5).mono ?_
    rintro e w6 ⟨rfl, hb9⟩
    replace Hr := Lib.hid (Hr.out.up hb9)
    replace BC := hbu BC hb9
    replace BL := hbu BL hb9
    replace BW := hbu BW hb9
    replace HB := hbu HB hb9
    replace HZS := sz HZS hb9.size
    clear hb9 hca9
    obtain ⟨i9, hi9, hz90, hz91, hz92⟩ := info_parts infoStr
    go_wp2_with (at_builtin; refine wpList_pushR (w3.heap.size) w6 (by have g0 := HZS.out; omega) rfl _ _ 22 rfl 9 i9 _ 1 16 Try.underlying22 hi9 hz90 hz91 hz92 rfl (by omega) ((.slice g j c9)) (j) ((((nonL (grp k) ch xs zs).take j).map Value.string)) rfl Hr.out _ _ _ rfl rfl rfl (by simp [Value.oneCell']) (by omega) (by unfold maxLen; omega) ?_)
    intro g7 c7 w7 hown9 hg9
    have hb9 := Below.grown HB.out hg9 (by have g0 := HZS.out; omega) (fun q hq => Nat.le_trans (show w.heap.size ≤ w3.heap.size by have g0 := HZS.out; omega) (Hr.out.lt q hq).1)
    replace BC := Lib.hid (Below.grown BC.out hg9 (by have g0 := HZS.out; omega) (fun q hq => Nat.le_trans (show w2.heap.size ≤ w3.heap.size by have g0 := HZS.out; omega) (Hr.out.lt q hq).1))
    replace BL := Lib.hid (Below.grown BL.out hg9 (by have g0 := HZS.out; omega) (fun q hq => Nat.le_trans (show w3.heap.size ≤ w3.heap.size by have g0 := HZS.out; omega) (Hr.out.lt q hq).1))
    replace HZS := sz HZS hg9.size
    clear Hr HB
    have Hr := Lib.hid hown9
    have HB := Lib.hid hb9
    clear hb9 hown9 hg9 hi9 hz90 hz91 hz92
    go_wp2_with fail
    go_roundw
    case rel => exact ⟨j + 1, _, _, by omega, by go_num, rfl, HA9, BL, Hr.out.eq (by rw [HTK.out, List.map_append]; first | rfl | (rw [List.map_take]; rfl)) rfl⟩
    case measure => simp [intOf]; omega
  ·have hjn' : j = n := by omega
   obtain rfl : n = j := by omega
   have HAS2 := Lib.hid (show zs.all (isSc (grp k).q.m (grp k).size) = true by have h9 := HAS.out; rwa [List.take_of_length_le (by rw [HAL.out]; exact Nat.le_refl _)] at h9)
   obtain ⟨e1, e2, e3⟩ := hides_any h1 h3 HO.out HCX.out (by rw [HXN.out]; omega) (by rw [HXN.out]; omega) (by rw [HAL.out, HXN.out]) HAS2.out HBC.out
   have hcl : (cs.map ClaimB.a).length = n := by rw [List.length_map, (made_at HCX.out).1, HXN.out]
   have hbk := fun W hc hs => sBack_any (k : Int) (cs.map ClaimB.a) a c ch zs aa ca (by rw [HAL.out]; omega) W hc hs
   have hfs := fun W hc hs => sFirst_any (k : Int) (cs.map ClaimB.a) a c (nonL (grp k) ch xs zs) g c9 (by rw [HNL.out]; omega) W hc hs
   have hsm := backK_small (k : Int) (cs.map ClaimB.a) ch zs
   have hln : (backK (k : Int) (cs.map ClaimB.a) ch zs).length = n := by unfold backK; rw [if_pos e1, eachA_len, hcl]
   rw [e1, hcl, HAL.out] at hbk
   rw [e2, hcl, HNL.out, ← e3] at hfs
   obtain ⟨L, hL⟩ : ∃ L, backK (k : Int) (cs.map ClaimB.a) ch zs = L := ⟨_, rfl⟩
   rw [hL] at hbk hfs hsm hln
   unfold RowsE at hbk hfs
   rw [hln] at hbk hfs
   have HBK := Lib.hid hbk
   have HFS := Lib.hid hfs
   have HLN := Lib.hid hln
   have SR := Lib.hid (fun r hr => Nat.le_trans (hsm.2 r hr) (by decide : 8 ≤ 8796093022206))
   have HNS := Lib.hid (show (nonL (grp k) ch xs zs).take n = nonL (grp k) ch xs zs from List.take_of_length_le (by rw [HNL.out]; exact Nat.le_refl _))
   rw [HNS.out] at Hr
   clear e1 e2 e3 hcl hbk hfs hsm hln hL HAS
   have hdn : ((n : Int) == (n : Int)) = true := by simp
   go_wp2_with fail
   refine (HBK.out wr (HCL.out.up BC.out) (HA.out.up HB.out)).mono ?_
   rintro e w4 ⟨hb9, a1, c1, ro1, rfl, hm1, hr1, _⟩
   replace Hr := Lib.hid (Hr.out.up hb9)
   replace BC := hbu BC hb9
   replace BL := hbu BL hb9
   replace HB := hbu HB hb9
   replace HZS := sz HZS hb9.size
   have HM1 := Lib.hid hm1
   clear hm1
   have HR1 := Lib.hid hr1
   clear hr1 hb9
   have BF := Lib.hid (Below.refl w4.heap.size w4)
   go_wp2_with fail
   refine (HFS.out w4 (HCL.out.up BC.out) Hr.out.sl).mono ?_
   rintro e w5 ⟨hb9, a2, c2, ro2, rfl, hm2, hr2, _⟩
   replace Hr := Lib.hid (Hr.out.up hb9)
   replace BC := hbu BC hb9
   replace BL := hbu BL hb9
   replace BF := hbu BF hb9
   replace HB := hbu HB hb9
   replace HZS := sz HZS hb9.size
   have HM2 := Lib.hid hm2
   clear hm2
   have HR2 := Lib.hid hr2
   clear hr2 hb9
   go_wp2_with fail
   refine (sameLists5_true L n HLN.out (by omega) SR.out ro1 ro2 HM1.out HM2.out a1 a2 c1 c2 w5 (HR1.out.up BF.out) HR2.out).mono ?_
   rintro e w6 ⟨rfl, hb9⟩
   replace Hr := Lib.hid (Hr.out.up hb9)
   replace BC := hbu BC hb9
   replace BL := hbu BL hb9
   replace BF := hbu BF hb9
   replace HB := hbu HB hb9
   replace HZS := sz HZS hb9.size
   clear hb9
   go_wp2_with fail
   go_ret
   exact ⟨by simp, HB.out⟩
theorem sigmaHides_any (k : Int) (o ch : ByteArray) (xs zs : List ByteArray) (ax aa : Option Addr) (cx ca : Nat) (hn : xs.length ≤ 1000000000000) (hca : zs.length ≤ ca) (w : World) (hX : Sl w w.heap.size ax (xs.map Value.string)) (hA : Sl w w.heap.size aa (zs.map Value.string)) :
  Calls Try.prog 12 #[.int .i64 k, .string o, .slice ax xs.length cx, .string ch, .slice aa zs.length ca] w fun e w' => e = .returned (.bool true) ∧ Below w.heap.size w w' := by
 by_cases h : (1 ≤ k ∧ k ≤ 3) ∧ isEl (grp k.toNat).q.m (grp k.toNat).size o = true ∧ xs.all (isSc (grp k.toNat).q.m (grp k.toNat).size) = true
 ·obtain ⟨hk, ho, hs⟩ := h
  by_cases h0 : 0 < xs.length
  ·obtain ⟨j, rfl⟩ : ∃ j : Nat, k = j := ⟨k.toNat, by omega⟩
   simp only [Int.toNat_natCast] at ho hs
   refine hides_body j (by omega) (by omega) o ch ho xs _ rfl hs ax cx hn h0 (zs.take xs.length) zs.length (fun h => by rw [List.length_take]; omega) aa ca hca w hX (Sl.app_left (ys := (zs.drop xs.length).map Value.string) ?_)
   rw [← List.map_append, List.take_append_drop]
   exact hA
  ·refine hides_nil k o ch xs _ rfl ax cx hn ?_ _ w hX
   have : xs = [] := List.length_eq_zero_iff.1 (by omega)
   subst this
   unfold madeL
   split <;> rfl
 ·exact hides_nil k o ch xs _ rfl ax cx hn (if_neg h) _ w hX
theorem sigmaHides_calls {H : Type} (enc : TypeId × Value → H) (W : World) (base : Nat) {v0 v1 v2 v3 v4 : Value} {d0 d1 d2 d3 d4 : DataW H} {p0 p1 p2 p3 p4 : List MemPlace}
  (h0 : DataW.Trod enc Try.prog W 0 (fun _ => true) true 3 v0 d0 p0) (h1 : DataW.Trod enc Try.prog W 0 (fun _ => true) true 9 v1 d1 p1) (h2 : DataW.Trod enc Try.prog W 0 (fun _ => true) true 22 v2 d2 p2) (h3 : DataW.Trod enc Try.prog W 0 (fun _ => true) true 9 v3 d3 p3) (h4 : DataW.Trod enc Try.prog W 0 (fun _ => true) true 22 v4 d4 p4)
  (k0 : Value.okWide Try.prog W .any base 3 v0) (k1 : Value.okWide Try.prog W .any base 9 v1) (k2 : Value.okWide Try.prog W .any base 22 v2) (k3 : Value.okWide Try.prog W .any base 9 v3) (k4 : Value.okWide Try.prog W .any base 22 v4)
  (_lt0 : ∀ x ∈ p0, x.block < W.heap.size) (_lt1 : ∀ x ∈ p1, x.block < W.heap.size) (_lt2 : ∀ x ∈ p2, x.block < W.heap.size) (_lt3 : ∀ x ∈ p3, x.block < W.heap.size) (_lt4 : ∀ x ∈ p4, x.block < W.heap.size)
  (hsz : Rows.uptoSmall H ([d0, d1, d2, d3, d4] ++ []) = true) :
  Calls Try.prog 12 #[v0, v1, v2, v3, v4] W fun e w' => e = .returned (.bool true) ∧ Below W.heap.size W w' := by
 obtain ⟨k, rfl, _, _, _⟩ := open_int Try.underlying3 k0 h0
 obtain ⟨o, rfl, _⟩ := Go.ChangeMaps.open_string Try.underlying9 k1 h1
 obtain ⟨ch, rfl, _⟩ := Go.ChangeMaps.open_string Try.underlying9 k3 h3
 obtain ⟨b2, n2, m2, rfl⟩ := okWide_slice Try.underlying22 k2
 obtain ⟨b4, n4, m4, rfl⟩ := okWide_slice Try.underlying22 k4
 have hB : Rows.uptoBulkAll [d0, d1, d2, d3, d4] ≤ 1048576 := of_decide_eq_true hsz
 have hB2 := Nat.le_trans (bulk_part (d := d2) (l := [d0, d1, d2, d3, d4]) (by simp)) hB
 have hB4 := Nat.le_trans (bulk_part (d := d4) (l := [d0, d1, d2, d3, d4]) (by simp)) hB
 obtain ⟨f2, h2⟩ := h2
 obtain ⟨f4, h4⟩ := h4
 have hc4 := open_capW Try.underlying22 h4
 obtain ⟨ax, cx, xs, e2, hx, hX⟩ := open_strs Try.underlying22 Try.underlying9 str_cells hB2 h2
 obtain ⟨aa, ca, zs, e4, _, hA⟩ := open_strs Try.underlying22 Try.underlying9 str_cells hB4 h4
 simp only [Value.slice.injEq] at e4
 obtain ⟨rfl, rfl, rfl⟩ := e4
 rw [e2]
 exact sigmaHides_any k o ch xs zs ax b4 cx m4 (by omega) hc4 W hX hA
theorem sigmaHides_lifted (os : Os) (started : os.Started) (H : Type) (enc : TypeId × Value → H) (F : Stop.Interp) :
  ReturnsInHanded {} Try.checked os 12 .any ((Rows.OpenSpec.upto Rows.sigmaHidesSpec).pre6 enc Try.prog Try.f12 Rows.sigmaHidesUptoRow.domain false) (((Rows.OpenSpec.upto Rows.sigmaHidesSpec).at F).post enc Try.prog Try.f12 false true false false) := by
 refine returnsInHanded_of_cond (C := Try.checked) (s := Rows.OpenSpec.upto Rows.sigmaHidesSpec) (k := Rows.uptoSmall) rfl law_own started (by kernel_rfl) Try.func12
  (OpenSpec.witness (enc := enc) (C := Try.checked) (s := Rows.OpenSpec.upto Rows.sigmaHidesSpec) (k := Rows.uptoSmall) rfl false ⟨#[], #[.int .i64 0, .string ⟨#[]⟩, .slice none 0 0, .string ⟨#[]⟩, .slice none 0 0], []⟩ 8 (by kernel_rfl) (by kernel_rfl) (by kernel_rfl)
   (x := ([.lit (.int .i64 0), .lit (.string []), .nil, .lit (.string []), .nil], [], [])) (by kernel_rfl) rfl (by kernel_rfl)) ?_
 intro W base args ds gs before hval0 hW _ hsz0 _
 have hsz : Rows.uptoSmall H (ds ++ gs) = true := hsz0
 clear hsz0
 have hval : ∀ (j : Nat) t v, Try.f12.params[j]? = some t → args[j]? = some v → Value.okWide Try.prog W .any base t v := hval0
 have hW' := hW
 obtain ⟨p, q, hA0, hV, rfl, _, _⟩ := hW
 have hA : DataW.TrodAll enc Try.prog W 0 (fun _ => true) true Try.f12.params.toList args.toList ds p := hA0
 rw [Try.params12] at hA hval
 obtain ⟨v0, vs0, d0, ds0, p0, q0, hargs, rfl, rfl, h0, r0⟩ := trodAll_cons hA
 obtain ⟨v1, vs1, d1, ds1, p1, q1, rfl, rfl, rfl, h1, r1⟩ := trodAll_cons r0
 obtain ⟨v2, vs2, d2, ds2, p2, q2, rfl, rfl, rfl, h2, r2⟩ := trodAll_cons r1
 obtain ⟨v3, vs3, d3, ds3, p3, q3, rfl, rfl, rfl, h3, r3⟩ := trodAll_cons r2
 obtain ⟨v4, vs4, d4, ds4, p4, q4, rfl, rfl, rfl, h4, r4⟩ := trodAll_cons r3
 obtain ⟨rfl, rfl, rfl⟩ := trodAll_nil r4
 obtain rfl : args = #[v0, v1, v2, v3, v4] := by cases args; simp_all
 obtain ⟨rfl, rfl⟩ := trodVars_none hV
 have lt0 : ∀ x ∈ p0, x.block < W.heap.size := by obtain ⟨m, hm⟩ := h0; exact DataW.trod_lt m _ _ _ hm
 have lt1 : ∀ x ∈ p1, x.block < W.heap.size := by obtain ⟨m, hm⟩ := h1; exact DataW.trod_lt m _ _ _ hm
 have lt2 : ∀ x ∈ p2, x.block < W.heap.size := by obtain ⟨m, hm⟩ := h2; exact DataW.trod_lt m _ _ _ hm
 have lt3 : ∀ x ∈ p3, x.block < W.heap.size := by obtain ⟨m, hm⟩ := h3; exact DataW.trod_lt m _ _ _ hm
 have lt4 : ∀ x ∈ p4, x.block < W.heap.size := by obtain ⟨m, hm⟩ := h4; exact DataW.trod_lt m _ _ _ hm
 clear hA0 hval0
 refine (sigmaHides_calls enc W base h0 h1 h2 h3 h4 (hval 0 3 v0 rfl rfl) (hval 1 9 v1 rfl rfl) (hval 2 22 v2 rfl rfl) (hval 3 9 v3 rfl rfl) (hval 4 22 v4 rfl rfl) lt0 lt1 lt2 lt3 lt4 hsz).mono fun e W' ⟨he, bel⟩ => ?_
 subst he
 exact ⟨_, rfl, _, _, _, [], _, [], hW', trodAll_mk1 (shut_bool Try.underlying4 _), (trodAll_cons_mk (Below.trod law_laidOut (by kernel_rfl) (of_decide_eq_true (by kernel_rfl)) h0 bel lt0) (trodAll_cons_mk (Below.trod law_laidOut (by kernel_rfl) (of_decide_eq_true (by kernel_rfl)) h1 bel lt1) (trodAll_cons_mk (Below.trod law_laidOut (by kernel_rfl) (of_decide_eq_true (by kernel_rfl)) h2 bel lt2) (trodAll_cons_mk (Below.trod law_laidOut (by kernel_rfl) (of_decide_eq_true (by kernel_rfl)) h3 bel lt3) (trodAll_cons_mk (Below.trod law_laidOut (by kernel_rfl) (of_decide_eq_true (by kernel_rfl)) h4 bel lt4) trodAll_mk0))))), rfl, bel.frame _, fun h => by cases h⟩
theorem sigmaHides_holds : Rows.SigmaHidesUptoSaid :=
 OpenClaim.holds_of_cond 12 Try.f12 rfl rfl rfl rfl rfl rfl rfl ⟨rfl, rfl, rfl, rfl, rfl⟩ rfl rfl rfl rfl rfl (by kernel_rfl) Try.func12 (by kernel_rfl)
  (of_decide_eq_true (by kernel_rfl)) (by unfold Func.isWrapper; first | (rw [if_pos (by decide +kernel)]; kernel_rfl) | (rw [if_neg (by decide +kernel)]; exact ⟨rfl, rfl⟩))
  (fun os started H enc _ F => sigmaHides_lifted os started H enc F)
#print axioms sigmaHides_holds
end Go.Proofs.Ytipgjookfdkciaa
