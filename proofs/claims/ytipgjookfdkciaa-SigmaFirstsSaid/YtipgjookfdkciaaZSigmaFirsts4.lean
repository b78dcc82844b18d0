/- Texts of this seat, one behind the other: what SigmaFirsts leans on. No condition beyond those that each names. -/
import Derived.Test.YtipgjookfdkciaaZSigmaFirsts3

/- The package group: Add, Sub, Mul, Inv, Times, Under. No condition. -/
namespace Go.Proofs.Ytipgjookfdkciaa
open Go.RowKit

/-- What a reading answers, its limbs told when it is good. -/
def ReadM (b : Bool) (m : Nat) (w : World) (e : Ending) (w' : World) : Prop := ∃ x : Nat, e = .returned (.tuple #[limbV x, .bool b]) ∧ Below w.heap.size w w' ∧ (b = true → x = m)

theorem ReadR.m {b : Bool} {m : Nat} {w w' : World} {e : Ending} (h : ReadR b (limbV m) w e w') : ReadM b m w e w' := by
  obtain ⟨x, h1, h2, h3⟩ := h
  cases b with
  | true => exact ⟨m, by rw [h1, h3 rfl], h2, fun _ => rfl⟩
  | false => exact ⟨x, h1, h2, fun h => by cases h⟩

theorem gScalar_m (G : GP) (ok : G.Ok) (gb : Nat) (s : ByteArray) (b : Bool) (hb : isSc G.q.m G.size s = b) (w : World) (hG : GroupAt w gb G) :
    Calls Try.prog 59 #[.pointer (some ⟨gb, 0, none⟩), .string s] w (ReadM b (mont G.q.m (numOf s)) w) := by
  subst hb
  exact (gScalar_any G ok gb s w hG).mono fun e w' h => ReadR.m h
theorem gElem_m (G : GP) (ok : G.Ok) (gb : Nat) (s : ByteArray) (b : Bool) (hb : isEl G.q.m G.size s = b) (w : World) (hG : GroupAt w gb G) :
    Calls Try.prog 106 #[.pointer (some ⟨gb, 0, none⟩), .string s] w (ReadM b (mont G.p.m (numOf s)) w) := by
  subst hb
  exact (gElem_any G ok gb s w hG).mono fun e w' h => ReadR.m h


set_option maxRecDepth 100000 in
set_option maxHeartbeats 400000 in
theorem reckon1_no (G : GP) (ok : G.Ok) (gb b1 b2 b3 : Nat) (a b : ByteArray) (ba bb : Bool) (hba : isSc G.q.m G.size a = ba) (hbb : isSc G.q.m G.size b = bb) (hno : (ba && bb) = false) (w : World) (hG : GroupAt w gb G)
    (hc1 : Bx w b1 9 [.string a]) (hc2 : Bx w b2 9 [.string b]) :
    Calls Try.prog 149 #[.pointer (some ⟨gb, 0, none⟩), .pointer (some ⟨b1, 0, none⟩), .pointer (some ⟨b2, 0, none⟩), .pointer (some ⟨b3, 0, none⟩)] w (Ans (.string ⟨#[]⟩) 6 w) := by
  have HA := Lib.hid hba
  have HBB := Lib.hid hbb
  have HC2 := Lib.hid hc2
  have hk1 := hc1.cell (i := 0) rfl
  clear hba hbb hc1 hc2
  have HG := Lib.hid hG
  have OK := Lib.hid ok
  clear hG ok
  go_enter Try.func149, Try.ntmps149
  go_wp2_with fail
  refine (gScalar_m G OK.out gb a ba HA.out w HG.out).mono ?_
  rintro e w1 ⟨x, rfl, hb1, hx⟩
  have HB1 := Lib.hid hb1
  have HX := Lib.hid hx
  clear hb1 hx
  unfold limbV
  obtain ⟨w2, hlw, hlb, hlz⟩ := boxL w1 91 (x)
  have HLw2 := Lib.hid hlb
  have HXw2 := Lib.hid hlz
  clear hlb hlz
  have HB2 := Lib.hid (below_up HB1.out HLw2.out)
  have hk2 := (HC2.out.up HB2.out).cell (i := 0) rfl
  go_wp2_with fail
  refine (gScalar_m G OK.out gb b bb HBB.out w2 (HG.out.up HB2.out)).mono ?_
  rintro e w3 ⟨y, rfl, hb3, hy⟩
  have HB3 := Lib.hid (below_up HB2.out hb3)
  have HX3 := Lib.hid (HXw2.out.below hb3 HXw2.out.lt)
  have HY := Lib.hid hy
  clear hb3 hy hk1 hk2 hlw
  unfold limbV
  obtain ⟨w4, hlw, hlb, hlz⟩ := boxL w3 91 (y)
  have HLw4 := Lib.hid hlb
  have HXw4 := Lib.hid hlz
  clear hlb hlz
  have HB4 := Lib.hid (below_up HB3.out HLw4.out)
  have HX4 := Lib.hid (HX3.out.below HLw4.out HX3.out.lt)
  cases ba
  · go_wp2_with fail
    go_ret2
    exact ⟨rfl, HB4.out⟩
  · cases bb
    · go_wp2_with fail
      go_ret2
      exact ⟨rfl, HB4.out⟩
    · cases hno

set_option maxRecDepth 100000 in
set_option maxHeartbeats 400000 in
theorem reckon1_yes (G : GP) (ok : G.Ok) (gb b1 b2 b3 : Nat) (f : FuncId) (a b : ByteArray) (z : Nat) (hba : isSc G.q.m G.size a = true) (hbb : isSc G.q.m G.size b = true) (hent : Enters Try.prog f) (w : World) (hG : GroupAt w gb G)
    (hc1 : Bx w b1 9 [.string a]) (hc2 : Bx w b2 9 [.string b]) (hc3 : Bx w b3 140 [.func (.func f) #[] #[]])
    (hcall : ∀ w1, GroupAt w1 gb G → Calls Try.prog f #[.pointer (some ⟨gb, 0, none⟩), scV G (numOf a), scV G (numOf b)] w1 fun e w' => e = .returned (scV G z) ∧ Below w1.heap.size w1 w') :
    Calls Try.prog 149 #[.pointer (some ⟨gb, 0, none⟩), .pointer (some ⟨b1, 0, none⟩), .pointer (some ⟨b2, 0, none⟩), .pointer (some ⟨b3, 0, none⟩)] w (Ans (.string (textS (z % G.q.m) G.size)) 0 w) := by
  have HCALL := Lib.hid hcall
  clear hcall
  have hcf : ∀ (args : Array Value) (w : World), (callFunc f args).run Try.prog w = .ok (.enter f args) w := hent
  clear hent
  have HC3 := Lib.hid hc3
  clear hc3
  obtain ⟨ba, hba'⟩ : ∃ b, b = true := ⟨true, rfl⟩
  obtain ⟨bb, hbb'⟩ : ∃ b, b = true := ⟨true, rfl⟩
  have HT1 := Lib.hid hba'
  have HT2 := Lib.hid hbb'
  rw [← hba'] at hba
  rw [← hbb'] at hbb
  clear hba' hbb'
  have HA := Lib.hid hba
  have HBB := Lib.hid hbb
  have HC2 := Lib.hid hc2
  have hk1 := hc1.cell (i := 0) rfl
  clear hba hbb hc1 hc2
  have HG := Lib.hid hG
  have OK := Lib.hid ok
  clear hG ok
  go_enter Try.func149, Try.ntmps149
  go_wp2_with fail
  refine (gScalar_m G OK.out gb a ba HA.out w HG.out).mono ?_
  rintro e w1 ⟨x, rfl, hb1, hx⟩
  have HB1 := Lib.hid hb1
  have HX := Lib.hid hx
  clear hb1 hx
  unfold limbV
  obtain ⟨w2, hlw, hlb, hlz⟩ := boxL w1 91 (x)
  have HLw2 := Lib.hid hlb
  have HXw2 := Lib.hid hlz
  clear hlb hlz
  have HB2 := Lib.hid (below_up HB1.out HLw2.out)
  have hk2 := (HC2.out.up HB2.out).cell (i := 0) rfl
  go_wp2_with fail
  refine (gScalar_m G OK.out gb b bb HBB.out w2 (HG.out.up HB2.out)).mono ?_
  rintro e w3 ⟨y, rfl, hb3, hy⟩
  have HB3 := Lib.hid (below_up HB2.out hb3)
  have HX3 := Lib.hid (HXw2.out.below hb3 HXw2.out.lt)
  have HY := Lib.hid hy
  clear hb3 hy hk1 hk2 hlw
  unfold limbV
  obtain ⟨w4, hlw, hlb, hlz⟩ := boxL w3 91 (y)
  have HLw4 := Lib.hid hlb
  have HXw4 := Lib.hid hlz
  clear hlb hlz
  have HB4 := Lib.hid (below_up HB3.out HLw4.out)
  have HX4 := Lib.hid (HX3.out.below HLw4.out HX3.out.lt)
  obtain rfl := HT1.out
  obtain rfl := HT2.out
  have hk3 := (HC3.out.up HB4.out).cell (i := 0) rfl
  obtain rfl : x = mont G.q.m (numOf a) := HX.out rfl
  obtain rfl : y = mont G.q.m (numOf b) := HY.out rfl
  have hx_ := Blk.l4 (mont G.q.m (numOf a)) HX4.out
  have hy_ := Blk.l4 (mont G.q.m (numOf b)) HXw4.out
  go_wp2_with fail
  refine (HCALL.out w4 (HG.out.up HB4.out)).mono ?_
  rintro e w5 ⟨rfl, hb5⟩
  have HB5 := Lib.hid (below_up HB4.out hb5)
  clear hb5
  go_wp2_with fail
  refine (gPut_any G OK.out gb z w5 (HG.out.up HB5.out)).mono ?_
  rintro e w6 ⟨rfl, hb6⟩
  have HB6 := Lib.hid (below_up HB5.out hb6)
  clear hb6
  go_wp2_with fail
  go_ret2
  exact ⟨rfl, HB6.out⟩

set_option maxRecDepth 100000 in
set_option maxHeartbeats 400000 in
theorem inv1_no (G : GP) (ok : G.Ok) (gb b1 : Nat) (a : ByteArray) (hba : isSc G.q.m G.size a = false) (w : World) (hG : GroupAt w gb G)
    (hc1 : Bx w b1 9 [.string a]) :
    Calls Try.prog 94 #[.pointer (some ⟨gb, 0, none⟩), .pointer (some ⟨b1, 0, none⟩)] w (Ans (.string ⟨#[]⟩) 6 w) := by
  have HA := Lib.hid hba
  have hk1 := hc1.cell (i := 0) rfl
  clear hba hc1
  have HG := Lib.hid hG
  have OK := Lib.hid ok
  clear hG ok
  go_enter Try.func94, Try.ntmps94
  go_wp2_with fail
  refine (gScalar_m G OK.out gb a _ HA.out w HG.out).mono ?_
  rintro e w1 ⟨x, rfl, hb1, hx⟩
  have HB1 := Lib.hid hb1
  have HX := Lib.hid hx
  clear hb1 hx
  unfold limbV
  obtain ⟨w2, hlw, hlb, hlz⟩ := boxL w1 91 (x)
  have HLw2 := Lib.hid hlb
  have HXw2 := Lib.hid hlz
  clear hlb hlz
  have HB2 := Lib.hid (below_up HB1.out HLw2.out)
  go_wp2_with fail
  go_ret2
  exact ⟨rfl, HB2.out⟩

set_option maxRecDepth 100000 in
set_option maxHeartbeats 400000 in
theorem inv1_zero (G : GP) (ok : G.Ok) (gb b1 : Nat) (a : ByteArray) (hba : isSc G.q.m G.size a = true) (h0 : numOf a % G.q.m = 0) (w : World) (hG : GroupAt w gb G)
    (hc1 : Bx w b1 9 [.string a]) :
    Calls Try.prog 94 #[.pointer (some ⟨gb, 0, none⟩), .pointer (some ⟨b1, 0, none⟩)] w (Ans (.string ⟨#[]⟩) 5 w) := by
  have HD : Hid (decide (numOf a % G.q.m = 0) = true) := by show _ = _; simp [h0]
  clear h0
  have HA := Lib.hid hba
  have hk1 := hc1.cell (i := 0) rfl
  clear hba hc1
  have HG := Lib.hid hG
  have OK := Lib.hid ok
  clear hG ok
  go_enter Try.func94, Try.ntmps94
  go_wp2_with fail
  refine (gScalar_m G OK.out gb a _ HA.out w HG.out).mono ?_
  rintro e w1 ⟨x, rfl, hb1, hx⟩
  have HB1 := Lib.hid hb1
  have HX := Lib.hid hx
  clear hb1 hx
  unfold limbV
  obtain ⟨w2, hlw, hlb, hlz⟩ := boxL w1 91 (x)
  have HLw2 := Lib.hid hlb
  have HXw2 := Lib.hid hlz
  clear hlb hlz
  have HB2 := Lib.hid (below_up HB1.out HLw2.out)
  obtain rfl : x = mont G.q.m (numOf a) := HX.out rfl
  have hx_ := Blk.l4 (mont G.q.m (numOf a)) HXw2.out
  go_wp2_with fail
  refine (gZero_any G OK.out (numOf a) w2).mono ?_
  rintro e w3 ⟨rfl, hb3⟩
  have HB3 := Lib.hid (below_up HB2.out hb3)
  rw [HD.out]
  go_wp2_with fail
  go_ret2
  exact ⟨rfl, HB3.out⟩

set_option maxRecDepth 100000 in
set_option maxHeartbeats 400000 in
theorem inv1_yes (G : GP) (ok : G.Ok) (gb b1 : Nat) (a : ByteArray) (hba : isSc G.q.m G.size a = true) (h0 : numOf a % G.q.m ≠ 0) (w : World) (hG : GroupAt w gb G)
    (hc1 : Bx w b1 9 [.string a]) :
    Calls Try.prog 94 #[.pointer (some ⟨gb, 0, none⟩), .pointer (some ⟨b1, 0, none⟩)] w (Ans (.string (textS (numOf a ^ (G.q.m - 2) % G.q.m) G.size)) 0 w) := by
  have HD : Hid (decide (numOf a % G.q.m = 0) = false) := by show _ = _; simp [h0]
  clear h0
  have HA := Lib.hid hba
  have hk1 := hc1.cell (i := 0) rfl
  clear hba hc1
  have HG := Lib.hid hG
  have OK := Lib.hid ok
  clear hG ok
  go_enter Try.func94, Try.ntmps94
  go_wp2_with fail
  refine (gScalar_m G OK.out gb a _ HA.out w HG.out).mono ?_
  rintro e w1 ⟨x, rfl, hb1, hx⟩
  have HB1 := Lib.hid hb1
  have HX := Lib.hid hx
  clear hb1 hx
  unfold limbV
  obtain ⟨w2, hlw, hlb, hlz⟩ := boxL w1 91 (x)
  have HLw2 := Lib.hid hlb
  have HXw2 := Lib.hid hlz
  clear hlb hlz
  have HB2 := Lib.hid (below_up HB1.out HLw2.out)
  obtain rfl : x = mont G.q.m (numOf a) := HX.out rfl
  have HX2 := HXw2
  have hx_ := Blk.l4 (mont G.q.m (numOf a)) HXw2.out
  go_wp2_with fail
  refine (gZero_any G OK.out (numOf a) w2).mono ?_
  rintro e w3 ⟨rfl, hb3⟩
  have HB3 := Lib.hid (below_up HB2.out hb3)
  have HX3 := Lib.hid (HX2.out.below hb3 HX2.out.lt)
  clear hb3 hx_
  have hx_ := Blk.l4 (mont G.q.m (numOf a)) HX3.out
  rw [HD.out]
  go_wp2_with fail
  refine (gInv_any G OK.out gb (numOf a) w3 (HG.out.up HB3.out)).mono ?_
  rintro e w5 ⟨rfl, hb5⟩
  have HB5 := Lib.hid (below_up HB3.out hb5)
  clear hb5
  go_wp2_with fail
  refine (gPut_any G OK.out gb _ w5 (HG.out.up HB5.out)).mono ?_
  rintro e w6 ⟨rfl, hb6⟩
  have HB6 := Lib.hid (below_up HB5.out hb6)
  clear hb6
  go_wp2_with fail
  go_ret2
  exact ⟨rfl, HB6.out⟩

end Go.Proofs.Ytipgjookfdkciaa

/- The package group: the faces Add, Sub, Mul, Inv, Times, Under. No condition. -/
namespace Go.Proofs.Ytipgjookfdkciaa
open Go.RowKit

theorem box2 (w : World) (v1 v2 : Value) (t1 t2 : TypeId) :
    Below w.heap.size w ((w.alloc (.cells #[v1] t1)).alloc (.cells #[v2] t2)) ∧ Bx ((w.alloc (.cells #[v1] t1)).alloc (.cells #[v2] t2)) w.heap.size t1 [v1] ∧ Bx ((w.alloc (.cells #[v1] t1)).alloc (.cells #[v2] t2)) (w.heap.size + 1) t2 [v2] := by
  have a1 : Below w.heap.size w (w.alloc (.cells #[v1] t1)) := (Below.refl _ _).alloc (Nat.le_refl _) _
  have a2 : Below (w.alloc (.cells #[v1] t1)).heap.size (w.alloc (.cells #[v1] t1)) ((w.alloc (.cells #[v1] t1)).alloc (.cells #[v2] t2)) := (Below.refl _ _).alloc (Nat.le_refl _) _
  refine ⟨below_up a1 a2, (Bx.new w _ _ _ rfl).up a2, ?_⟩
  have h := Bx.new (w.alloc (.cells #[v1] t1)) t2 [v2] _ rfl
  rwa [World.size_alloc] at h

theorem box3 (w : World) (v1 v2 v3 : Value) (t1 t2 t3 : TypeId) :
    Below w.heap.size w (((w.alloc (.cells #[v1] t1)).alloc (.cells #[v2] t2)).alloc (.cells #[v3] t3)) ∧ Bx (((w.alloc (.cells #[v1] t1)).alloc (.cells #[v2] t2)).alloc (.cells #[v3] t3)) w.heap.size t1 [v1]
      ∧ Bx (((w.alloc (.cells #[v1] t1)).alloc (.cells #[v2] t2)).alloc (.cells #[v3] t3)) (w.heap.size + 1) t2 [v2] ∧ Bx (((w.alloc (.cells #[v1] t1)).alloc (.cells #[v2] t2)).alloc (.cells #[v3] t3)) (w.heap.size + 2) t3 [v3] := by
  obtain ⟨h1, h2, h3⟩ := box2 w v1 v2 t1 t2
  have a2 : Below ((w.alloc (.cells #[v1] t1)).alloc (.cells #[v2] t2)).heap.size ((w.alloc (.cells #[v1] t1)).alloc (.cells #[v2] t2)) (((w.alloc (.cells #[v1] t1)).alloc (.cells #[v2] t2)).alloc (.cells #[v3] t3)) := (Below.refl _ _).alloc (Nat.le_refl _) _
  refine ⟨below_up h1 a2, h2.up a2, h3.up a2, ?_⟩
  have h := Bx.new ((w.alloc (.cells #[v1] t1)).alloc (.cells #[v2] t2)) t3 [v3] _ rfl
  rwa [World.size_alloc, World.size_alloc] at h


def recV (G : GP) (a b : ByteArray) (z : Nat) : ByteArray := if (isSc G.q.m G.size a && isSc G.q.m G.size b) = true then textS (z % G.q.m) G.size else ⟨#[]⟩
def recE (G : GP) (a b : ByteArray) : Int := if (isSc G.q.m G.size a && isSc G.q.m G.size b) = true then 0 else 6

set_option maxRecDepth 100000 in
set_option maxHeartbeats 400000 in
theorem reckon_none (k : Int) (hk : ¬ (1 ≤ k ∧ k ≤ 3)) (a b : ByteArray) (f : FuncId) (w : World) : Calls Try.prog 96 #[.int .i64 k, .string a, .string b, .func (.func f) #[] #[]] w (Ans (.string ⟨#[]⟩) 1 w) := by
  go_enter Try.func96, Try.ntmps96
  go_wp2_with fail
  obtain ⟨W0, hW0⟩ : ∃ W9 : World, (((w.alloc (.cells #[.string a] 9)).alloc (.cells #[.string b] 9)).alloc (.cells #[.func (.func f) #[] #[]] 140)) = W9 := ⟨_, rfl⟩
  have hz := box3 w (.string a) (.string b) (.func (.func f) #[] #[]) 9 9 140
  rw [hW0] at hz
  have HZ := Lib.hid hz
  clear hz
  simp only [hW0]
  clear hW0
  refine (withS_none k hk _ W0).mono ?_
  rintro e w1 ⟨rfl, hb⟩
  have HB := Lib.hid (below_up HZ.out.1 hb)
  clear hb
  go_wp2_with fail
  go_ret2
  exact ⟨rfl, HB.out⟩

set_option maxRecDepth 100000 in
set_option maxHeartbeats 400000 in
theorem reckon_some (k : Nat) (h1 : 1 ≤ k) (h3 : k ≤ 3) (a b : ByteArray) (f : FuncId) (z : Nat) (hent : Enters Try.prog f) (w : World)
    (hcall : isSc (grp k).q.m (grp k).size b = true → ∀ gb w1, GroupAt w1 gb (grp k) → Calls Try.prog f #[.pointer (some ⟨gb, 0, none⟩), scV (grp k) (numOf a), scV (grp k) (numOf b)] w1 fun e w' => e = .returned (scV (grp k) z) ∧ Below w1.heap.size w1 w') :
    Calls Try.prog 96 #[.int .i64 (k : Int), .string a, .string b, .func (.func f) #[] #[]] w (Ans (.string (recV (grp k) a b z)) (recE (grp k) a b) w) := by
  have HC := Lib.hid hcall
  have HE := Lib.hid hent
  have OK := Lib.hid (grp_ok k h1 h3)
  clear hcall hent
  go_enter Try.func96, Try.ntmps96
  go_wp2_with fail
  obtain ⟨W0, hW0⟩ : ∃ W9 : World, (((w.alloc (.cells #[.string a] 9)).alloc (.cells #[.string b] 9)).alloc (.cells #[.func (.func f) #[] #[]] 140)) = W9 := ⟨_, rfl⟩
  have hz := box3 w (.string a) (.string b) (.func (.func f) #[] #[]) 9 9 140
  rw [hW0] at hz
  have HZ := Lib.hid hz
  clear hz
  simp only [hW0]
  clear hW0
  refine (withS_some k h1 h3 149 #[.pointer (some ⟨w.heap.size, 0, none⟩), .pointer (some ⟨w.heap.size + 1, 0, none⟩), .pointer (some ⟨w.heap.size + 2, 0, none⟩)] (.string (recV (grp k) a b z)) (recE (grp k) a b) (enters_of Try.func149 (by kernel_rfl) rfl) W0 (fun w1 hb hg => ?_)).mono ?_
  · have z1 := HZ.out.2.1.up hb
    have z2 := HZ.out.2.2.1.up hb
    have z3 := HZ.out.2.2.2.up hb
    unfold recV recE
    by_cases hy : (isSc (grp k).q.m (grp k).size a && isSc (grp k).q.m (grp k).size b) = true
    · rw [if_pos hy, if_pos hy]
      obtain ⟨ya, yb⟩ := Bool.and_eq_true_iff.1 hy
      exact reckon1_yes (grp k) OK.out _ _ _ _ f a b z ya yb HE.out w1 hg z1 z2 z3 (fun w2 hg2 => HC.out yb _ w2 hg2)
    · rw [if_neg hy, if_neg hy]
      exact reckon1_no (grp k) OK.out _ _ _ _ a b _ _ rfl rfl (by simpa using hy) w1 hg z1 z2
  · rintro e w2 ⟨rfl, hb2⟩
    have HB2 := Lib.hid (below_up HZ.out.1 hb2)
    clear hb2
    go_wp2_with fail
    go_ret2
    exact ⟨rfl, HB2.out⟩


theorem isSc_lt {q size : Nat} {s : ByteArray} (h : isSc q size s = true) : numOf s < q := by
  unfold isSc at h
  simp at h
  exact h.2

set_option maxRecDepth 100000 in
set_option maxHeartbeats 400000 in
theorem Add_none (k : Int) (hk : ¬ (1 ≤ k ∧ k ≤ 3)) (a b : ByteArray) (w : World) : Calls Try.prog 34 #[.int .i64 k, .string a, .string b] w (Ans (.string ⟨#[]⟩) 1 w) := by
  go_enter Try.func34, Try.ntmps34
  go_wp2_with fail
  refine (reckon_none k hk a b 75 w).mono ?_
  rintro e w1 ⟨rfl, hb⟩
  have HB := Lib.hid hb
  clear hb
  go_wp2_with fail
  go_ret2
  exact ⟨rfl, HB.out⟩

set_option maxRecDepth 100000 in
set_option maxHeartbeats 400000 in
theorem Add_some (k : Nat) (h1 : 1 ≤ k) (h3 : k ≤ 3) (a b : ByteArray) (w : World) : Calls Try.prog 34 #[.int .i64 (k : Int), .string a, .string b] w (Ans (.string (recV (grp k) a b (numOf a + numOf b))) (recE (grp k) a b) w) := by
  have OK := Lib.hid (grp_ok k h1 h3)
  go_enter Try.func34, Try.ntmps34
  go_wp2_with fail
  refine (reckon_some k h1 h3 a b 75 (numOf a + numOf b) (enters_of Try.func75 (by kernel_rfl) rfl) w (fun hb gb w1 hg => gAdd_any (grp k) OK.out gb (numOf a) (numOf b) w1 hg)).mono ?_
  rintro e w1 ⟨rfl, hb⟩
  have HB := Lib.hid hb
  clear hb
  go_wp2_with fail
  go_ret2
  exact ⟨rfl, HB.out⟩

set_option maxRecDepth 100000 in
set_option maxHeartbeats 400000 in
theorem Sub_none (k : Int) (hk : ¬ (1 ≤ k ∧ k ≤ 3)) (a b : ByteArray) (w : World) : Calls Try.prog 35 #[.int .i64 k, .string a, .string b] w (Ans (.string ⟨#[]⟩) 1 w) := by
  go_enter Try.func35, Try.ntmps35
  go_wp2_with fail
  refine (reckon_none k hk a b 61 w).mono ?_
  rintro e w1 ⟨rfl, hb⟩
  have HB := Lib.hid hb
  clear hb
  go_wp2_with fail
  go_ret2
  exact ⟨rfl, HB.out⟩

set_option maxRecDepth 100000 in
set_option maxHeartbeats 400000 in
theorem Sub_some (k : Nat) (h1 : 1 ≤ k) (h3 : k ≤ 3) (a b : ByteArray) (w : World) : Calls Try.prog 35 #[.int .i64 (k : Int), .string a, .string b] w (Ans (.string (recV (grp k) a b (numOf a + ((grp k).q.m - numOf b)))) (recE (grp k) a b) w) := by
  have OK := Lib.hid (grp_ok k h1 h3)
  go_enter Try.func35, Try.ntmps35
  go_wp2_with fail
  refine (reckon_some k h1 h3 a b 61 (numOf a + ((grp k).q.m - numOf b)) (enters_of Try.func61 (by kernel_rfl) rfl) w (fun hb gb w1 hg => gSub_any (grp k) OK.out gb (numOf a) (numOf b) (Nat.le_of_lt (isSc_lt hb)) w1 hg)).mono ?_
  rintro e w1 ⟨rfl, hb⟩
  have HB := Lib.hid hb
  clear hb
  go_wp2_with fail
  go_ret2
  exact ⟨rfl, HB.out⟩

set_option maxRecDepth 100000 in
set_option maxHeartbeats 400000 in
theorem Mul_none (k : Int) (hk : ¬ (1 ≤ k ∧ k ≤ 3)) (a b : ByteArray) (w : World) : Calls Try.prog 33 #[.int .i64 k, .string a, .string b] w (Ans (.string ⟨#[]⟩) 1 w) := by
  go_enter Try.func33, Try.ntmps33
  go_wp2_with fail
  refine (reckon_none k hk a b 63 w).mono ?_
  rintro e w1 ⟨rfl, hb⟩
  have HB := Lib.hid hb
  clear hb
  go_wp2_with fail
  go_ret2
  exact ⟨rfl, HB.out⟩

set_option maxRecDepth 100000 in
set_option maxHeartbeats 400000 in
theorem Mul_some (k : Nat) (h1 : 1 ≤ k) (h3 : k ≤ 3) (a b : ByteArray) (w : World) : Calls Try.prog 33 #[.int .i64 (k : Int), .string a, .string b] w (Ans (.string (recV (grp k) a b (numOf a * numOf b))) (recE (grp k) a b) w) := by
  have OK := Lib.hid (grp_ok k h1 h3)
  go_enter Try.func33, Try.ntmps33
  go_wp2_with fail
  refine (reckon_some k h1 h3 a b 63 (numOf a * numOf b) (enters_of Try.func63 (by kernel_rfl) rfl) w (fun hb gb w1 hg => gMul_any (grp k) OK.out gb (numOf a) (numOf b) w1 hg)).mono ?_
  rintro e w1 ⟨rfl, hb⟩
  have HB := Lib.hid hb
  clear hb
  go_wp2_with fail
  go_ret2
  exact ⟨rfl, HB.out⟩

theorem box1 (w : World) (v1 : Value) (t1 : TypeId) : Below w.heap.size w (w.alloc (.cells #[v1] t1)) ∧ Bx (w.alloc (.cells #[v1] t1)) w.heap.size t1 [v1] :=
  ⟨(Below.refl _ _).alloc (Nat.le_refl _) _, Bx.new w _ _ _ rfl⟩

set_option maxRecDepth 100000 in
set_option maxHeartbeats 400000 in
theorem Inv_none (k : Int) (hk : ¬ (1 ≤ k ∧ k ≤ 3)) (a : ByteArray) (w : World) : Calls Try.prog 31 #[.int .i64 k, .string a] w (Ans (.string ⟨#[]⟩) 1 w) := by
  go_enter Try.func31, Try.ntmps31
  go_wp2_with fail
  obtain ⟨W0, hW0⟩ : ∃ W9 : World, (w.alloc (.cells #[.string a] 9)) = W9 := ⟨_, rfl⟩
  have hz := box1 w (.string a) 9
  rw [hW0] at hz
  have HZ := Lib.hid hz
  clear hz
  simp only [hW0]
  clear hW0
  refine (withS_none k hk _ W0).mono ?_
  rintro e w1 ⟨rfl, hb⟩
  have HB := Lib.hid (below_up HZ.out.1 hb)
  clear hb
  go_wp2_with fail
  go_ret2
  exact ⟨rfl, HB.out⟩

def invV (G : GP) (a : ByteArray) : ByteArray := if isSc G.q.m G.size a = true ∧ numOf a ≠ 0 then textS (numOf a ^ (G.q.m - 2) % G.q.m) G.size else ⟨#[]⟩
def invE (G : GP) (a : ByteArray) : Int := if isSc G.q.m G.size a = true then (if numOf a = 0 then 5 else 0) else 6
def undV (G : GP) (a : ByteArray) : ByteArray := if isEl G.q.m G.size a = true then textS (lowN G (numOf a ^ (G.p.m - 2))) G.size else ⟨#[]⟩
def undE (G : GP) (a : ByteArray) : Int := if isEl G.q.m G.size a = true then 0 else 7
def timV (G : GP) (a b : ByteArray) : ByteArray := if (isEl G.q.m G.size a && isEl G.q.m G.size b) = true then textS (lowN G (numOf a * numOf b)) G.size else ⟨#[]⟩
def timE (G : GP) (a b : ByteArray) : Int := if (isEl G.q.m G.size a && isEl G.q.m G.size b) = true then 0 else 7

theorem Inv_call {k : Nat} (h1 : 1 ≤ k) (h3 : k ≤ 3) {a : ByteArray} {w W0 w1 : World} (hz : Below w.heap.size w W0 ∧ Bx W0 w.heap.size 9 [.string a]) (hb : Below W0.heap.size W0 w1) (hg : GroupAt w1 W0.heap.size (grp k)) :
    Calls Try.prog 94 #[.pointer (some ⟨W0.heap.size, 0, none⟩), .pointer (some ⟨w.heap.size, 0, none⟩)] w1 (Ans (.string (invV (grp k) a)) (invE (grp k) a) w1) := by
  have ok := grp_ok k h1 h3
  have z1 := hz.2.up hb
  unfold invV invE
  by_cases hy : isSc (grp k).q.m (grp k).size a = true
  · have hl := isSc_lt hy
    by_cases h0 : numOf a = 0
    · rw [if_neg (by simp [h0]), if_pos hy, if_pos h0]
      exact inv1_zero _ ok _ _ a hy (by rw [h0, Nat.zero_mod]) w1 hg z1
    · rw [if_pos ⟨hy, h0⟩, if_pos hy, if_neg h0]
      exact inv1_yes _ ok _ _ a hy (by rwa [Nat.mod_eq_of_lt hl]) w1 hg z1
  · rw [if_neg (fun h => hy h.1), if_neg hy]
    exact inv1_no _ ok _ _ a (by simpa using hy) w1 hg z1

set_option maxRecDepth 100000 in
set_option maxHeartbeats 400000 in
theorem Inv_some (k : Nat) (h1 : 1 ≤ k) (h3 : k ≤ 3) (a : ByteArray) (w : World) : Calls Try.prog 31 #[.int .i64 (k : Int), .string a] w (Ans (.string (invV (grp k) a)) (invE (grp k) a) w) := by
  go_enter Try.func31, Try.ntmps31
  go_wp2_with fail
  obtain ⟨W0, hW0⟩ : ∃ W9 : World, (w.alloc (.cells #[.string a] 9)) = W9 := ⟨_, rfl⟩
  have hz := box1 w (.string a) 9
  rw [hW0] at hz
  have HZ := Lib.hid hz
  clear hz
  simp only [hW0]
  clear hW0
  refine (withS_some k h1 h3 94 #[.pointer (some ⟨w.heap.size, 0, none⟩)] (.string (invV (grp k) a)) (invE (grp k) a) (enters_of Try.func94 (by kernel_rfl) rfl) W0 (fun w1 hb hg => Inv_call h1 h3 HZ.out hb hg)).mono ?_
  rintro e w2 ⟨rfl, hb2⟩
  have HB2 := Lib.hid (below_up HZ.out.1 hb2)
  clear hb2
  go_wp2_with fail
  go_ret2
  exact ⟨rfl, HB2.out⟩

end Go.Proofs.Ytipgjookfdkciaa

/- The package group: Product. No condition. -/
namespace Go.Proofs.Ytipgjookfdkciaa
open Go.RowKit

/-- What a product of powers answers: its bytes, and an errno. -/
def prodV (G : GP) : List ByteArray → List ByteArray → Nat → ByteArray
  | a :: xs, n :: ys, z => if isEl G.q.m G.size a = false then ⟨#[]⟩ else if isSc G.q.m G.size n = false then ⟨#[]⟩ else prodV G xs ys (z * numOf a ^ numOf n)
  | _, _, z => textS (lowN G z) G.size
def prodE (G : GP) : List ByteArray → List ByteArray → Int
  | a :: xs, n :: ys => if isEl G.q.m G.size a = false then 7 else if isSc G.q.m G.size n = false then 6 else prodE G xs ys
  | _, _ => 0


set_option maxRecDepth 100000 in
set_option maxHeartbeats 400000 in
theorem product1_long (gb b1 b2 la ln : Nat) (aa an : Option Addr) (ca cn : Nat) (hl : 256 < la ∨ 256 < ln) (w : World)
    (hc1 : Bx w b1 22 [.slice aa la ca]) (hc2 : Bx w b2 22 [.slice an ln cn]) :
    Calls Try.prog 151 #[.pointer (some ⟨gb, 0, none⟩), .pointer (some ⟨b1, 0, none⟩), .pointer (some ⟨b2, 0, none⟩)] w (Ans (.string ⟨#[]⟩) 3 w) := by
  have hk1 := hc1.cell (i := 0) rfl
  have hk2 := hc2.cell (i := 0) rfl
  clear hc1 hc2
  by_cases ha : 256 < la
  · have hd : decide ((la : Int) > 256) = true := by simp; omega
    go_enter Try.func151, Try.ntmps151
    go_wp2_with fail
    go_ret2
    exact ⟨rfl, Below.refl _ _⟩
  · have hd : decide ((la : Int) > 256) = false := by simp; omega
    have hd2 : decide ((ln : Int) > 256) = true := by simp; omega
    go_enter Try.func151, Try.ntmps151
    go_wp2_with fail
    go_ret2
    exact ⟨rfl, Below.refl _ _⟩

set_option maxRecDepth 100000 in
set_option maxHeartbeats 400000 in
theorem product1_form (gb b1 b2 la ln : Nat) (aa an : Option Addr) (ca cn : Nat) (h1 : la ≤ 256) (h2 : ln ≤ 256) (hne : la ≠ ln) (w : World)
    (hc1 : Bx w b1 22 [.slice aa la ca]) (hc2 : Bx w b2 22 [.slice an ln cn]) :
    Calls Try.prog 151 #[.pointer (some ⟨gb, 0, none⟩), .pointer (some ⟨b1, 0, none⟩), .pointer (some ⟨b2, 0, none⟩)] w (Ans (.string ⟨#[]⟩) 2 w) := by
  have hk1 := hc1.cell (i := 0) rfl
  have hk2 := hc2.cell (i := 0) rfl
  clear hc1 hc2
  have hd : decide ((la : Int) > 256) = false := by simp; omega
  have hd2 : decide ((ln : Int) > 256) = false := by simp; omega
  have hd3 : ((la : Int) != (ln : Int)) = true := by rw [bne_iff_ne]; intro h; exact hne (by exact_mod_cast h)
  go_enter Try.func151, Try.ntmps151
  go_wp2_with fail
  go_ret2
  exact ⟨rfl, Below.refl _ _⟩

theorem drop_cons {α : Type} {l : List α} {i : Nat} (h : i < l.length) : l.drop i = l[i] :: l.drop (i + 1) := List.drop_eq_getElem_cons h

set_option maxRecDepth 100000 in
set_option maxHeartbeats 1000000 in
theorem product1_any (G : GP) (ok : G.Ok) (gb b1 b2 L : Nat) (xs ys : List ByteArray) (aa an : Option Addr) (ca cn : Nat) (ha : xs.length = L) (hn : ys.length = L) (hL : L ≤ 256) (w : World) (hG : GroupAt w gb G)
    (hc1 : Bx w b1 22 [.slice aa L ca]) (hc2 : Bx w b2 22 [.slice an L cn]) (hA : Sl w w.heap.size aa (xs.map Value.string)) (hN : Sl w w.heap.size an (ys.map Value.string)) :
    Calls Try.prog 151 #[.pointer (some ⟨gb, 0, none⟩), .pointer (some ⟨b1, 0, none⟩), .pointer (some ⟨b2, 0, none⟩)] w (Ans (.string (prodV G xs ys 1)) (prodE G xs ys) w) := by
  have HLA := Lib.hid ha
  have HLN := Lib.hid hn
  have HC1 := Lib.hid hc1
  have HC2 := Lib.hid hc2
  have HA := Lib.hid hA
  have HNN := Lib.hid hN
  have HG := Lib.hid hG
  have OK := Lib.hid ok
  have hk1 := hc1.cell (i := 0) rfl
  have hk2 := hc2.cell (i := 0) rfl
  clear ha hn hc1 hc2 hA hN hG ok
  have hd : decide ((L : Int) > 256) = false := by simp; omega
  have hd3 : ((L : Int) != (L : Int)) = false := by simp
  go_enter Try.func151, Try.ntmps151
  go_wp2_with fail
  refine (gOne_any G OK.out gb w HG.out).mono ?_
  rintro e w1 ⟨rfl, hb1⟩
  have HB1 := Lib.hid hb1
  clear hb1
  unfold elV limbV
  obtain ⟨w2, hlw, hlb, hlz⟩ := boxL w1 111 ((mont G.p.m 1))
  have HLw2 := Lib.hid hlb
  have HXw2 := Lib.hid hlz
  clear hlb hlz
  have HB2 := Lib.hid (below_up HB1.out HLw2.out)
  have hwb : w.heap.size ≤ w1.heap.size := HB1.out.size
  clear hk1 hk2
  have hk1 := (HC1.out.up HB2.out).cell (i := 0) rfl
  go_wp2_with fail
  go_loopw [7, 8, 9, 10, 30] (fun _ _ _ _ x wr => ∃ i z : Nat, i ≤ L ∧ x = .int .i64 (i : Int) ∧ Hid (Below w.heap.size w wr) ∧ Hid (Blk wr w1.heap.size 111 (lim (mont G.p.m z))) ∧ Hid (prodV G xs ys 1 = prodV G (xs.drop i) (ys.drop i) z) ∧ Hid (prodE G xs ys = prodE G (xs.drop i) (ys.drop i))) (fun _ _ _ _ x _ => L - (intOf x).toNat)
  case atStart => exact ⟨0, 1, Nat.zero_le _, rfl, HB2.out, HXw2.out, rfl, rfl⟩
  case round =>
    obtain ⟨i, z, hi, hxi, HB, HZ, HV, HE⟩ := hrel
    subst hxi
    clear hk1
    have hk1 := (HC1.out.up HB.out).cell (i := 0) rfl
    have hk2 := (HC2.out.up HB.out).cell (i := 0) rfl
    by_cases hiL : i < L
    · obtain ⟨s, hs⟩ : ∃ s, xs[i]'(by rw [HLA.out]; exact hiL) = s := ⟨_, rfl⟩
      obtain ⟨t, ht⟩ : ∃ t, ys[i]'(by rw [HLN.out]; exact hiL) = t := ⟨_, rfl⟩
      obtain ⟨b3, o3, rfl, hb3, hc3⟩ := HA.out.at i (by rw [List.length_map, HLA.out]; exact hiL)
      obtain ⟨b4, o4, rfl, hb4, hc4⟩ := HNN.out.at i (by rw [List.length_map, HLN.out]; exact hiL)
      rw [List.getElem_map, hs] at hc3
      rw [List.getElem_map, ht] at hc4
      have hx3 : wr.cell? ⟨b3, o3 + i, none⟩ = some (.string s) := by rw [HB.out.cell (p := ⟨b3, o3 + i, none⟩) hb3]; exact hc3
      have HC4 := Lib.hid hc4
      have hdx := drop_cons (show i < xs.length by rw [HLA.out]; exact hiL)
      have hdy := drop_cons (show i < ys.length by rw [HLN.out]; exact hiL)
      rw [hs] at hdx
      rw [ht] at hdy
      have HDX := Lib.hid hdx
      have HDY := Lib.hid hdy
      clear hs ht hc3 hc4 hdx hdy
      obtain ⟨ba, hba⟩ : ∃ b, isEl G.q.m G.size s = b := ⟨_, rfl⟩
      obtain ⟨bb, hbb⟩ : ∃ b, isSc G.q.m G.size t = b := ⟨_, rfl⟩
      have HBA := Lib.hid hba
      have HBB := Lib.hid hbb
      clear hba hbb
      go_wp2_with fail
      refine (gElem_m G OK.out gb s ba HBA.out wr (HG.out.up HB.out)).mono ?_
      rintro e w3 ⟨x, rfl, hb3', hx⟩
      have HX := Lib.hid hx
      have HB3 := Lib.hid (below_up HB.out hb3')
      have HZ3 := Lib.hid (HZ.out.below hb3' HZ.out.lt)
      clear hb3' hx hx3 hk1 hk2
      unfold limbV
      obtain ⟨w4, hlw, hlb, hlz⟩ := boxL w3 111 (x)
      have HLw4 := Lib.hid hlb
      have HXw4 := Lib.hid hlz
      clear hlb hlz
      have HB4 := Lib.hid (below_up HB3.out HLw4.out)
      have HZ4 := Lib.hid (HZ3.out.below HLw4.out HZ3.out.lt)
      have hk2 := (HC2.out.up HB4.out).cell (i := 0) rfl
      have hx4 : w4.cell? ⟨b4, o4 + i, none⟩ = some (.string t) := by rw [HB4.out.cell (p := ⟨b4, o4 + i, none⟩) hb4]; exact HC4.out
      cases ba
      · go_wp2_with fail
        go_ret2
        exact ⟨by rw [HV.out, HE.out, HDX.out, HDY.out]; unfold prodV prodE; rw [if_pos HBA.out, if_pos HBA.out]; rfl, HB4.out⟩
      · obtain rfl : x = mont G.p.m (numOf s) := HX.out rfl
        go_wp2_with fail
        refine (gScalar_m G OK.out gb t bb HBB.out w4 (HG.out.up HB4.out)).mono ?_
        rintro e w5 ⟨y, rfl, hb5, hy⟩
        have HY := Lib.hid hy
        have HB5 := Lib.hid (below_up HB4.out hb5)
        have HZ5 := Lib.hid (HZ4.out.below hb5 HZ4.out.lt)
        have HX5 := Lib.hid (HXw4.out.below hb5 HXw4.out.lt)
        clear hb5 hy hx4 hk2 hlw
        unfold limbV
        obtain ⟨w6, hlw, hlb, hlz⟩ := boxL w5 91 (y)
        have HLw6 := Lib.hid hlb
        have HXw6 := Lib.hid hlz
        clear hlb hlz
        have HB6 := Lib.hid (below_up HB5.out HLw6.out)
        have HZ6 := Lib.hid (HZ5.out.below HLw6.out HZ5.out.lt)
        have HX6 := Lib.hid (HX5.out.below HLw6.out HX5.out.lt)
        cases bb
        · go_wp2_with fail
          go_ret2
          exact ⟨by rw [HV.out, HE.out, HDX.out, HDY.out]; unfold prodV prodE; rw [if_neg (by rw [HBA.out]; decide), if_pos HBB.out, if_neg (by rw [HBA.out]; decide), if_pos HBB.out]; rfl, HB6.out⟩
        · obtain rfl : y = mont G.q.m (numOf t) := HY.out rfl
          have HV2 : Hid (prodV G xs ys 1 = prodV G (xs.drop (i + 1)) (ys.drop (i + 1)) (z * numOf s ^ numOf t)) := by
            show _ = _
            rw [HV.out, HDX.out, HDY.out, prodV, if_neg (by rw [HBA.out]; decide), if_neg (by rw [HBB.out]; decide)]
          have HE2 : Hid (prodE G xs ys = prodE G (xs.drop (i + 1)) (ys.drop (i + 1))) := by
            show _ = _
            rw [HE.out, HDX.out, HDY.out, prodE, if_neg (by rw [HBA.out]; decide), if_neg (by rw [HBB.out]; decide)]
          have HM : Hid (numOf t % G.q.m = numOf t) := Nat.mod_eq_of_lt (isSc_lt HBB.out)
          go_wp2_with fail
          have hz_ := Blk.l4 (mont G.p.m z) HZ6.out
          have hx_ := Blk.l4 (mont G.p.m (numOf s)) HX6.out
          have hy_ := Blk.l4 (mont G.q.m (numOf t)) HXw6.out
          have hl1 := HZ6.out.lt
          have hl2 := HX6.out.lt
          have hl3 := HXw6.out.lt
          refine wp_region_otail 7 (by kernel_rfl) (by kernel_rfl) ?_
          simp only [List.take_succ_cons, List.take_zero, List.drop_succ_cons, List.drop_zero]
          have hov1 := fun (E : Over w6) o => E.cell (b := w1.heap.size) o hl1
          have hov2 := fun (E : Over w6) o => E.cell (b := w3.heap.size) o hl2
          have hov3 := fun (E : Over w6) o => E.cell (b := w5.heap.size) o hl3
          have hpow := fun (E : Over w6) => gPower_any G OK.out gb (numOf s) (numOf t) E.w (HG.out.up (below_up HB6.out E.h))
          rw [HM.out] at hpow
          have HPOW := Lib.hid hpow
          clear hpow
          repeat (go_big_quiet_step (first | (go_at_call 109; exact calls_over (HPOW.out _)) | (go_at_call 108; exact calls_over (gTimes_any G OK.out gb z (numOf s ^ numOf t) _ (HG.out.up (below_up HB6.out (Over.h _)))))))
          all_goals (try unfold elV limbV)
          repeat (go_big_quiet_step (first | (go_at_call 109; exact calls_over (HPOW.out _)) | (go_at_call 108; exact calls_over (gTimes_any G OK.out gb z (numOf s ^ numOf t) _ (HG.out.up (below_up HB6.out (Over.h _)))))))
          all_goals (try unfold elV limbV)
          repeat (go_big_quiet_step (first | (go_at_call 109; exact calls_over (HPOW.out _)) | (go_at_call 108; exact calls_over (gTimes_any G OK.out gb z (numOf s ^ numOf t) _ (HG.out.up (below_up HB6.out (Over.h _)))))))
          refine wpQuiet_nil ?_
          rintro _ ⟨E, rfl⟩
          have HZ7 := Lib.hid (HZ6.out.below E.h HZ6.out.lt)
          have HB7 := Lib.hid (below_up HB6.out E.h)
          clear hov1 hov2 hov3 hz_
          generalize E.w = w7 at *
          have hz_ := Blk.l4 (mont G.p.m z) HZ7.out
          have hzf_ := HZ7.out.frozen
          have HB8 : Hid (Below w.heap.size w (((((w7).setCell ⟨w1.heap.size, 0, none⟩ (.int .u64 (dig (mont G.p.m (z * numOf s ^ numOf t)) 0 : Int))).setCell ⟨w1.heap.size, 1, none⟩ (.int .u64 (dig (mont G.p.m (z * numOf s ^ numOf t)) 1 : Int))).setCell ⟨w1.heap.size, 2, none⟩ (.int .u64 (dig (mont G.p.m (z * numOf s ^ numOf t)) 2 : Int))).setCell ⟨w1.heap.size, 3, none⟩ (.int .u64 (dig (mont G.p.m (z * numOf s ^ numOf t)) 3 : Int)))) := below_fill HB7.out hwb
          have HZ8 : Hid (Blk (((((w7).setCell ⟨w1.heap.size, 0, none⟩ (.int .u64 (dig (mont G.p.m (z * numOf s ^ numOf t)) 0 : Int))).setCell ⟨w1.heap.size, 1, none⟩ (.int .u64 (dig (mont G.p.m (z * numOf s ^ numOf t)) 1 : Int))).setCell ⟨w1.heap.size, 2, none⟩ (.int .u64 (dig (mont G.p.m (z * numOf s ^ numOf t)) 2 : Int))).setCell ⟨w1.heap.size, 3, none⟩ (.int .u64 (dig (mont G.p.m (z * numOf s ^ numOf t)) 3 : Int))) w1.heap.size 111 (lim (mont G.p.m (z * numOf s ^ numOf t)))) := HZ7.out.fill rfl _
          go_wp2_with fail
          go_roundw
          case rel => exact ⟨i + 1, z * numOf s ^ numOf t, by omega, by go_num, HB8.out, HZ8.out, HV2.out, HE2.out⟩
          case measure => simp [intOf]; omega
    · have hil : i = L := by omega
      subst hil
      have hz_ := Blk.l4 (mont G.p.m z) HZ.out
      go_wp2_with fail
      refine (gText_any G OK.out gb z wr (HG.out.up HB.out)).mono ?_
      rintro e w3 ⟨rfl, hb3⟩
      have HB3 := Lib.hid (below_up HB.out hb3)
      clear hb3
      go_wp2_with fail
      go_ret2
      refine ⟨?_, HB3.out⟩
      rw [HV.out, HE.out, List.drop_eq_nil_of_le (by rw [HLA.out]; exact Nat.le_refl _)]
      rfl

def proV (G : GP) (xs ys : List ByteArray) : ByteArray := if 256 < xs.length ∨ 256 < ys.length then ⟨#[]⟩ else if xs.length ≠ ys.length then ⟨#[]⟩ else prodV G xs ys 1
def proE (G : GP) (xs ys : List ByteArray) : Int := if 256 < xs.length ∨ 256 < ys.length then 3 else if xs.length ≠ ys.length then 2 else prodE G xs ys

theorem Product_call {k : Nat} (h1 : 1 ≤ k) (h3 : k ≤ 3) {xs ys : List ByteArray} {aa an : Option Addr} {la ln ca cn : Nat} (ha : xs.length = la) (hn : ys.length = ln) {w W0 w1 : World}
    (hA : Sl w w.heap.size aa (xs.map Value.string)) (hN : Sl w w.heap.size an (ys.map Value.string))
    (hz : Below w.heap.size w W0 ∧ Bx W0 w.heap.size 22 [.slice aa la ca] ∧ Bx W0 (w.heap.size + 1) 22 [.slice an ln cn]) (hb : Below W0.heap.size W0 w1) (hg : GroupAt w1 W0.heap.size (grp k)) :
    Calls Try.prog 151 #[.pointer (some ⟨W0.heap.size, 0, none⟩), .pointer (some ⟨w.heap.size, 0, none⟩), .pointer (some ⟨w.heap.size + 1, 0, none⟩)] w1 (Ans (.string (proV (grp k) xs ys)) (proE (grp k) xs ys) w1) := by
  have ok := grp_ok k h1 h3
  have z1 := hz.2.1.up hb
  have z2 := hz.2.2.up hb
  have hu := below_up hz.1 hb
  unfold proV proE
  rw [ha, hn]
  by_cases hl : 256 < la ∨ 256 < ln
  · rw [if_pos hl, if_pos hl]
    exact product1_long _ _ _ la ln aa an ca cn hl w1 z1 z2
  · rw [if_neg hl, if_neg hl]
    by_cases he : la = ln
    · subst he
      rw [if_neg (by simp), if_neg (by simp)]
      exact product1_any _ ok _ _ _ la xs ys aa an ca cn ha hn (by omega) w1 hg z1 z2 (hA.up hu) (hN.up hu)
    · rw [if_pos he, if_pos he]
      exact product1_form _ _ _ la ln aa an ca cn (by omega) (by omega) he w1 z1 z2

set_option maxRecDepth 100000 in
set_option maxHeartbeats 400000 in
theorem Product_none (k : Int) (hk : ¬ (1 ≤ k ∧ k ≤ 3)) (aa an : Option Addr) (la ln ca cn : Nat) (w : World) : Calls Try.prog 100 #[.int .i64 k, .slice aa la ca, .slice an ln cn] w (Ans (.string ⟨#[]⟩) 1 w) := by
  go_enter Try.func100, Try.ntmps100
  go_wp2_with fail
  obtain ⟨W0, hW0⟩ : ∃ W9 : World, ((w.alloc (.cells #[.slice aa la ca] 22)).alloc (.cells #[.slice an ln cn] 22)) = W9 := ⟨_, rfl⟩
  have hz := box2 w (.slice aa la ca) (.slice an ln cn) 22 22
  rw [hW0] at hz
  have HZ := Lib.hid hz
  clear hz
  simp only [hW0]
  clear hW0
  refine (withS_none k hk _ W0).mono ?_
  rintro e w1 ⟨rfl, hb⟩
  have HB := Lib.hid (below_up HZ.out.1 hb)
  clear hb
  go_wp2_with fail
  go_ret2
  exact ⟨rfl, HB.out⟩

set_option maxRecDepth 100000 in
set_option maxHeartbeats 400000 in
theorem Product_some (k : Nat) (h1 : 1 ≤ k) (h3 : k ≤ 3) (xs ys : List ByteArray) (aa an : Option Addr) (la ln ca cn : Nat) (ha : xs.length = la) (hn : ys.length = ln) (w : World)
    (hA : Sl w w.heap.size aa (xs.map Value.string)) (hN : Sl w w.heap.size an (ys.map Value.string)) :
    Calls Try.prog 100 #[.int .i64 (k : Int), .slice aa la ca, .slice an ln cn] w (Ans (.string (proV (grp k) xs ys)) (proE (grp k) xs ys) w) := by
  have HLA := Lib.hid ha
  have HLN := Lib.hid hn
  have HA := Lib.hid hA
  have HN := Lib.hid hN
  clear ha hn hA hN
  go_enter Try.func100, Try.ntmps100
  go_wp2_with fail
  obtain ⟨W0, hW0⟩ : ∃ W9 : World, ((w.alloc (.cells #[.slice aa la ca] 22)).alloc (.cells #[.slice an ln cn] 22)) = W9 := ⟨_, rfl⟩
  have hz := box2 w (.slice aa la ca) (.slice an ln cn) 22 22
  rw [hW0] at hz
  have HZ := Lib.hid hz
  clear hz
  simp only [hW0]
  clear hW0
  refine (withS_some k h1 h3 151 #[.pointer (some ⟨w.heap.size, 0, none⟩), .pointer (some ⟨w.heap.size + 1, 0, none⟩)] (.string (proV (grp k) xs ys)) (proE (grp k) xs ys) (enters_of Try.func151 (by kernel_rfl) rfl) W0 (fun w1 hb hg => Product_call h1 h3 HLA.out HLN.out HA.out HN.out HZ.out hb hg)).mono ?_
  rintro e w2 ⟨rfl, hb2⟩
  have HB2 := Lib.hid (below_up HZ.out.1 hb2)
  clear hb2
  go_wp2_with fail
  go_ret2
  exact ⟨rfl, HB2.out⟩

end Go.Proofs.Ytipgjookfdkciaa

/- The package group: Power. No condition. -/
namespace Go.Proofs.Ytipgjookfdkciaa
open Go.RowKit

def powV (G : GP) (a n : ByteArray) : ByteArray := if isEl G.q.m G.size a = false then ⟨#[]⟩ else if isSc G.q.m G.size n = false then ⟨#[]⟩ else textS (lowN G (numOf a ^ numOf n)) G.size
def powE (G : GP) (a n : ByteArray) : Int := if isEl G.q.m G.size a = false then 7 else if isSc G.q.m G.size n = false then 6 else 0

theorem powV_eq (G : GP) (a n : ByteArray) : proV G [a] [n] = powV G a n := by
  unfold proV powV
  rw [if_neg (by simp), if_neg (by simp)]
  unfold prodV
  rw [Nat.one_mul]
  rfl
theorem powE_eq (G : GP) (a n : ByteArray) : proE G [a] [n] = powE G a n := by
  unfold proE powE
  rw [if_neg (by simp), if_neg (by simp)]
  rfl

set_option maxRecDepth 100000 in
set_option maxHeartbeats 400000 in
theorem Power_none (k : Int) (hk : ¬ (1 ≤ k ∧ k ≤ 3)) (a n : ByteArray) (w : World) : Calls Try.prog 37 #[.int .i64 k, .string a, .string n] w (Ans (.string ⟨#[]⟩) 1 w) := by
  go_enter Try.func37, Try.ntmps37
  go_wp2_with fail
  have hz := (box2 w (.string a) (.string n) 9 9).1
  refine (Product_none k hk _ _ 1 1 1 1 _).mono ?_
  rintro e w1 ⟨rfl, hb⟩
  have HB := Lib.hid (below_up hz hb)
  clear hb hz
  go_wp2_with fail
  go_ret2
  exact ⟨rfl, HB.out⟩

theorem Sl.of_bx {W : World} {b : Nat} {t : TypeId} {cs : List Value} (h : Bx W b t cs) : Sl W W.heap.size (some ⟨b, 0, none⟩) cs := by
  have h1 := Sl.of_block h
  simpa using h1

set_option maxRecDepth 100000 in
set_option maxHeartbeats 400000 in
theorem Power_some (k : Nat) (h1 : 1 ≤ k) (h3 : k ≤ 3) (a n : ByteArray) (w : World) : Calls Try.prog 37 #[.int .i64 (k : Int), .string a, .string n] w (Ans (.string (powV (grp k) a n)) (powE (grp k) a n) w) := by
  go_enter Try.func37, Try.ntmps37
  go_wp2_with fail
  have hz := box2 w (.string a) (.string n) 9 9
  have hp := Product_some k h1 h3 [a] [n] (some ⟨w.heap.size, 0, none⟩) (some ⟨w.heap.size + 1, 0, none⟩) 1 1 1 1 rfl rfl _ (Sl.of_bx hz.2.1) (Sl.of_bx hz.2.2)
  rw [powV_eq, powE_eq] at hp
  refine hp.mono ?_
  rintro e w1 ⟨rfl, hb⟩
  have HB := Lib.hid (below_up hz.1 hb)
  clear hb hz hp
  go_wp2_with fail
  go_ret2
  exact ⟨rfl, HB.out⟩

end Go.Proofs.Ytipgjookfdkciaa

/- The group's numbers, in plain words: the lower of a number and its opposite. No condition. -/
namespace Go.Proofs.Ytipgjookfdkciaa

theorem grp_prime_q (k : Nat) (h1 : 1 ≤ k) (h3 : k ≤ 3) : IsPrime (grp k).q.m := by
  obtain rfl | rfl | rfl : k = 1 ∨ k = 2 ∨ k = 3 := by omega
  · exact prime_q1
  · exact prime_q2
  · exact prime_q3
theorem grp_prime_p (k : Nat) (h1 : 1 ≤ k) (h3 : k ≤ 3) : IsPrime (grp k).p.m := by
  obtain rfl | rfl | rfl : k = 1 ∨ k = 2 ∨ k = 3 := by omega
  · exact prime_p1
  · exact prime_p2
  · exact prime_p3

/-- Two numbers are one or opposite, modulo p. -/
def PM (p x y : Nat) : Prop := (p : Int) ∣ (x : Int) - y ∨ (p : Int) ∣ (x : Int) + y

theorem PM.refl (p x : Nat) : PM p x x := Or.inl ⟨0, by omega⟩
theorem PM.of_mod {p x y : Nat} (h : x % p = y % p) : PM p x y := Or.inl (by
  have h1 := Nat.div_add_mod x p
  have h2 := Nat.div_add_mod y p
  refine ⟨(x / p : Nat) - (y / p : Nat), ?_⟩
  have e1 : (x : Int) = p * (x / p : Nat) + (x % p : Nat) := by exact_mod_cast h1.symm
  have e2 : (y : Int) = p * (y / p : Nat) + (y % p : Nat) := by exact_mod_cast h2.symm
  rw [e1, e2, h]
  generalize ((x / p : Nat) : Int) = a
  generalize ((y / p : Nat) : Int) = b
  grind)
theorem PM.symm {p x y : Nat} (h : PM p x y) : PM p y x := by
  rcases h with ⟨c, h⟩ | ⟨c, h⟩
  · exact Or.inl ⟨-c, by grind⟩
  · exact Or.inr ⟨c, by grind⟩
theorem PM.trans {p x y z : Nat} (h : PM p x y) (g : PM p y z) : PM p x z := by
  rcases h with ⟨c, h⟩ | ⟨c, h⟩ <;> rcases g with ⟨d, g⟩ | ⟨d, g⟩
  · exact Or.inl ⟨c + d, by grind⟩
  · exact Or.inr ⟨c + d, by grind⟩
  · exact Or.inr ⟨c - d, by grind⟩
  · exact Or.inl ⟨c - d, by grind⟩
theorem PM.mul {p x y u v : Nat} (h : PM p x y) (g : PM p u v) : PM p (x * u) (y * v) := by
  have e1 : ((x * u : Nat) : Int) = x * u := by simp
  have e2 : ((y * v : Nat) : Int) = y * v := by simp
  unfold PM
  rw [e1, e2]
  rcases h with ⟨c, h⟩ | ⟨c, h⟩ <;> rcases g with ⟨d, g⟩ | ⟨d, g⟩
  · exact Or.inl ⟨c * u + y * d, by grind⟩
  · exact Or.inr ⟨c * u + y * d, by grind⟩
  · exact Or.inr ⟨c * u - y * d, by grind⟩
  · exact Or.inl ⟨c * u - y * d, by grind⟩
theorem PM.pow {p x y : Nat} (h : PM p x y) : ∀ n : Nat, PM p (x ^ n) (y ^ n)
  | 0 => PM.refl _ _
  | n + 1 => by rw [Nat.pow_succ, Nat.pow_succ]; exact PM.mul (PM.pow h n) h
theorem PM.mod (p x : Nat) : PM p (x % p) x := PM.of_mod (Nat.mod_mod _ _)

theorem lowR_pm (q p x : Nat) (hx : x < p) : PM p (lowR q p x) x := by
  unfold lowR
  split
  · exact Or.inr ⟨1, by omega⟩
  · exact PM.refl _ _
theorem lowR_leq {q p x : Nat} (hp : p = 2 * q + 1) (hx : x < p) : lowR q p x ≤ q := by
  unfold lowR
  split <;> omega
theorem lowR_fix {q p x : Nat} (hx : x ≤ q) : lowR q p x = x := by
  unfold lowR
  rw [if_neg (by omega)]
theorem lowR_pos {q p x : Nat} (hx : x < p) (h0 : 0 < x) : 0 < lowR q p x := by
  unfold lowR
  split <;> omega

/-- Low numbers that are one or opposite are one. -/
theorem low_unique {q p x y : Nat} (hp : p = 2 * q + 1) (hx : x ≤ q) (hy : y ≤ q) (h : PM p x y) : x = y := by
  rcases h with h | h
  · have := Int.eq_zero_of_dvd_of_natAbs_lt_natAbs h (by omega)
    omega
  · have := Int.eq_zero_of_dvd_of_natAbs_lt_natAbs h (by omega)
    omega

theorem low_eq {q p x y : Nat} (hq : 0 < q) (hp : p = 2 * q + 1) (h : PM p x y) : lowR q p (x % p) = lowR q p (y % p) := by
  have hx := Nat.mod_lt x (show 0 < p by omega)
  have hy := Nat.mod_lt y (show 0 < p by omega)
  exact low_unique hp (lowR_leq hp hx) (lowR_leq hp hy) ((((lowR_pm q p _ hx).trans (PM.mod p x)).trans h).trans (((lowR_pm q p _ hy).trans (PM.mod p y)).symm))

theorem pm_low {q p : Nat} (hp : 0 < p) (x : Nat) : PM p (lowR q p (x % p)) x := (lowR_pm q p _ (Nat.mod_lt x hp)).trans (PM.mod p x)

/-- Fermat and Euler: a to the q is 1 or its opposite. -/
theorem pm_euler {q p a : Nat} (hpp : IsPrime p) (hp : p = 2 * q + 1) (h0 : 0 < a) (ha : a < p) : PM p (a ^ q) 1 := by
  have hnd : ¬ p ∣ a := fun h => by have := Nat.le_of_dvd h0 h; omega
  have hf := fermat hpp hnd
  rw [show p - 1 = q * 2 by omega, Nat.pow_mul] at hf
  obtain ⟨b, hb⟩ : ∃ b, a ^ q = b := ⟨_, rfl⟩
  rw [hb] at hf ⊢
  have hb0 : 0 < b := by rw [← hb]; exact Nat.pow_pos h0
  have h2 : p ∣ b ^ 2 - 1 := (mod_eq_iff_dvd_sub (Nat.pow_pos hb0)).1 hf
  have h3 : b ^ 2 - 1 = (b - 1) * (b + 1) := by
    obtain ⟨c, rfl⟩ : ∃ c, b = c + 1 := ⟨b - 1, by omega⟩
    rw [Nat.add_sub_cancel, Nat.pow_two]
    have : (c + 1) * (c + 1) = c * (c + 1 + 1) + 1 := by grind
    omega
  rw [h3] at h2
  rcases hpp.dvd_mul h2 with ⟨c, h⟩ | ⟨c, h⟩
  · refine Or.inl ⟨c, ?_⟩
    have : ((b - 1 : Nat) : Int) = p * c := by rw [h]; simp
    omega
  · refine Or.inr ⟨c, ?_⟩
    have : ((b + 1 : Nat) : Int) = p * c := by rw [h]; simp
    omega

theorem under_low {q p a : Nat} (hpp : IsPrime p) (hp : p = 2 * q + 1) (hq : 0 < q) (h0 : 0 < a) (ha : a ≤ q) : lowR q p (a ^ (p - 2) % p) = lowR q p (a ^ (q - 1) % p) := by
  refine low_eq hq hp ?_
  rw [show p - 2 = q + (q - 1) by omega, Nat.pow_add]
  have h := PM.mul (pm_euler hpp hp h0 (by omega)) (PM.refl p (a ^ (q - 1)))
  rwa [Nat.one_mul] at h

theorem low_mul {q p : Nat} (hq : 0 < q) (hp : p = 2 * q + 1) (x y : Nat) : lowR q p (lowR q p (x % p) * lowR q p (y % p) % p) = lowR q p (x * y % p) :=
  low_eq hq hp (PM.mul (pm_low (by omega) x) (pm_low (by omega) y))

end Go.Proofs.Ytipgjookfdkciaa

/- Numbers in so many bytes, there and back; the group's faces on such texts. No condition. -/
namespace Go.Proofs.Ytipgjookfdkciaa
open Go.RowKit

theorem numL_inj : ∀ l m : List UInt8, l.length = m.length → numL l = numL m → l = m
  | [], [], _, _ => rfl
  | [], _ :: _, h, _ => by simp at h
  | _ :: _, [], h, _ => by simp at h
  | a :: l, b :: m, h, e => by
    have hl : l.length = m.length := by simpa using h
    have h1 := numL_lt l
    have h2 := numL_lt m
    simp only [numL] at e
    rw [hl] at e h1
    have hP : 0 < 256 ^ m.length := Nat.pow_pos (by decide)
    have hd := congrArg (· / 256 ^ m.length) e
    have hm := congrArg (· % 256 ^ m.length) e
    simp only [Nat.mul_comm _ (256 ^ m.length), Nat.mul_add_div hP, Nat.mul_add_mod, Nat.div_eq_of_lt h1, Nat.div_eq_of_lt h2, Nat.mod_eq_of_lt h1, Nat.mod_eq_of_lt h2, Nat.add_zero] at hd hm
    rw [numL_inj l m hl hm, UInt8.toNat_inj.1 hd]

theorem numOf_inj {s t : ByteArray} (h : s.size = t.size) (e : numOf s = numOf t) : s = t := by
  have h1 := numL_inj s.data.toList t.data.toList (by simpa using h) e
  cases s; cases t
  simp at h1
  rw [h1]

theorem text_numOf (s : ByteArray) : textS (numOf s) s.size = s := by
  refine numOf_inj (textS_size _ _) ?_
  rw [numOf_textS]
  exact Nat.mod_eq_of_lt (by have := numL_lt s.data.toList; simpa [numOf] using this)

/-- A number as a text of the group. -/
def T (G : GP) (n : Nat) : ByteArray := textS n G.size

theorem T_size (G : GP) (n : Nat) : (T G n).size = G.size := textS_size _ _
theorem T_num {G : GP} (_ok : G.Ok) {n : Nat} (h : n ≤ G.q.m) (hne : G.q.m < 256 ^ G.size) : numOf (T G n) = n := by
  unfold T
  rw [numOf_textS]
  exact Nat.mod_eq_of_lt (by omega)

theorem T_of {G : GP} {s : ByteArray} (h : s.size = G.size) : s = T G (numOf s) := by
  unfold T
  rw [← h]
  exact (text_numOf s).symm

theorem T_sc {G : GP} (ok : G.Ok) (hne : G.q.m < 256 ^ G.size) {n : Nat} (h : n < G.q.m) : isSc G.q.m G.size (T G n) = true := by
  unfold isSc
  rw [T_size, T_num ok (Nat.le_of_lt h) hne]
  simp [h]
theorem T_el {G : GP} (ok : G.Ok) (hne : G.q.m < 256 ^ G.size) {n : Nat} (h0 : 0 < n) (h : n ≤ G.q.m) : isEl G.q.m G.size (T G n) = true := by
  unfold isEl
  rw [T_size, T_num ok h hne]
  simp [h, h0]

theorem grp_fits (k : Nat) (h1 : 1 ≤ k) (h3 : k ≤ 3) : (grp k).q.m < 256 ^ (grp k).size := by
  obtain rfl | rfl | rfl : k = 1 ∨ k = 2 ∨ k = 3 := by omega
  all_goals decide


theorem recV_t {k : Nat} (h1 : 1 ≤ k) (h3 : k ≤ 3) {x y z r : Nat} (hx : x < (grp k).q.m) (hy : y < (grp k).q.m) (hr : z % (grp k).q.m = r) : recV (grp k) (T (grp k) x) (T (grp k) y) z = T (grp k) r := by
  unfold recV
  rw [T_sc (grp_ok k h1 h3) (grp_fits k h1 h3) hx, T_sc (grp_ok k h1 h3) (grp_fits k h1 h3) hy, hr]
  rfl
theorem recE_t {k : Nat} (h1 : 1 ≤ k) (h3 : k ≤ 3) {x y : Nat} (hx : x < (grp k).q.m) (hy : y < (grp k).q.m) : recE (grp k) (T (grp k) x) (T (grp k) y) = 0 := by
  unfold recE
  rw [T_sc (grp_ok k h1 h3) (grp_fits k h1 h3) hx, T_sc (grp_ok k h1 h3) (grp_fits k h1 h3) hy]
  rfl

theorem sub_t (k : Nat) (h1 : 1 ≤ k) (h3 : k ≤ 3) (x y r : Nat) (hx : x < (grp k).q.m) (hy : y < (grp k).q.m) (hr : (x + ((grp k).q.m - y)) % (grp k).q.m = r) (w : World) :
    Calls Try.prog 35 #[.int .i64 (k : Int), .string (T (grp k) x), .string (T (grp k) y)] w (Ans (.string (T (grp k) r)) 0 w) := by
  have hA := Sub_some k h1 h3 (T (grp k) x) (T (grp k) y) w
  rwa [recV_t (r := r) h1 h3 hx hy (by rw [T_num (grp_ok k h1 h3) (Nat.le_of_lt hx) (grp_fits k h1 h3), T_num (grp_ok k h1 h3) (Nat.le_of_lt hy) (grp_fits k h1 h3)]; exact hr), recE_t h1 h3 hx hy] at hA

theorem inv_zero_t (k : Nat) (h1 : 1 ≤ k) (h3 : k ≤ 3) (w : World) : Calls Try.prog 31 #[.int .i64 (k : Int), .string (T (grp k) 0)] w (Ans (.string ⟨#[]⟩) 5 w) := by
  have hq : 0 < (grp k).q.m := (grp_ok k h1 h3).q.pos
  have hA := Inv_some k h1 h3 (T (grp k) 0) w
  have e1 : numOf (T (grp k) 0) = 0 := T_num (grp_ok k h1 h3) (Nat.zero_le _) (grp_fits k h1 h3)
  have e2 := T_sc (grp_ok k h1 h3) (grp_fits k h1 h3) hq
  rwa [show invV (grp k) (T (grp k) 0) = ⟨#[]⟩ by unfold invV; rw [if_neg (by simp [e1])], show invE (grp k) (T (grp k) 0) = 5 by unfold invE; rw [if_pos e2, if_pos e1]] at hA

theorem inv_t (k : Nat) (h1 : 1 ≤ k) (h3 : k ≤ 3) (x r : Nat) (h0 : 0 < x) (hx : x < (grp k).q.m) (hr : x ^ ((grp k).q.m - 2) % (grp k).q.m = r) (w : World) : Calls Try.prog 31 #[.int .i64 (k : Int), .string (T (grp k) x)] w (Ans (.string (T (grp k) r)) 0 w) := by
  have hA := Inv_some k h1 h3 (T (grp k) x) w
  have e1 : numOf (T (grp k) x) = x := T_num (grp_ok k h1 h3) (Nat.le_of_lt hx) (grp_fits k h1 h3)
  have e2 := T_sc (grp_ok k h1 h3) (grp_fits k h1 h3) hx
  rwa [show invV (grp k) (T (grp k) x) = T (grp k) r by unfold invV; rw [if_pos ⟨e2, by omega⟩, e1, hr]; rfl, show invE (grp k) (T (grp k) x) = 0 by unfold invE; rw [if_pos e2, if_neg (by omega)]] at hA

theorem number_t (k : Nat) (h1 : 1 ≤ k) (h3 : k ≤ 3) (n : Int) (r : Nat) (hn1 : -9223372036854775808 ≤ n) (hn2 : n ≤ 9223372036854775807) (hr : modI (grp k).q.m n = r) (w : World) : Calls Try.prog 53 #[.int .i64 (k : Int), .int .i64 n] w (Ans (.string (T (grp k) r)) 0 w) := by
  subst hr
  exact Number_some k h1 h3 n hn1 hn2 w

theorem scal_t (k : Nat) (h1 : 1 ≤ k) (h3 : k ≤ 3) (x : Nat) (hx : x < (grp k).q.m) (w : World) : Calls Try.prog 32 #[.int .i64 (k : Int), .string (T (grp k) x)] w fun e w' => e = .returned (.bool true) ∧ Below w.heap.size w w' := by
  have h9 := Scalar_some k h1 h3 (T (grp k) x) w
  rwa [T_sc (grp_ok k h1 h3) (grp_fits k h1 h3) hx] at h9

end Go.Proofs.Ytipgjookfdkciaa

/- The group's faces on texts of elements; what powers of elements are. No condition. -/
namespace Go.Proofs.Ytipgjookfdkciaa
open Go.RowKit

/-- The element that a number stands for. -/
def Lw (q p v : Nat) : Nat := lowR q p (v % p)

section
variable {q p : Nat} (hq : 0 < q) (hp : p = 2 * q + 1)
include hq hp
theorem Lw_eq {x y : Nat} (h : PM p x y) : Lw q p x = Lw q p y := low_eq hq hp h
omit hq in
theorem Lw_pm (x : Nat) : PM p (Lw q p x) x := pm_low (by omega) x
omit hq in
theorem Lw_le (x : Nat) : Lw q p x ≤ q := lowR_leq hp (Nat.mod_lt _ (by omega))
omit hq in
theorem Lw_fix {x : Nat} (h : x ≤ q) : Lw q p x = x := by
  unfold Lw
  rw [Nat.mod_eq_of_lt (by omega), lowR_fix h]
omit hq in
theorem Lw_pos {x : Nat} (h : ¬ p ∣ x) : 0 < Lw q p x := by
  unfold Lw
  refine lowR_pos (Nat.mod_lt _ (by omega)) ?_
  rcases Nat.eq_zero_or_pos (x % p) with h0 | h0
  · exact absurd (Nat.dvd_of_mod_eq_zero h0) h
  · exact h0
end

theorem IsPrime.not_dvd_mul {p a b : Nat} (hp : IsPrime p) (ha : ¬ p ∣ a) (hb : ¬ p ∣ b) : ¬ p ∣ a * b := fun h => (hp.dvd_mul h).elim ha hb
theorem IsPrime.not_dvd_pow {p a : Nat} (hp : IsPrime p) (ha : ¬ p ∣ a) : ∀ n, ¬ p ∣ a ^ n
  | 0 => fun h => by rw [Nat.pow_zero] at h; have := Nat.le_of_dvd (by decide) h; have := hp.1; omega
  | n + 1 => by rw [Nat.pow_succ]; exact hp.not_dvd_mul (IsPrime.not_dvd_pow hp ha n) ha
theorem not_dvd_small {p a : Nat} (h0 : 0 < a) (h : a < p) : ¬ p ∣ a := fun hd => by have := Nat.le_of_dvd h0 hd; omega

/-- Powers of an element go by the order. -/
theorem pm_pow_mod {q p a : Nat} (hpp : IsPrime p) (hp : p = 2 * q + 1) (h0 : 0 < a) (ha : a < p) (n : Nat) : PM p (a ^ (n % q)) (a ^ n) := by
  have h1 : a ^ n = a ^ (n % q) * (a ^ q) ^ (n / q) := by
    rw [← Nat.pow_mul, ← Nat.pow_add, Nat.mod_add_div]
  rw [h1]
  have h2 := PM.mul (PM.refl p (a ^ (n % q))) ((pm_euler hpp hp h0 ha).pow (n / q))
  rw [Nat.one_pow, Nat.mul_one] at h2
  exact h2.symm

theorem memb_t (k : Nat) (h1 : 1 ≤ k) (h3 : k ≤ 3) (x : Nat) (h0 : 0 < x) (hx : x ≤ (grp k).q.m) (w : World) : Calls Try.prog 122 #[.int .i64 (k : Int), .string (T (grp k) x)] w fun e w' => e = .returned (.bool true) ∧ Below w.heap.size w w' := by
  have h9 := Member_some k h1 h3 (T (grp k) x) w
  rwa [T_el (grp_ok k h1 h3) (grp_fits k h1 h3) h0 hx] at h9

theorem timV_t {k : Nat} (h1 : 1 ≤ k) (h3 : k ≤ 3) {x y r : Nat} (h0 : 0 < x) (hx : x ≤ (grp k).q.m) (g0 : 0 < y) (hy : y ≤ (grp k).q.m) (hr : Lw (grp k).q.m (grp k).p.m (x * y) = r) : timV (grp k) (T (grp k) x) (T (grp k) y) = T (grp k) r ∧ timE (grp k) (T (grp k) x) (T (grp k) y) = 0 := by
  unfold timV timE
  rw [T_el (grp_ok k h1 h3) (grp_fits k h1 h3) h0 hx, T_el (grp_ok k h1 h3) (grp_fits k h1 h3) g0 hy, T_num (grp_ok k h1 h3) hx (grp_fits k h1 h3), T_num (grp_ok k h1 h3) hy (grp_fits k h1 h3)]
  exact ⟨congrArg (textS · _) hr, rfl⟩
theorem powV_t {k : Nat} (h1 : 1 ≤ k) (h3 : k ≤ 3) {x n r : Nat} (h0 : 0 < x) (hx : x ≤ (grp k).q.m) (hn : n < (grp k).q.m) (hr : Lw (grp k).q.m (grp k).p.m (x ^ n) = r) : powV (grp k) (T (grp k) x) (T (grp k) n) = T (grp k) r ∧ powE (grp k) (T (grp k) x) (T (grp k) n) = 0 := by
  unfold powV powE
  rw [T_el (grp_ok k h1 h3) (grp_fits k h1 h3) h0 hx, T_sc (grp_ok k h1 h3) (grp_fits k h1 h3) hn, T_num (grp_ok k h1 h3) hx (grp_fits k h1 h3), T_num (grp_ok k h1 h3) (Nat.le_of_lt hn) (grp_fits k h1 h3)]
  exact ⟨congrArg (textS · _) hr, rfl⟩

theorem power_t (k : Nat) (h1 : 1 ≤ k) (h3 : k ≤ 3) (x n r : Nat) (h0 : 0 < x) (hx : x ≤ (grp k).q.m) (hn : n < (grp k).q.m) (hr : Lw (grp k).q.m (grp k).p.m (x ^ n) = r) (w : World) : Calls Try.prog 37 #[.int .i64 (k : Int), .string (T (grp k) x), .string (T (grp k) n)] w (Ans (.string (T (grp k) r)) 0 w) := by
  have h9 := Power_some k h1 h3 (T (grp k) x) (T (grp k) n) w
  obtain ⟨e1, e2⟩ := powV_t h1 h3 h0 hx hn hr
  rwa [e1, e2] at h9
theorem addF_t (k : Nat) (h1 : 1 ≤ k) (h3 : k ≤ 3) (x y r : Nat) (hx : x < (grp k).q.m) (hy : y < (grp k).q.m) (hr : (x + y) % (grp k).q.m = r) (w : World) :
    Calls Try.prog 34 #[.int .i64 (k : Int), .string (T (grp k) x), .string (T (grp k) y)] w (Ans (.string (T (grp k) r)) 0 w) := by
  have hA := Add_some k h1 h3 (T (grp k) x) (T (grp k) y) w
  rwa [recV_t (r := r) h1 h3 hx hy (by rw [T_num (grp_ok k h1 h3) (Nat.le_of_lt hx) (grp_fits k h1 h3), T_num (grp_ok k h1 h3) (Nat.le_of_lt hy) (grp_fits k h1 h3)]; exact hr), recE_t h1 h3 hx hy] at hA
theorem mulF_t (k : Nat) (h1 : 1 ≤ k) (h3 : k ≤ 3) (x y r : Nat) (hx : x < (grp k).q.m) (hy : y < (grp k).q.m) (hr : x * y % (grp k).q.m = r) (w : World) :
    Calls Try.prog 33 #[.int .i64 (k : Int), .string (T (grp k) x), .string (T (grp k) y)] w (Ans (.string (T (grp k) r)) 0 w) := by
  have hA := Mul_some k h1 h3 (T (grp k) x) (T (grp k) y) w
  rwa [recV_t (r := r) h1 h3 hx hy (by rw [T_num (grp_ok k h1 h3) (Nat.le_of_lt hx) (grp_fits k h1 h3), T_num (grp_ok k h1 h3) (Nat.le_of_lt hy) (grp_fits k h1 h3)]; exact hr), recE_t h1 h3 hx hy] at hA


end Go.Proofs.Ytipgjookfdkciaa

/- The document's group as a value: its contracts in short; what low numbers do. No condition. -/
namespace Go.Proofs.Ytipgjookfdkciaa
open Go.RowKit

section
variable {G : GP}
theorem lowN_eq (ok : G.Ok) {x y : Nat} (h : PM G.p.m x y) : lowN G x = lowN G y := low_eq ok.q.pos ok.twice h
theorem lowN_pm (ok : G.Ok) (x : Nat) : PM G.p.m (lowN G x) x := Lw_pm ok.twice x
theorem lowN_le (ok : G.Ok) (x : Nat) : lowN G x ≤ G.q.m := Lw_le ok.twice x
theorem lowN_16 (ok : G.Ok) (x : Nat) : lowN G x < DD ^ 16 := Nat.lt_of_le_of_lt (lowN_le ok x) ok.q.lt4
theorem lowN_mul (ok : G.Ok) (x y : Nat) : lowN G (lowN G x * lowN G y) = lowN G (x * y) := lowN_eq ok (PM.mul (lowN_pm ok x) (lowN_pm ok y))
theorem lowN_mulL (ok : G.Ok) (x y : Nat) : lowN G (lowN G x * y) = lowN G (x * y) := lowN_eq ok (PM.mul (lowN_pm ok x) (PM.refl _ y))
theorem lowN_mulR (ok : G.Ok) (x y : Nat) : lowN G (x * lowN G y) = lowN G (x * y) := lowN_eq ok (PM.mul (PM.refl _ x) (lowN_pm ok y))
theorem lowN_pow (ok : G.Ok) (x n : Nat) : lowN G (lowN G x ^ n) = lowN G (x ^ n) := lowN_eq ok (PM.pow (lowN_pm ok x) n)
theorem lowN_fix (ok : G.Ok) {x : Nat} (h : x ≤ G.q.m) : lowN G x = x := Lw_fix ok.twice h

/-- The document's group lies in memory. -/
structure RG (W : World) (G : GP) (aq ap : Option Addr) : Prop where
  q : NumAt W aq G.q.m
  p : NumAt W ap G.p.m
theorem RG.up {W W' : World} {aq ap : Option Addr} (h : RG W G aq ap) (hb : Below W.heap.size W W') : RG W' G aq ap := ⟨h.q.up hb, h.p.up hb⟩

theorem q_dl (ok : G.Ok) {n : Nat} (h : n ≤ G.q.m) : dl n ≤ 65536 := Nat.le_trans (dl_of_lt n 16 (Nat.lt_of_le_of_lt h ok.q.lt4)) (by decide)

variable {aq ap : Option Addr} {cq cp : Nat}

theorem rProd (ok : G.Ok) {a b : Nat} {aa ab : Option Addr} {ca cb : Nat} (ha : a < DD ^ 16) (hb : b < DD ^ 16) (w : World) (hG : RG w G aq ap) (hA : NumAt w aa a) (hB : NumAt w ab b) :
    Calls Try.prog 110 #[.agg #[.int .i64 (G.size : Int), .slice aq (dl G.q.m) cq, .slice ap (dl G.p.m) cp], .slice aa (dl a) ca, .slice ab (dl b) cb] w fun e w' => NumR w e w' (lowN G (a * b)) :=
  refProduct_any a b G.size G.q.m G.p.m aa ab aq ap ca cb cq cp ha hb ok.p.pos ok.p.lt4 w hA hB hG.q hG.p
theorem rPow (ok : G.Ok) {a n : Nat} {aa an : Option Addr} {ca cn : Nat} (ha : a < DD ^ 16) (hn : dl n ≤ 65536) (w : World) (hG : RG w G aq ap) (hA : NumAt w aa a) (hN : NumAt w an n) :
    Calls Try.prog 111 #[.agg #[.int .i64 (G.size : Int), .slice aq (dl G.q.m) cq, .slice ap (dl G.p.m) cp], .slice aa (dl a) ca, .slice an (dl n) cn] w fun e w' => NumR w e w' (lowN G (a ^ n)) :=
  refPow_any a n G.size G.q.m G.p.m aa an aq ap ca cn cq cp ha hn (by have := ok.twice; have := ok.q.pos; omega) ok.p.lt4 w hA hN hG.q hG.p
theorem rUnder (ok : G.Ok) {a : Nat} {aa : Option Addr} {ca : Nat} (ha : a < DD ^ 16) (w : World) (hG : RG w G aq ap) (hA : NumAt w aa a) :
    Calls Try.prog 148 #[.agg #[.int .i64 (G.size : Int), .slice aq (dl G.q.m) cq, .slice ap (dl G.p.m) cp], .slice aa (dl a) ca] w fun e w' => NumR w e w' (lowN G (a ^ (G.q.m - 1))) :=
  refUnder_any a G.size G.q.m G.p.m aa aq ap ca cq cp ha ok.q.pos ok.q.lt4 (by have := ok.twice; have := ok.q.pos; omega) ok.p.lt4 w hA hG.q hG.p
theorem rIsSc (ok : G.Ok) (s : ByteArray) (w : World) (hG : RG w G aq ap) :
    Calls Try.prog 66 #[.agg #[.int .i64 (G.size : Int), .slice aq (dl G.q.m) cq, .slice ap (dl G.p.m) cp], .string s] w fun e w' => e = .returned (.bool (isSc G.q.m G.size s)) ∧ Below w.heap.size w w' :=
  refIsScalar_any s G.size G.q.m G.p.m aq ap cq cp ok.size_le w hG.q
theorem rIsEl (ok : G.Ok) (s : ByteArray) (w : World) (hG : RG w G aq ap) :
    Calls Try.prog 79 #[.agg #[.int .i64 (G.size : Int), .slice aq (dl G.q.m) cq, .slice ap (dl G.p.m) cp], .string s] w fun e w' => e = .returned (.bool (isEl G.q.m G.size s)) ∧ Below w.heap.size w w' :=
  refIsElem_any s G.size G.q.m G.p.m aq ap cq cp ok.size_le w hG.q
theorem rAdd (ok : G.Ok) {a b : Nat} {aa ab : Option Addr} {ca cb : Nat} (ha : a < DD ^ 16) (hb : b < DD ^ 16) (w : World) (hG : RG w G aq ap) (hA : NumAt w aa a) (hB : NumAt w ab b) :
    Calls Try.prog 152 #[.agg #[.int .i64 (G.size : Int), .slice aq (dl G.q.m) cq, .slice ap (dl G.p.m) cp], .slice aa (dl a) ca, .slice ab (dl b) cb] w fun e w' => NumR w e w' ((a + b) % G.q.m) :=
  refAdd_any a b G.size G.q.m G.p.m aa ab aq ap ca cb cq cp ha hb ok.q.pos w hA hB hG.q
theorem rMul (ok : G.Ok) {a b : Nat} {aa ab : Option Addr} {ca cb : Nat} (ha : a < DD ^ 16) (hb : b < DD ^ 16) (w : World) (hG : RG w G aq ap) (hA : NumAt w aa a) (hB : NumAt w ab b) :
    Calls Try.prog 71 #[.agg #[.int .i64 (G.size : Int), .slice aq (dl G.q.m) cq, .slice ap (dl G.p.m) cp], .slice aa (dl a) ca, .slice ab (dl b) cb] w fun e w' => NumR w e w' (a * b % G.q.m) :=
  refMul_any a b G.size G.q.m G.p.m aa ab aq ap ca cb cq cp ha hb ok.q.pos w hA hB hG.q
theorem rSub (ok : G.Ok) {a b : Nat} {aa ab : Option Addr} {ca cb : Nat} (ha : a < DD ^ 16) (hb : b ≤ G.q.m) (w : World) (hG : RG w G aq ap) (hA : NumAt w aa a) (hB : NumAt w ab b) :
    Calls Try.prog 68 #[.agg #[.int .i64 (G.size : Int), .slice aq (dl G.q.m) cq, .slice ap (dl G.p.m) cp], .slice aa (dl a) ca, .slice ab (dl b) cb] w fun e w' => NumR w e w' ((a + (G.q.m - b)) % G.q.m) :=
  by have h := refSub_any a b G.size G.q.m G.p.m aa ab aq ap ca cb cq cp ha hb ok.q.pos ok.q.lt4 w hA hB hG.q
     rwa [Nat.add_sub_assoc hb] at h
theorem rInv (ok : G.Ok) (h2 : 2 ≤ G.q.m) {a : Nat} {aa : Option Addr} {ca : Nat} (ha : a < DD ^ 16) (w : World) (hG : RG w G aq ap) (hA : NumAt w aa a) :
    Calls Try.prog 67 #[.agg #[.int .i64 (G.size : Int), .slice aq (dl G.q.m) cq, .slice ap (dl G.p.m) cp], .slice aa (dl a) ca] w fun e w' => NumR w e w' (a ^ (G.q.m - 2) % G.q.m) :=
  refInv_any a G.size G.q.m G.p.m aa aq ap ca cq cp ha h2 ok.q.lt4 w hA hG.q
theorem rText (ok : G.Ok) {n : Nat} {an : Option Addr} {cn : Nat} (hn : n < DD ^ 16) (w : World) (hN : NumAt w an n) :
    Calls Try.prog 70 #[.slice an (dl n) cn, .int .i64 (G.size : Int)] w fun e w' => e = .returned (.string (textS n G.size)) ∧ Below w.heap.size w w' :=
  refText_any n G.size an cn (small_dl n hn) (by have := ok.size_le; omega) w hN
end

end Go.Proofs.Ytipgjookfdkciaa

/- Claims as the package sigma takes them: what lies in memory, what is wrong with them, what is answered. No condition. -/
namespace Go.Proofs.Ytipgjookfdkciaa
open Go.RowKit

/-- A claim that came in: where its lists lie. -/
structure ClaimA where
  ab : Option Addr
  cb : Nat
  bases : List ByteArray
  ai : Option Addr
  ci : Nat
  images : List ByteArray
def ClaimA.cells (c : ClaimA) : List Value := [.slice c.ab c.bases.length c.cb, .slice c.ai c.images.length c.ci]
theorem ClaimA.cells_len (c : ClaimA) : c.cells.length = 2 := rfl
structure ClaimA.At (w : World) (c : ClaimA) : Prop where
  b : Sl w w.heap.size c.ab (c.bases.map Value.string)
  i : Sl w w.heap.size c.ai (c.images.map Value.string)
theorem ClaimA.At.up {w w' : World} {c : ClaimA} (h : c.At w) (hb : Below w.heap.size w w') : c.At w' := ⟨h.b.up hb, h.i.up hb⟩
structure ClaimsAt (w : World) (a : Option Addr) (l : List ClaimA) : Prop where
  s : Sl w w.heap.size a (l.flatMap ClaimA.cells)
  e : ∀ c ∈ l, ClaimA.At w c
theorem ClaimsAt.up {w w' : World} {a : Option Addr} {l : List ClaimA} (h : ClaimsAt w a l) (hb : Below w.heap.size w w') : ClaimsAt w' a l := ⟨h.s.up hb, fun c hc => (h.e c hc).up hb⟩
theorem ClaimsAt.one {w : World} {a : Option Addr} {l : List ClaimA} (h : ClaimsAt w a l) (i : Nat) (hi : i < l.length) : ClaimA.At w l[i] := h.e _ (List.getElem_mem hi)

def cLong (c : ClaimA) : Bool := decide (8 < c.bases.length) || decide (8 < c.images.length)
def cForm (c : ClaimA) : Bool := decide (c.bases.length = 0) || decide (c.bases.length ≠ c.images.length)
def shapeE (l : List ClaimA) : Nat := if (decide (64 < l.length) || l.any cLong) = true then 3 else if (decide (l.length = 0) || l.any cForm) = true then 2 else 0
def cElems (G : GP) (c : ClaimA) : Bool := c.bases.all (isEl G.q.m G.size) && c.images.all (isEl G.q.m G.size)
def wrongE (G : GP) (l : List ClaimA) : Nat := if shapeE l ≠ 0 then shapeE l else if l.all (cElems G) = true then 0 else 7
def scE (G : GP) (n : Nat) (l : List ByteArray) : Nat := if l.length = n then if l.all (isSc G.q.m G.size) = true then 0 else 6 else 2

theorem shape_ok {l : List ClaimA} (h : shapeE l = 0) : 0 < l.length ∧ l.length ≤ 64 ∧ ∀ c ∈ l, 0 < c.bases.length ∧ c.bases.length ≤ 8 ∧ c.images.length = c.bases.length := by
  unfold shapeE at h
  split at h
  · cases h
  · rename_i h1
    split at h
    · cases h
    · rename_i h2
      simp only [Bool.or_eq_true, decide_eq_true_eq, List.any_eq_true, not_or, not_exists, not_and] at h1 h2
      refine ⟨by omega, by omega, fun c hc => ?_⟩
      have h3 := h1.2 c hc
      have h4 := h2.2 c hc
      unfold cLong at h3
      unfold cForm at h4
      simp only [Bool.or_eq_true, decide_eq_true_eq, not_or, ne_eq, Decidable.not_not] at h3 h4
      omega
theorem wrong_ok {G : GP} {l : List ClaimA} (h : wrongE G l = 0) : shapeE l = 0 ∧ l.all (cElems G) = true := by
  unfold wrongE at h
  split at h
  · rename_i h1; exact absurd h h1
  · rename_i h1
    split at h
    · rename_i h2; exact ⟨by omega, h2⟩
    · cases h

/-- What is said first; what comes back. -/
def firstT (G : GP) (x : ByteArray) (b : ByteArray) : ByteArray := textS (lowN G (numOf b ^ numOf x)) G.size
def backT (G : GP) (c z : ByteArray) (b m : ByteArray) : ByteArray := textS (lowN G (numOf b ^ numOf z * numOf m ^ ((G.q.m - numOf c) % G.q.m))) G.size
def firstL (G : GP) (l : List ClaimA) (xs : List ByteArray) : List (List ByteArray) := List.zipWith (fun c x => c.bases.map (firstT G x)) l xs
def backL (G : GP) (l : List ClaimA) (c : ByteArray) (zs : List ByteArray) : List (List ByteArray) := List.zipWith (fun (k : ClaimA) z => List.zipWith (backT G c z) k.bases k.images) l zs
def holdL (G : GP) (l : List ClaimA) (xs : List ByteArray) : Bool := (List.zipWith (fun (k : ClaimA) x => (List.zipWith (fun b m => decide (firstT G x b = m)) k.bases k.images).all id) l xs).all id

/-- A list of lists in memory. -/
structure RowA where
  a : Option Addr
  c : Nat
  l : List ByteArray
def RowA.cells (r : RowA) : List Value := [.slice r.a r.l.length r.c]
theorem RowA.cells_len (r : RowA) : r.cells.length = 1 := rfl
def RowA.At (w : World) (r : RowA) : Prop := Sl w w.heap.size r.a (r.l.map Value.string)
structure RowsAt (w : World) (a : Option Addr) (l : List RowA) : Prop where
  s : Sl w w.heap.size a (l.flatMap RowA.cells)
  e : ∀ r ∈ l, RowA.At w r
theorem RowA.At.up {w w' : World} {r : RowA} (h : r.At w) (hb : Below w.heap.size w w') : r.At w' := Sl.up h hb
theorem RowsAt.up {w w' : World} {a : Option Addr} {l : List RowA} (h : RowsAt w a l) (hb : Below w.heap.size w w') : RowsAt w' a l := ⟨h.s.up hb, fun c hc => (h.e c hc).up hb⟩
theorem RowsAt.one {w : World} {a : Option Addr} {l : List RowA} (h : RowsAt w a l) (i : Nat) (hi : i < l.length) : RowA.At w l[i] := h.e _ (List.getElem_mem hi)

end Go.Proofs.Ytipgjookfdkciaa

/- Small facts that many texts use: of all members of a list, of texts' lengths, of the document's Text. No condition. -/
namespace Go.Proofs.Ytipgjookfdkciaa
open Go.RowKit

/-- A call that answers v and only makes memory. -/
def Gives (v : Value) (w : World) (e : Ending) (w' : World) : Prop := e = .returned v ∧ Below w.heap.size w w'

theorem all_take_true {α : Type} {f : α → Bool} {l : List α} (h : (l.take l.length).all f = true) : l.all f = true := by rwa [List.take_length] at h
theorem all_not {α : Type} {f : α → Bool} {l : List α} {i : Nat} (hi : i < l.length) (h : f l[i] = false) : l.all f = false := by
  rw [List.all_eq_false]
  exact ⟨l[i], List.getElem_mem hi, by simp [h]⟩
theorem all_snoc {α : Type} {f : α → Bool} {l : List α} {i : Nat} (hi : i < l.length) (ht : (l.take i).all f = true) (h : f l[i] = true) : (l.take (i + 1)).all f = true := by
  rw [List.take_succ_eq_append_getElem hi, List.all_append, ht]
  simp [h]

section
variable {G : GP}
theorem rText2 (ok : G.Ok) {x : Nat} {an : Option Addr} {cn : Nat} (w : World) (hN : NumAt w an (lowN G x)) :
    Calls Try.prog 70 #[.slice an (dl (lowN G x)) cn, .int .i64 (G.size : Int)] w fun e w' => e = .returned (.string (textS (lowN G x) G.size)) ∧ Below w.heap.size w w' :=
  rText ok (lowN_16 ok x) w hN
theorem isEl_size {q n : Nat} {s : ByteArray} (h : isEl q n s = true) : s.size = n := by
  unfold isEl at h
  simp only [Bool.and_eq_true, decide_eq_true_eq] at h
  exact h.1.1
theorem isSc_size {q n : Nat} {s : ByteArray} (h : isSc q n s = true) : s.size = n := by
  unfold isSc at h
  simp only [Bool.and_eq_true, decide_eq_true_eq] at h
  exact h.1
end
end Go.Proofs.Ytipgjookfdkciaa

/- More of slices that the call itself appends to: a whole argument appended; a slice written out. No condition beyond those that each fact names. -/
namespace Go.Proofs.Ytipgjookfdkciaa
open Go.RowKit

/-- A block that was just filled is such a row. -/
theorem RowO.of_bx {N b n : Nat} {w : World} {e : TypeId} {size : Nat} {cs : List Value} (h : Bx w b e cs) (hN : N ≤ b) (hn : cs.length = n * size) (hm : n ≤ maxLen) : RowO N w e size (.slice (some ⟨b, 0, none⟩) n n) n cs := by
  refine ⟨hn, Or.inr ⟨b, n, cs.toArray, rfl, hN, h, Nat.le_refl _, hm, by simpa using hn, ?_⟩⟩
  rw [← hn]; simp

theorem Sl.addr {w : World} {B : Nat} {ad : Addr} {cs : List Value} (h : Sl w B (some ad) cs) : ∀ j u, cs[j]? = some u → w.cell? (ad.add j) = some u := by
  intro j u hj
  rcases h with rfl | ⟨b, off, he, _, hc⟩
  · simp at hj
  · simp only [Option.some.injEq] at he
    subst he
    have : (⟨b, off, none⟩ : Addr).add j = ⟨b, off + j, none⟩ := by unfold Addr.add; split <;> simp_all
    rw [this]; exact hc j u hj

/-- 'append(x, a...)': x is the call's own, a an argument. -/
theorem wpList_joinR {P : Program} (N : Nat) (w : World) (hN : N ≤ w.heap.size) {ops : Array Oper} {rest : List Oper} {o : Oper} {a : Act} {Q : Exit → Act → World → Prop} (hgd : o.guard = none) (s x : Operand) (t : TypeId)
    (ho : o.op = .call { callee := .builtin .append, args := #[s, x], argTypes := #[t, t] })
    (e : TypeId) (i : TypeInfo) (z : Value) (size bytes : Nat) (ht : P.underlying t = some (.slice e)) (hi : P.info? e = some i) (hz : i.zero = some z)
    (hsize : i.size = size) (hby : i.bytes = bytes) (hzs : z.cells.size = size) (hsz : 0 < size)
    (v : Value) (n : Nat) (xs : List Value) (hs : a.eval s = v) (hown : RowO N w e size v n xs)
    (al : Option Addr) (m c : Nat) (news : List Value) (hx : a.eval x = .slice al m c) (hl : news.length = m * size) (hS : Sl w w.heap.size al news) (h0 : al = none → c = 0) (h1 : ∀ u ∈ news, u.oneCell' = true)
    (h63 : (n + m) * bytes ≤ 140737488355328) (hn : n + m ≤ maxLen)
    (h : ∀ a' c' w', RowO N w' e size (.slice a' (n + m) c') (n + m) (xs ++ news) → w.grownBy w' v.ownBlock → wpList P ops Q rest (a.put o.dst (.slice a' (n + m) c')) w') :
    wpList P ops Q (o :: rest) a w := by
  cases al with
  | none =>
    have hc := h0 rfl
    subst hc
    have hnews : news = [] := by
      rcases hS with h9 | ⟨b, off, h9, _⟩
      · exact h9
      · cases h9
    subst hnews
    have hm : m = 0 := by
      rcases Nat.mul_eq_zero.1 hl.symm with h9 | h9
      · exact h9
      · omega
    subst hm
    obtain ⟨a', c', rfl⟩ := RowO.form hown
    refine wpList_append_own_none hgd s x t ho N e i size ht hi _ n xs hs hown hx ?_
    exact h a' c' w (by simpa using hown) ⟨rfl, rfl, rfl, Nat.le_refl _, fun _ _ _ => rfl⟩
  | some ad =>
    refine wpList_plain hgd fun K hK => ?_
    obtain ⟨v', w', hr, h2, h3, _, _⟩ := run_append_own_at (P := P) w N t o.type e i z size bytes ht hi hz hsize hby hzs hsz v n xs hown ad m c news hl hS.addr h1 hn h63 hN
    obtain ⟨a', c', rfl⟩ := RowO.form (N := N) h2
    unfold Oper.wp execOp
    simp only [ho, resolve, invoke, builtin, Sem.run_bind, Sem.run_pure, Result.andThen_ok, List.map_toArray, List.map_cons, List.map_nil, hs, hx, hr]
    exact hK _ _ (h a' c' w' h2 h3)

/-- 'out = append(out, x)' at a step of a region that draws its order. -/
theorem step_pushR {P : Program} (N : Nat) (w0 : World) (hN : N ≤ w0.heap.size) {ops : Array Oper} {o : Oper} {a : Act} {K : Act → World → Prop} {Q : Exit → Act → World → Prop} {E : Prop} (hgd : o.guard = none) (s x : Operand) (t : TypeId)
    (ho : o.op = .call { callee := .builtin .append, args := #[s, x], argTypes := #[t, t] })
    (e : TypeId) (i : TypeInfo) (z : Value) (size bytes : Nat) (ht : P.underlying t = some (.slice e)) (hi : P.info? e = some i) (hz : i.zero = some z)
    (hsize : i.size = size) (hby : i.bytes = bytes) (hzs : z.cells.size = size) (hsz : 0 < size)
    (v : Value) (n : Nat) (xs : List Value) (hs : a.eval s = v) (hown : RowO N w0 e size v n xs)
    (news : Array Value) (e2 : TypeId) (b : Nat) (hb : w0.heap.size = b) (hx : a.eval x = .slice (some ⟨b, 0, none⟩) 1 1) (hl : news.size = size) (h1 : ∀ u ∈ news.toList, u.oneCell' = true)
    (h63 : (n + 1) * bytes ≤ 140737488355328) (hn : n + 1 ≤ maxLen)
    (h : ∀ g cap w', RowO N w' e size (.slice (some ⟨g, 0, none⟩) (n + 1) cap) (n + 1) (xs ++ news.toList) → w0.grownBy w' v.ownBlock → K (a.put o.dst (.slice (some ⟨g, 0, none⟩) (n + 1) cap)) w') :
    if Region.wanted o (yielded ops a.tmps) = true then Oper.wp P o a (w0.alloc (.cells news e2)) K Q else E := by
  subst hb
  refine step_append_lies _ hgd s x t ho N e i z size bytes ht hi hz hsize hby hzs hsz v n xs hs (World.ownsRow.alloc hown _) ⟨w0.heap.size, 0, none⟩ 1 1 news.toList hx (by simpa using hl)
    (World.news_of_block (heap_alloc_new w0 _)) h1 (by omega) hn h63 (by simp; omega) _ rfl ?_
  intro g cap w' hown' hg _ _
  refine h g cap w' hown' ⟨hg.os, hg.tape, hg.output, ?_, ?_⟩
  · have := hg.size; simp at this; omega
  · intro k hk hne
    rw [hg.block k (by simp; omega) hne]
    exact Below.heap_alloc _ _ _ hk

end Go.Proofs.Ytipgjookfdkciaa

/- Lists of scalars, of elements, as the package sigma reads them. Condition: the lists that memory can hold. -/
namespace Go.Proofs.Ytipgjookfdkciaa
open Go.RowKit

theorem infoScalar : (Try.prog.info? 91).map (fun i => (i.zero, i.size, i.bytes)) = some (some (.agg #[.int .u64 0, .int .u64 0, .int .u64 0, .int .u64 0]), 4, 32) := by kernel_rfl
theorem infoElem : (Try.prog.info? 111).map (fun i => (i.zero, i.size, i.bytes)) = some (some (.agg #[.int .u64 0, .int .u64 0, .int .u64 0, .int .u64 0]), 4, 32) := by kernel_rfl

/-- A number's four limbs in the inner form. -/
def limC (m : Nat) (s : ByteArray) : List Value := [.int .u64 (dig (mont m (numOf s)) 0 : Int), .int .u64 (dig (mont m (numOf s)) 1 : Int), .int .u64 (dig (mont m (numOf s)) 2 : Int), .int .u64 (dig (mont m (numOf s)) 3 : Int)]
theorem limC_len (m : Nat) (s : ByteArray) : (limC m s).length = 4 := rfl

def AllR (m : Nat) (f : ByteArray → Bool) (l : List ByteArray) (w : World) (e : Ending) (w' : World) : Prop :=
  Below w.heap.size w w' ∧ if l.all f then ∃ a c, e = .returned (.tuple #[.slice a l.length c, .bool true]) ∧ Sl w' w'.heap.size a (l.flatMap (limC m)) ∧ (∀ x, a = some x → w.heap.size ≤ x.block) else e = .returned (.tuple #[.slice none 0 0, .bool false])

theorem isStr_flat (l : List ByteArray) : l.map Value.string = l.flatMap (fun s => [Value.string s]) := by
  induction l with
  | nil => rfl
  | cons x l ih => simp [ih]

set_option maxRecDepth 100000 in
set_option maxHeartbeats 2000000 in
theorem allSc_any (G : GP) (ok : G.Ok) (gb : Nat) (l : List ByteArray) (al : Option Addr) (cl : Nat) (hl : l.length ≤ 8796093022207) (w : World) (hG : GroupAt w gb G) (hS : Sl w w.heap.size al (l.map Value.string)) :
    Calls Try.prog 58 #[.slice al l.length cl, .func (.func 59) #[.pointer (some ⟨gb, 0, none⟩)] #[]] w (AllR G.q.m (isSc G.q.m G.size) l w) := by
  have OK := Lib.hid ok
  have HG := Lib.hid hG
  have HS := Lib.hid hS
  clear ok hG hS
  go_enter Try.func58, Try.ntmps58
  obtain ⟨i9, hi9, hz90, hz91, hz92⟩ := info_parts infoScalar
  go_wp2_with (at_make; refine wpList_make_own _ rfl _ _ 84 rfl (w.heap.size) 91 i9 _ 4 Try.underlying84 hi9 hz90 hz91 _ _ _ (l.length) rfl rfl ?c1 ?c2 ?c3 ?c4 ?_)
  case c1 => rfl
  case c2 => rw [hz92]; omega
  case c3 => unfold maxLen; omega
  case c4 => omega
  intro w1 hown9 hg9
  have hb9 : Below w.heap.size w w1 := (Below.refl _ _).grown hg9 (Nat.le_refl _) (fun q hq => by cases hq)
  have HB := Lib.hid hb9
  have HZS := Lib.hid hb9.size
  have Hr : Hid (RowO (w.heap.size) w1 91 4 (.slice (some ⟨w.heap.size, 0, none⟩) 0 (l.length)) 0 []) := Lib.hid hown9
  clear hb9 hown9 hg9 hi9 hz90 hz91 hz92
  go_wp2_with fail
  go_loopw [16, 6] (fun i v wr => ∃ j : Nat, j ≤ l.length ∧ i = .int .i64 j ∧ v = .slice (some ⟨w.heap.size, 0, none⟩) j l.length ∧ Hid (Below w.heap.size w wr) ∧ Hid ((l.take j).all (isSc G.q.m G.size) = true) ∧ Hid (RowO w.heap.size wr 91 4 (.slice (some ⟨w.heap.size, 0, none⟩) j l.length) j ((l.take j).flatMap (limC G.q.m)))) (fun i _ _ => l.length - (intOf i).toNat)
  case atStart => exact ⟨0, Nat.zero_le _, rfl, rfl, HB, rfl, Hr⟩
  case round =>
    obtain ⟨j, hj, rfl, rfl, HB, HAL, Hr⟩ := hrel
    by_cases hjl : j < l.length
    · skip
      have Hs0 := Lib.hid (show w.heap.size < wr.heap.size from (Hr.out.lt _ rfl).2)
      replace HZS := sz HZS Hs0.out
      obtain ⟨bl, ol, rfl, hbl, hc⟩ := (HS.out.up HB.out).at j (by simpa using hjl)
      rw [List.getElem_map] at hc
      obtain ⟨bj, hbj⟩ : ∃ x, isSc G.q.m G.size l[j] = x := ⟨_, rfl⟩
      have HBJ := Lib.hid hbj
      clear hbj
      go_wp2_with fail
      refine (gScalar_m G OK.out gb l[j] bj HBJ.out wr (HG.out.up HB.out)).mono ?_
      rintro e w2 ⟨sx, rfl, hb9, hx9⟩
      replace Hr := Lib.hid (Hr.out.up hb9)
      replace HB := hbu HB hb9
      replace HZS := sz HZS hb9.size
      have HSX := Lib.hid hx9
      clear hx9
      clear hb9
      unfold limbV
      obtain ⟨w3, hq3, hb9, hz9, Hbp⟩ := new1 w2 91 [.int .u64 (dig (sx) 0 : Int), .int .u64 (dig (sx) 1 : Int), .int .u64 (dig (sx) 2 : Int), .int .u64 (dig (sx) 3 : Int)]
      replace Hr := Lib.hid (Hr.out.up hb9)
      replace HB := hbu HB hb9
      replace HZS := sz HZS hz9.out
      clear hb9 hz9
      have bp_ := Hbp.out.c4
      cases bj
      · go_wp2_with fail
        clear hq3
        go_ret2
        exact ⟨HB.out, by rw [if_neg (by rw [all_not hjl HBJ.out]; decide)]; rfl⟩
      · obtain rfl := HSX.out rfl
        obtain ⟨i9, hi9, hz90, hz91, hz92⟩ := info_parts infoScalar
        go_wp2_with (at_builtin; refine wpList_fitR (w.heap.size) w3 rfl _ _ 84 rfl 91 i9 4 Try.underlying84 hi9 hz91 (w.heap.size) (j) ((l.length)) (((l.take j).flatMap (limC G.q.m))) rfl Hr.out _ _ _ rfl rfl rfl (by simp [Value.oneCell']) (by omega) ?_)
        intro w4 hown9 hg9
        clear hq3
        clear bp_
        have hb9 := Below.grown HB.out hg9 (by have g0 := HZS.out; omega) (fun q hq => Nat.le_trans (show w.heap.size ≤ w.heap.size by have g0 := HZS.out; omega) (Hr.out.lt q hq).1)
        replace Hbp := Lib.hid (Hbp.out.grown hg9 (fun e9 => by have a0 := Option.some.inj e9; have a1 := Hr.out.lt _ e9; have g0 := HZS.out; omega))
        replace HZS := sz HZS hg9.size
        clear Hr HB
        have Hr := Lib.hid hown9
        have HB := Lib.hid hb9
        clear hb9 hown9 hg9 hi9 hz90 hz91 hz92
        have bp_ := Hbp.out.c4
        go_wp2_with fail
        go_roundw
        case rel => exact ⟨j + 1, by omega, by go_num, rfl, HB, all_snoc hjl HAL.out HBJ.out, Hr.out.eq (flat_snoc _ _ _ hjl).symm rfl⟩
        case measure => simp [intOf]; omega
    · have hjn : j = l.length := by omega
      subst hjn
      go_wp2_with fail
      go_ret2
      rw [List.take_length] at Hr
      exact ⟨HB.out, by rw [if_pos (all_take_true HAL.out)]; exact ⟨_, _, rfl, Hr.out.sl, fun x hx => by cases hx; exact Nat.le_refl _⟩⟩

set_option maxRecDepth 100000 in
set_option maxHeartbeats 2000000 in
theorem allEl_any (G : GP) (ok : G.Ok) (gb : Nat) (l : List ByteArray) (al : Option Addr) (cl : Nat) (hl : l.length ≤ 8796093022207) (w : World) (hG : GroupAt w gb G) (hS : Sl w w.heap.size al (l.map Value.string)) :
    Calls Try.prog 185 #[.slice al l.length cl, .func (.func 106) #[.pointer (some ⟨gb, 0, none⟩)] #[]] w (AllR G.p.m (isEl G.q.m G.size) l w) := by
  have OK := Lib.hid ok
  have HG := Lib.hid hG
  have HS := Lib.hid hS
  clear ok hG hS
  go_enter Try.func185, Try.ntmps185
  obtain ⟨i9, hi9, hz90, hz91, hz92⟩ := info_parts infoElem
  go_wp2_with (at_make; refine wpList_make_own _ rfl _ _ 148 rfl (w.heap.size) 111 i9 _ 4 Try.underlying148 hi9 hz90 hz91 _ _ _ (l.length) rfl rfl ?c1 ?c2 ?c3 ?c4 ?_)
  case c1 => rfl
  case c2 => rw [hz92]; omega
  case c3 => unfold maxLen; omega
  case c4 => omega
  intro w1 hown9 hg9
  have hb9 : Below w.heap.size w w1 := (Below.refl _ _).grown hg9 (Nat.le_refl _) (fun q hq => by cases hq)
  have HB := Lib.hid hb9
  have HZS := Lib.hid hb9.size
  have Hr : Hid (RowO (w.heap.size) w1 111 4 (.slice (some ⟨w.heap.size, 0, none⟩) 0 (l.length)) 0 []) := Lib.hid hown9
  clear hb9 hown9 hg9 hi9 hz90 hz91 hz92
  go_wp2_with fail
  go_loopw [16, 6] (fun i v wr => ∃ j : Nat, j ≤ l.length ∧ i = .int .i64 j ∧ v = .slice (some ⟨w.heap.size, 0, none⟩) j l.length ∧ Hid (Below w.heap.size w wr) ∧ Hid ((l.take j).all (isEl G.q.m G.size) = true) ∧ Hid (RowO w.heap.size wr 111 4 (.slice (some ⟨w.heap.size, 0, none⟩) j l.length) j ((l.take j).flatMap (limC G.p.m)))) (fun i _ _ => l.length - (intOf i).toNat)
  case atStart => exact ⟨0, Nat.zero_le _, rfl, rfl, HB, rfl, Hr⟩
  case round =>
    obtain ⟨j, hj, rfl, rfl, HB, HAL, Hr⟩ := hrel
    by_cases hjl : j < l.length
    · skip
      have Hs0 := Lib.hid (show w.heap.size < wr.heap.size from (Hr.out.lt _ rfl).2)
      replace HZS := sz HZS Hs0.out
      obtain ⟨bl, ol, rfl, hbl, hc⟩ := (HS.out.up HB.out).at j (by simpa using hjl)
      rw [List.getElem_map] at hc
      obtain ⟨bj, hbj⟩ : ∃ x, isEl G.q.m G.size l[j] = x := ⟨_, rfl⟩
      have HBJ := Lib.hid hbj
      clear hbj
      go_wp2_with fail
      refine (gElem_m G OK.out gb l[j] bj HBJ.out wr (HG.out.up HB.out)).mono ?_
      rintro e w2 ⟨sx, rfl, hb9, hx9⟩
      replace Hr := Lib.hid (Hr.out.up hb9)
      replace HB := hbu HB hb9
      replace HZS := sz HZS hb9.size
      have HSX := Lib.hid hx9
      clear hx9
      clear hb9
      unfold limbV
      obtain ⟨w3, hq3, hb9, hz9, Hbp⟩ := new1 w2 111 [.int .u64 (dig (sx) 0 : Int), .int .u64 (dig (sx) 1 : Int), .int .u64 (dig (sx) 2 : Int), .int .u64 (dig (sx) 3 : Int)]
      replace Hr := Lib.hid (Hr.out.up hb9)
      replace HB := hbu HB hb9
      replace HZS := sz HZS hz9.out
      clear hb9 hz9
      have bp_ := Hbp.out.c4
      cases bj
      · go_wp2_with fail
        clear hq3
        go_ret2
        exact ⟨HB.out, by rw [if_neg (by rw [all_not hjl HBJ.out]; decide)]; rfl⟩
      · obtain rfl := HSX.out rfl
        obtain ⟨i9, hi9, hz90, hz91, hz92⟩ := info_parts infoElem
        go_wp2_with (at_builtin; refine wpList_fitR (w.heap.size) w3 rfl _ _ 148 rfl 111 i9 4 Try.underlying148 hi9 hz91 (w.heap.size) (j) ((l.length)) (((l.take j).flatMap (limC G.p.m))) rfl Hr.out _ _ _ rfl rfl rfl (by simp [Value.oneCell']) (by omega) ?_)
        intro w4 hown9 hg9
        clear hq3
        clear bp_
        have hb9 := Below.grown HB.out hg9 (by have g0 := HZS.out; omega) (fun q hq => Nat.le_trans (show w.heap.size ≤ w.heap.size by have g0 := HZS.out; omega) (Hr.out.lt q hq).1)
        replace Hbp := Lib.hid (Hbp.out.grown hg9 (fun e9 => by have a0 := Option.some.inj e9; have a1 := Hr.out.lt _ e9; have g0 := HZS.out; omega))
        replace HZS := sz HZS hg9.size
        clear Hr HB
        have Hr := Lib.hid hown9
        have HB := Lib.hid hb9
        clear hb9 hown9 hg9 hi9 hz90 hz91 hz92
        have bp_ := Hbp.out.c4
        go_wp2_with fail
        go_roundw
        case rel => exact ⟨j + 1, by omega, by go_num, rfl, HB, all_snoc hjl HAL.out HBJ.out, Hr.out.eq (flat_snoc _ _ _ hjl).symm rfl⟩
        case measure => simp [intOf]; omega
    · have hjn : j = l.length := by omega
      subst hjn
      go_wp2_with fail
      go_ret2
      rw [List.take_length] at Hr
      exact ⟨HB.out, by rw [if_pos (all_take_true HAL.out)]; exact ⟨_, _, rfl, Hr.out.sl, fun x hx => by cases hx; exact Nat.le_refl _⟩⟩

end Go.Proofs.Ytipgjookfdkciaa

/- Scalars' values compared; lists that are read, with their Bool. Condition: the lists that memory can hold. -/
namespace Go.Proofs.Ytipgjookfdkciaa
open Go.RowKit

theorem scalField : ∃ f, (Try.prog.fieldsOf 91).toList = [f] ∧ f.name = "n" ∧ f.type = 89 ∧ f.offset = 0 := by
  have h : ((Try.prog.fieldsOf 91).toList.map fun f => (f.name, f.type, f.offset)) = [("n", 89, 0)] := by kernel_rfl
  generalize (Try.prog.fieldsOf 91).toList = fs at *
  obtain ⟨f, rfl⟩ : ∃ f, fs = [f] := List.length_eq_one_iff.1 (by have := congrArg List.length h; simpa using this)
  simp only [List.map_cons, List.map_nil, List.cons.injEq, Prod.mk.injEq, and_true] at h
  exact ⟨f, rfl, h.1, h.2.1, h.2.2⟩
theorem cellsLimbs : Try.prog.cellsOf 89 = 4 := by kernel_rfl
theorem infoLimbs : (Try.prog.info? 89).isSome = true := by kernel_rfl
theorem partLimbs (a b c d : Value) (w : World) : (part 89 #[a, b, c, d] 0).run Try.prog w = .ok (.agg #[a, b, c, d]) w := by
  simp [part, isAgg, run_underlying Try.underlying89]
theorem eqScal (x y : Nat) (hx : x < BB ^ 4) (hy : y < BB ^ 4) (w : World) (b : Bool) (hb : b = decide (x = y)) :
    (Op.equalIn 10000 91 (.agg #[.int .u64 (dig x 0 : Int), .int .u64 (dig x 1 : Int), .int .u64 (dig x 2 : Int), .int .u64 (dig x 3 : Int)]) (.agg #[.int .u64 (dig y 0 : Int), .int .u64 (dig y 1 : Int), .int .u64 (dig y 2 : Int), .int .u64 (dig y 3 : Int)])).run Try.prog w = .ok b w := by
  obtain ⟨f, hf, hn, ht, ho⟩ := scalField
  rw [run_equalIn_struct w 9999 _ _ _ (by kernel_rfl) (by kernel_rfl), hf]
  obtain ⟨i, hi⟩ := Option.isSome_iff_exists.1 infoU64
  have h4 := run_equalIn_four w 9997 _ _ Try.underlying89 Try.underlying87 i hi cellsU64 plainU64 (dig x 0 : Int) (dig x 1 : Int) (dig x 2 : Int) (dig x 3 : Int) (dig y 0 : Int) (dig y 1 : Int) (dig y 2 : Int) (dig y 3 : Int)
  have he : ((dig x 0 : Int) == (dig y 0 : Int) && ((dig x 1 : Int) == (dig y 1 : Int) && ((dig x 2 : Int) == (dig y 2 : Int) && (dig x 3 : Int) == (dig y 3 : Int)))) = b := by
    rw [hb, Bool.eq_iff_iff]
    simp only [Bool.and_eq_true, beq_iff_eq, Int.natCast_inj, decide_eq_true_eq]
    exact ⟨fun ⟨h0, h1, h2, h3⟩ => lim_eq x y hx hy h0 h1 h2 h3, fun e => by rw [e]; exact ⟨rfl, rfl, rfl, rfl⟩⟩
  rw [he] at h4
  simp only [Op.eqFields, hn, ht, ho]
  rw [if_pos (by decide), Sem.run_bind, partLimbs, Result.andThen_ok, Sem.run_bind, partLimbs, Result.andThen_ok, Sem.run_bind]
  erw [h4]
  cases b <;> rfl
theorem guardScal (op : BinOp) (x y : Operand) (xs ys : Array Value) (w : World) : (eqGuard op 91 x y (.agg xs) (.agg ys)).run Try.prog w = .ok () w := run_eqGuard_agg w op _ x y xs ys (by kernel_rfl)
theorem binScal {xs ys : Array Value} {b : Bool} {w : World} (h : (Op.equalIn 10000 91 (.agg xs) (.agg ys)).run Try.prog w = .ok b w) : (binOp .eql 91 (.agg xs) (.agg ys)).run Try.prog w = .ok (.bool b) w := by
  rw [run_eql_struct, h]
  rfl

set_option maxHeartbeats 400000 in
theorem allSc_v (G : GP) (ok : G.Ok) (gb : Nat) (l : List ByteArray) (b : Bool) (hb : l.all (isSc G.q.m G.size) = b) (n : Nat) (hn : l.length = n) (al : Option Addr) (cl : Nat) (hl : n ≤ 8796093022207) (w : World) (hG : GroupAt w gb G) (hS : Sl w w.heap.size al (l.map Value.string)) :
    Calls Try.prog 58 #[.slice al n cl, .func (.func 59) #[.pointer (some ⟨gb, 0, none⟩)] #[]] w fun e w' => ∃ v, e = .returned (.tuple #[v, .bool b]) ∧ Below w.heap.size w w' ∧ (b = true → ∃ a c, v = .slice a n c ∧ Sl w' w'.heap.size a (l.flatMap (limC G.q.m)) ∧ (∀ x, a = some x → w.heap.size ≤ x.block)) := by
  subst hb
  subst hn
  refine (allSc_any G ok gb l al cl hl w hG hS).mono ?_
  rintro e w' ⟨h1, h2⟩
  cases hb : l.all (isSc G.q.m G.size) with
  | true =>
    rw [if_pos hb] at h2
    obtain ⟨a, c, rfl, h3⟩ := h2
    exact ⟨_, rfl, h1, fun _ => ⟨a, c, rfl, h3⟩⟩
  | false =>
    rw [if_neg (by rw [hb]; decide)] at h2
    exact ⟨_, h2, h1, fun h => by cases h⟩

set_option maxHeartbeats 400000 in
theorem allEl_v (G : GP) (ok : G.Ok) (gb : Nat) (l : List ByteArray) (b : Bool) (hb : l.all (isEl G.q.m G.size) = b) (n : Nat) (hn : l.length = n) (al : Option Addr) (cl : Nat) (hl : n ≤ 8796093022207) (w : World) (hG : GroupAt w gb G) (hS : Sl w w.heap.size al (l.map Value.string)) :
    Calls Try.prog 185 #[.slice al n cl, .func (.func 106) #[.pointer (some ⟨gb, 0, none⟩)] #[]] w fun e w' => ∃ v, e = .returned (.tuple #[v, .bool b]) ∧ Below w.heap.size w w' ∧ (b = true → ∃ a c, v = .slice a n c ∧ Sl w' w'.heap.size a (l.flatMap (limC G.p.m)) ∧ (∀ x, a = some x → w.heap.size ≤ x.block)) := by
  subst hb
  subst hn
  refine (allEl_any G ok gb l al cl hl w hG hS).mono ?_
  rintro e w' ⟨h1, h2⟩
  cases hb : l.all (isEl G.q.m G.size) with
  | true =>
    rw [if_pos hb] at h2
    obtain ⟨a, c, rfl, h3⟩ := h2
    exact ⟨_, rfl, h1, fun _ => ⟨a, c, rfl, h3⟩⟩
  | false =>
    rw [if_neg (by rw [hb]; decide)] at h2
    exact ⟨_, h2, h1, fun h => by cases h⟩

theorem infoStr : (Try.prog.info? 9).map (fun i => (i.zero, i.size, i.bytes)) = some (some (.string ⟨#[]⟩), 1, 16) := by kernel_rfl


/-- The cells of a slice whose address is known. -/
theorem Sl.adr {w : World} {B : Nat} {a : Option Addr} {cs : List Value} (h : Sl w B a cs) (h0 : cs ≠ []) : ∃ b o, a = some ⟨b, o, none⟩ ∧ b < B := by
  rcases h with h | ⟨b, off, rfl, hb, _⟩
  · exact absurd h h0
  · exact ⟨b, off, rfl, hb⟩
theorem Sl.elemS {w : World} {B b o : Nat} {α : Type} {f : α → List Value} {k : Nat} {l : List α} (h : Sl w B (some ⟨b, o, none⟩) (l.flatMap f)) (hk : ∀ x, (f x).length = k) (h0 : 0 < k) (i : Nat) (hi : i < l.length) :
    b < B ∧ ∀ j v, (f l[i])[j]? = some v → w.cell? ⟨b, o + i * k + j, none⟩ = some v := by
  obtain ⟨b', o', he, hb, hc⟩ := h.elem hk h0 i hi
  simp only [Option.some.injEq, Addr.mk.injEq, and_true] at he
  obtain ⟨rfl, rfl⟩ := he
  exact ⟨hb, hc⟩
theorem Sl.atUp {w0 w : World} {a : Option Addr} {cs : List Value} (h : Sl w0 w0.heap.size a cs) (hb : Below w0.heap.size w0 w) (i : Nat) (hi : i < cs.length) :
    ∃ b off, a = some ⟨b, off, none⟩ ∧ b < w0.heap.size ∧ b < w.heap.size ∧ w.cell? ⟨b, off + i, none⟩ = some cs[i] := by
  obtain ⟨b, off, he, h1, h2⟩ := h.at i hi
  exact ⟨b, off, he, h1, Nat.lt_of_lt_of_le h1 hb.size, by rw [hb.cell (p := ⟨b, off + i, none⟩) h1]; exact h2⟩
theorem Sl.elemUp {w0 w : World} {a : Option Addr} {α : Type} {f : α → List Value} {k : Nat} {l : List α} (h : Sl w0 w0.heap.size a (l.flatMap f)) (hb : Below w0.heap.size w0 w) (hk : ∀ x, (f x).length = k) (h0 : 0 < k) (i : Nat) (hi : i < l.length) :
    ∃ b off, a = some ⟨b, off, none⟩ ∧ b < w0.heap.size ∧ b < w.heap.size ∧ ∀ j v, (f l[i])[j]? = some v → w.cell? ⟨b, off + i * k + j, none⟩ = some v := by
  obtain ⟨b, off, he, h1, h2⟩ := h.elem hk h0 i hi
  exact ⟨b, off, he, h1, Nat.lt_of_lt_of_le h1 hb.size, fun j v hv => by rw [hb.cell (p := ⟨b, off + i * k + j, none⟩) h1]; exact h2 j v hv⟩
theorem flat_ne {α : Type} {f : α → List Value} {k : Nat} {l : List α} (hk : ∀ x, (f x).length = k) (h0 : 0 < k) (hl : l ≠ []) : l.flatMap f ≠ [] := by
  intro e
  have := flat_len f k hk l
  rw [e, List.length_nil] at this
  have : 0 < l.length * k := Nat.mul_pos (List.length_pos_iff.2 hl) h0
  omega
theorem isSc_le {G : GP} {s : ByteArray} (h : isSc G.q.m G.size s = true) : numOf s ≤ G.q.m := by
  unfold isSc at h
  simp only [Bool.and_eq_true, decide_eq_true_eq] at h
  omega

end Go.Proofs.Ytipgjookfdkciaa

/- What is wrong with how many claims there are: shape of the package sigma. No condition. -/
namespace Go.Proofs.Ytipgjookfdkciaa
open Go.RowKit

def ClaimA.val (c : ClaimA) : Value := .agg #[.slice c.ab c.bases.length c.cb, .slice c.ai c.images.length c.ci]
theorem any_take_true {α : Type} {f : α → Bool} {l : List α} {i : Nat} (hi : i < l.length) (h : f l[i] = true) : l.any f = true := List.any_eq_true.2 ⟨l[i], List.getElem_mem hi, h⟩
theorem any_snoc {α : Type} {f : α → Bool} {l : List α} {i : Nat} (hi : i < l.length) (ht : (l.take i).any f = false) (h : f l[i] = false) : (l.take (i + 1)).any f = false := by
  rw [List.take_succ_eq_append_getElem hi, List.any_append, ht]
  simp [h]

set_option maxRecDepth 100000 in
set_option maxHeartbeats 1000000 in
theorem shape1_any (c : ClaimA) (b : Bool) (hb : cLong c = b) (w : World) : Calls Try.prog 201 #[c.val] w (Gives (.bool b) w) := by
  obtain ⟨n, hn⟩ : ∃ n, c.bases.length = n := ⟨_, rfl⟩
  obtain ⟨m, hm⟩ : ∃ m, c.images.length = m := ⟨_, rfl⟩
  have hbv : b = (decide (8 < n) || decide (8 < m)) := by rw [← hb, ← hn, ← hm]; rfl
  unfold ClaimA.val Gives
  rw [hn, hm]
  clear hn hm hb
  by_cases h1 : 8 < n
  · have hd : decide ((n : Int) > 8) = true := by simp; omega
    obtain rfl : b = true := by rw [hbv]; simp [h1]
    clear hbv h1
    go_enter Try.func201, Try.ntmps201
    go_wp2_with fail
    obtain ⟨w1, hq1, hb9, hz9, Hbc⟩ := new1 w 70 [.slice c.ab n c.cb, .slice c.ai m c.ci]
    rw [hq1]
    clear hq1
    have HB := Lib.hid hb9
    have HZS := hz9
    clear hb9 hz9
    have bc_ := Hbc.out.c2
    go_wp2_with fail
    go_ret
    exact ⟨rfl, HB.out⟩
  · have hd : decide ((n : Int) > 8) = false := by simp; omega
    by_cases h2 : 8 < m
    · have hd2 : decide ((m : Int) > 8) = true := by simp; omega
      obtain rfl : b = true := by rw [hbv]; simp [h2]
      clear hbv h1 h2
      go_enter Try.func201, Try.ntmps201
      go_wp2_with fail
      obtain ⟨w1, hq1, hb9, hz9, Hbc⟩ := new1 w 70 [.slice c.ab n c.cb, .slice c.ai m c.ci]
      rw [hq1]
      clear hq1
      have HB := Lib.hid hb9
      have HZS := hz9
      clear hb9 hz9
      have bc_ := Hbc.out.c2
      go_wp2_with fail
      go_ret
      exact ⟨rfl, HB.out⟩
    · have hd2 : decide ((m : Int) > 8) = false := by simp; omega
      obtain rfl : b = false := by rw [hbv]; simp [h1, h2]
      clear hbv h1 h2
      go_enter Try.func201, Try.ntmps201
      go_wp2_with fail
      obtain ⟨w1, hq1, hb9, hz9, Hbc⟩ := new1 w 70 [.slice c.ab n c.cb, .slice c.ai m c.ci]
      rw [hq1]
      clear hq1
      have HB := Lib.hid hb9
      have HZS := hz9
      clear hb9 hz9
      have bc_ := Hbc.out.c2
      go_wp2_with fail
      go_ret
      exact ⟨rfl, HB.out⟩

set_option maxRecDepth 100000 in
set_option maxHeartbeats 1000000 in
theorem shape2_any (c : ClaimA) (b : Bool) (hb : cForm c = b) (w : World) : Calls Try.prog 202 #[c.val] w (Gives (.bool b) w) := by
  obtain ⟨n, hn⟩ : ∃ n, c.bases.length = n := ⟨_, rfl⟩
  obtain ⟨m, hm⟩ : ∃ m, c.images.length = m := ⟨_, rfl⟩
  have hbv : b = (decide (n = 0) || decide (n ≠ m)) := by rw [← hb, ← hn, ← hm]; rfl
  unfold ClaimA.val Gives
  rw [hn, hm]
  clear hn hm hb
  by_cases h1 : n = 0
  · have hd : ((n : Int) == 0) = true := by simp; omega
    obtain rfl : b = true := by rw [hbv]; simp [h1]
    clear hbv h1
    go_enter Try.func202, Try.ntmps202
    go_wp2_with fail
    obtain ⟨w1, hq1, hb9, hz9, Hbc⟩ := new1 w 70 [.slice c.ab n c.cb, .slice c.ai m c.ci]
    rw [hq1]
    clear hq1
    have HB := Lib.hid hb9
    have HZS := hz9
    clear hb9 hz9
    have bc_ := Hbc.out.c2
    go_wp2_with fail
    go_ret
    exact ⟨rfl, HB.out⟩
  · have hd : ((n : Int) == 0) = false := by simp; omega
    by_cases h2 : n ≠ m
    · have hd2 : ((n : Int) != (m : Int)) = true := by simp; omega
      obtain rfl : b = true := by rw [hbv]; simp [h2]
      clear hbv h1 h2
      go_enter Try.func202, Try.ntmps202
      go_wp2_with fail
      obtain ⟨w1, hq1, hb9, hz9, Hbc⟩ := new1 w 70 [.slice c.ab n c.cb, .slice c.ai m c.ci]
      rw [hq1]
      clear hq1
      have HB := Lib.hid hb9
      have HZS := hz9
      clear hb9 hz9
      have bc_ := Hbc.out.c2
      go_wp2_with fail
      go_ret
      exact ⟨rfl, HB.out⟩
    · have hd2 : ((n : Int) != (m : Int)) = false := by simp; omega
      obtain rfl : b = false := by rw [hbv]; simp [h1]; omega
      clear hbv h1 h2
      go_enter Try.func202, Try.ntmps202
      go_wp2_with fail
      obtain ⟨w1, hq1, hb9, hz9, Hbc⟩ := new1 w 70 [.slice c.ab n c.cb, .slice c.ai m c.ci]
      rw [hq1]
      clear hq1
      have HB := Lib.hid hb9
      have HZS := hz9
      clear hb9 hz9
      have bc_ := Hbc.out.c2
      go_wp2_with fail
      go_ret
      exact ⟨rfl, HB.out⟩

set_option maxRecDepth 100000 in
set_option maxHeartbeats 1000000 in
theorem idxLong (l : List ClaimA) (al : Option Addr) (cl : Nat) (b : Bool) (hb : l.any cLong = b) (hl : l.length ≤ 64) (w : World) (hS : Sl w w.heap.size al (l.flatMap ClaimA.cells)) :
    Calls Try.prog 205 #[.slice al l.length cl, .func (.func 201) #[] #[]] w fun e w' => ∃ z : Int, e = .returned (.int .i64 z) ∧ decide (z ≥ 0) = b ∧ Below w.heap.size w w' := by
  have HS := Lib.hid hS
  have HBQ := Lib.hid hb
  clear hS hb
  go_enter Try.func205, Try.ntmps205
  go_wp2_with fail
  go_loopw [8] (fun i wr => ∃ j : Nat, j ≤ l.length ∧ i = .int .i64 j ∧ Hid (Below w.heap.size w wr) ∧ Hid ((l.take j).any cLong = false)) (fun i _ => l.length - (intOf i).toNat)
  case atStart => exact ⟨0, Nat.zero_le _, rfl, Below.refl _ _, rfl⟩
  case round =>
    obtain ⟨j, hj, rfl, HB, HAL⟩ := hrel
    by_cases hjl : j < l.length
    · skip
      obtain ⟨bl, ol, rfl, hbl, hc⟩ := (HS.out.up HB.out).elem ClaimA.cells_len (by omega) j hjl
      have hc_0 := hc 0 _ rfl
      rw [Nat.add_zero] at hc_0
      have hc_1 := hc 1 _ rfl
      clear hc
      obtain ⟨bj, hbj⟩ : ∃ x, cLong l[j] = x := ⟨_, rfl⟩
      have HBJ := Lib.hid hbj
      clear hbj
      go_wp2_with fail
      refine (shape1_any l[j] bj HBJ.out wr).mono ?_
      rintro e w1 ⟨rfl, hb9⟩
      replace HB := hbu HB hb9
      have HZS := Lib.hid hb9.size
      clear hb9
      cases bj
      · go_wp2_with fail
        go_roundw
        case rel => exact ⟨j + 1, by omega, by go_num, HB, any_snoc hjl HAL.out HBJ.out⟩
        case measure => simp [intOf]; omega
      · go_wp2_with fail
        go_ret
        exact ⟨j, rfl, by rw [← HBQ.out, any_take_true hjl HBJ.out]; simp, HB.out⟩
    · have hjn : j = l.length := by omega
      subst hjn
      go_wp2_with fail
      go_ret
      rw [List.take_length] at HAL
      exact ⟨-1, rfl, by rw [← HBQ.out, HAL.out]; rfl, HB.out⟩

set_option maxRecDepth 100000 in
set_option maxHeartbeats 1000000 in
theorem conLong (l : List ClaimA) (al : Option Addr) (cl : Nat) (b : Bool) (hb : l.any cLong = b) (hl : l.length ≤ 64) (w : World) (hS : Sl w w.heap.size al (l.flatMap ClaimA.cells)) :
    Calls Try.prog 200 #[.slice al l.length cl, .func (.func 201) #[] #[]] w (Gives (.bool b) w) := by
  have HS := Lib.hid hS
  have HBQ := Lib.hid hb
  clear hS hb
  unfold Gives
  go_enter Try.func200, Try.ntmps200
  go_wp2_with fail
  refine (idxLong l al cl b HBQ.out hl w HS.out).mono ?_
  rintro e w1 ⟨z, rfl, hz, hb9⟩
  have HB := Lib.hid hb9
  have HZS := Lib.hid hb9.size
  clear hb9
  go_wp2_with fail
  go_ret
  exact ⟨rfl, HB.out⟩

set_option maxRecDepth 100000 in
set_option maxHeartbeats 1000000 in
theorem idxForm (l : List ClaimA) (al : Option Addr) (cl : Nat) (b : Bool) (hb : l.any cForm = b) (hl : l.length ≤ 64) (w : World) (hS : Sl w w.heap.size al (l.flatMap ClaimA.cells)) :
    Calls Try.prog 205 #[.slice al l.length cl, .func (.func 202) #[] #[]] w fun e w' => ∃ z : Int, e = .returned (.int .i64 z) ∧ decide (z ≥ 0) = b ∧ Below w.heap.size w w' := by
  have HS := Lib.hid hS
  have HBQ := Lib.hid hb
  clear hS hb
  go_enter Try.func205, Try.ntmps205
  go_wp2_with fail
  go_loopw [8] (fun i wr => ∃ j : Nat, j ≤ l.length ∧ i = .int .i64 j ∧ Hid (Below w.heap.size w wr) ∧ Hid ((l.take j).any cForm = false)) (fun i _ => l.length - (intOf i).toNat)
  case atStart => exact ⟨0, Nat.zero_le _, rfl, Below.refl _ _, rfl⟩
  case round =>
    obtain ⟨j, hj, rfl, HB, HAL⟩ := hrel
    by_cases hjl : j < l.length
    · skip
      obtain ⟨bl, ol, rfl, hbl, hc⟩ := (HS.out.up HB.out).elem ClaimA.cells_len (by omega) j hjl
      have hc_0 := hc 0 _ rfl
      rw [Nat.add_zero] at hc_0
      have hc_1 := hc 1 _ rfl
      clear hc
      obtain ⟨bj, hbj⟩ : ∃ x, cForm l[j] = x := ⟨_, rfl⟩
      have HBJ := Lib.hid hbj
      clear hbj
      go_wp2_with fail
      refine (shape2_any l[j] bj HBJ.out wr).mono ?_
      rintro e w1 ⟨rfl, hb9⟩
      replace HB := hbu HB hb9
      have HZS := Lib.hid hb9.size
      clear hb9
      cases bj
      · go_wp2_with fail
        go_roundw
        case rel => exact ⟨j + 1, by omega, by go_num, HB, any_snoc hjl HAL.out HBJ.out⟩
        case measure => simp [intOf]; omega
      · go_wp2_with fail
        go_ret
        exact ⟨j, rfl, by rw [← HBQ.out, any_take_true hjl HBJ.out]; simp, HB.out⟩
    · have hjn : j = l.length := by omega
      subst hjn
      go_wp2_with fail
      go_ret
      rw [List.take_length] at HAL
      exact ⟨-1, rfl, by rw [← HBQ.out, HAL.out]; rfl, HB.out⟩

set_option maxRecDepth 100000 in
set_option maxHeartbeats 1000000 in
theorem conForm (l : List ClaimA) (al : Option Addr) (cl : Nat) (b : Bool) (hb : l.any cForm = b) (hl : l.length ≤ 64) (w : World) (hS : Sl w w.heap.size al (l.flatMap ClaimA.cells)) :
    Calls Try.prog 200 #[.slice al l.length cl, .func (.func 202) #[] #[]] w (Gives (.bool b) w) := by
  have HS := Lib.hid hS
  have HBQ := Lib.hid hb
  clear hS hb
  unfold Gives
  go_enter Try.func200, Try.ntmps200
  go_wp2_with fail
  refine (idxForm l al cl b HBQ.out hl w HS.out).mono ?_
  rintro e w1 ⟨z, rfl, hz, hb9⟩
  have HB := Lib.hid hb9
  have HZS := Lib.hid hb9.size
  clear hb9
  go_wp2_with fail
  go_ret
  exact ⟨rfl, HB.out⟩

set_option maxRecDepth 100000 in
set_option maxHeartbeats 1000000 in
theorem shape_any (l : List ClaimA) (al : Option Addr) (cl : Nat) (w : World) (hS : Sl w w.heap.size al (l.flatMap ClaimA.cells)) :
    Calls Try.prog 184 #[.slice al l.length cl] w (Gives (.int .i64 (shapeE l : Int)) w) := by
  have HS := Lib.hid hS
  clear hS
  obtain ⟨z, hz⟩ : ∃ z, shapeE l = z := ⟨_, rfl⟩
  obtain ⟨b1, hb1⟩ : ∃ b, l.any cLong = b := ⟨_, rfl⟩
  obtain ⟨b2, hb2⟩ : ∃ b, l.any cForm = b := ⟨_, rfl⟩
  have HB1 := Lib.hid hb1
  have HB2 := Lib.hid hb2
  have hzz : z = if (decide (64 < l.length) || b1) = true then 3 else if (decide (l.length = 0) || b2) = true then 2 else 0 := by rw [← hz, ← hb1, ← hb2]; rfl
  rw [hz]
  clear hz hb1 hb2
  unfold Gives
  by_cases h1 : 64 < l.length
  · have hd : decide ((l.length : Int) > 64) = true := by simp; omega
    obtain rfl : z = 3 := by rw [hzz]; simp [h1]
    clear hzz h1
    go_enter Try.func184, Try.ntmps184
    go_wp2_with fail
    go_ret
    exact ⟨rfl, Below.refl _ _⟩
  have hd : decide ((l.length : Int) > 64) = false := by simp; omega
  cases b1
  case true =>
    obtain rfl : z = 3 := by rw [hzz]; simp
    clear hzz
    go_enter Try.func184, Try.ntmps184
    go_wp2_with fail
    refine (conLong l al cl true HB1.out (by omega) w HS.out).mono ?_
    rintro e w1 ⟨rfl, hb9⟩
    have HB := Lib.hid hb9
    have HZS := Lib.hid hb9.size
    clear hb9
    go_wp2_with fail
    go_ret
    exact ⟨rfl, HB.out⟩
  by_cases h2 : l.length = 0
  · have hd2 : ((l.length : Int) == 0) = true := by rw [beq_iff_eq]; omega
    obtain rfl : z = 2 := by rw [hzz]; simp [h1, h2]
    clear hzz h2
    go_enter Try.func184, Try.ntmps184
    go_wp2_with fail
    refine (conLong l al cl false HB1.out (by omega) w HS.out).mono ?_
    rintro e w1 ⟨rfl, hb9⟩
    have HB := Lib.hid hb9
    have HZS := Lib.hid hb9.size
    clear hb9
    go_wp2_with fail
    go_ret
    exact ⟨rfl, HB.out⟩
  have hd2 : ((l.length : Int) == 0) = false := by rw [beq_eq_false_iff_ne]; omega
  cases b2
  case true =>
    obtain rfl : z = 2 := by rw [hzz]; simp [h1, h2]
    clear hzz h2
    go_enter Try.func184, Try.ntmps184
    go_wp2_with fail
    refine (conLong l al cl false HB1.out (by omega) w HS.out).mono ?_
    rintro e w1 ⟨rfl, hb9⟩
    have HB := Lib.hid hb9
    have HZS := Lib.hid hb9.size
    clear hb9
    go_wp2_with fail
    refine (conForm l al cl true HB2.out (by omega) w1 (HS.out.up HB.out)).mono ?_
    rintro e w2 ⟨rfl, hb9⟩
    replace HB := hbu HB hb9
    replace HZS := sz HZS hb9.size
    clear hb9
    go_wp2_with fail
    go_ret
    exact ⟨rfl, HB.out⟩
  case false =>
    obtain rfl : z = 0 := by rw [hzz]; simp [h1, h2]
    clear hzz h2
    go_enter Try.func184, Try.ntmps184
    go_wp2_with fail
    refine (conLong l al cl false HB1.out (by omega) w HS.out).mono ?_
    rintro e w1 ⟨rfl, hb9⟩
    have HB := Lib.hid hb9
    have HZS := Lib.hid hb9.size
    clear hb9
    go_wp2_with fail
    refine (conForm l al cl false HB2.out (by omega) w1 (HS.out.up HB.out)).mono ?_
    rintro e w2 ⟨rfl, hb9⟩
    replace HB := hbu HB hb9
    replace HZS := sz HZS hb9.size
    clear hb9
    go_wp2_with fail
    go_ret
    exact ⟨rfl, HB.out⟩

end Go.Proofs.Ytipgjookfdkciaa

/- A region that draws its order, walked along a tree, where the last that acts stores into what others of the region read ahead of it: 'x.f = append(x.f, ..)'. No condition beyond those that each law names. -/
namespace Go.Proofs.Ytipgjookfdkciaa
open Go.RowKit

section
variable {P : Program} {ops : Array Oper} {S : World → Prop} {Q : Exit → Act → World → Prop} {k : Nat} {md : Region.Mode}

/-- Whatever order is picked: till operation k has been carried out, S holds behind every step. -/
def wpAnyK (P : Program) (md : Region.Mode) (ops : Array Oper) (Q : Exit → Act → World → Prop) (S : World → Prop) (k : Nat) : Nat → Array Bool → Act → World → Prop
  | 0, listed, a, w => Region.ready md ops listed = [] ∧ Q .normal a w
  | fuel + 1, listed, a, w =>
    (Region.ready md ops listed = [] → Q .normal a w) ∧
    ∀ i ∈ Region.ready md ops listed, wpOp P ops Q i (fun a' w' => ((listed.setIfInBounds i true).getD k false = false → S w') ∧ wpAnyK P md ops Q S k fuel (listed.setIfInBounds i true) a' w') a w

theorem any_of_K : ∀ (fuel : Nat) (listed : Array Bool) (a : Act) (w : World), wpAnyK P md ops Q S k fuel listed a w → wpAny P md ops Q fuel listed a w
  | 0, _, _, _, h => h
  | fuel + 1, _, _, _, h => ⟨h.1, fun i hi => wpOp_mono (fun a' w' h' => any_of_K fuel _ a' w' h'.2) (h.2 i hi)⟩

theorem anyK_first {SS : World → Prop} (C : Array Bool → Prop) {i : Nat} {oi : Oper} {v : Value} (hi : ops[i]? = some oi) (hik : i ≠ k) (hsel : ∀ (j : Nat) (o : Oper) cs b, ops[j]? = some o → o.op ≠ .select cs b)
    (hQ : ∀ c a w, Q (.panic c) (a.put oi.dst v) w → Q (.panic c) a w)
    (hstep : ∀ listed j, C listed → i ∈ Region.ready md ops listed → j ∈ Region.ready md ops listed → j ≠ i → C (listed.setIfInBounds j true))
    (hSS : ∀ listed w, C listed → (listed.getD k false = false → S w) → SS w) :
    ∀ (fuel : Nat) (listed : Array Bool) (a : Act) (w : World),
      (∀ j oj, ops[j]? = some oj → j ≠ i → listed.getD j true = false → (∀ e ∈ oj.after, Region.binds md e = true → e.on ≠ i) → oi.apart ops oj = true) →
      i ∈ Region.ready md ops listed → C listed → YieldsIf P ops SS oi v a → (listed.getD k false = false → S w) →
      wpAnyK P md ops Q S k fuel (listed.setIfInBounds i true) (a.put oi.dst v) w → wpAnyK P md ops Q S k (fuel + 1) listed a w := by
  intro fuel
  induction fuel with
  | zero =>
    intro listed a w _ hr hC hy hS H
    refine ⟨fun h => (by rw [h] at hr; cases hr), fun j hj => ?_⟩
    by_cases hji : j = i
    · subst hji; exact hy.wpOp hi (hSS listed w hC hS) ⟨fun h => hS (by rwa [getD_set_ne false hik] at h), H⟩
    · have := ready_mono hj hji
      rw [H.1] at this
      cases this
  | succ fuel ih =>
    intro listed a w hfree hr hC hy hS H
    refine ⟨fun h => (by rw [h] at hr; cases hr), fun j hj => ?_⟩
    by_cases hji : j = i
    · subst hji; exact hy.wpOp hi (hSS listed w hC hS) ⟨fun h => hS (by rwa [getD_set_ne false hik] at h), H⟩
    · have h1 := H.2 j (ready_mono hj hji)
      obtain ⟨hjun, oj, hoj, hall⟩ := mem_ready.1 hj
      have hnot : ∀ e ∈ oj.after, Region.binds md e = true → e.on ≠ i := fun e he hb heq => by
        have h1 := hall e he hb
        have h0 := (mem_ready.1 hr).1
        rw [heq] at h1
        rcases Nat.lt_or_ge i listed.size with h' | h'
        · simp [h'] at h0 h1; rw [h0] at h1; cases h1
        · simp [Array.getElem?_eq_none h'] at h1
      have h2 := wpOp_putIf hoj (hfree j oj hoj hji hjun hnot) (fun cs b => hsel i oi cs b hi) (fun cs b => hsel j oj cs b hoj) hQ hy h1
      have hfree' : ∀ m om, ops[m]? = some om → m ≠ i → (listed.setIfInBounds j true).getD m true = false →
          (∀ e ∈ om.after, Region.binds md e = true → e.on ≠ i) → oi.apart ops om = true := fun m om hm hmi hun hno => by
        refine hfree m om hm hmi ?_ hno
        by_cases hjm : j = m
        · subst hjm; exact hjun
        · rw [getD_set_ne true hjm] at hun; exact hun
      have hkk : ((listed.setIfInBounds i true).setIfInBounds j true).getD k false = (listed.setIfInBounds j true).getD k false := by
        rw [Array.setIfInBounds_comm _ _ (Ne.symm hji), getD_set_ne false hik]
      have hr' := ready_mono hr (Ne.symm hji)
      refine wpOp_mono (fun a' w' h3 => ?_) h2
      have hS' : (listed.setIfInBounds j true).getD k false = false → S w' := fun h => h3.2.1 (by rw [hkk]; exact h)
      refine ⟨hS', ih (listed.setIfInBounds j true) a' w' hfree' hr' (hstep listed j hC hr hj hji) h3.1 hS' ?_⟩
      rw [Array.setIfInBounds_comm _ _ hji]
      exact h3.2.2

/-- Each of a chain waits for the one ahead of it. -/
def chainB (md : Region.Mode) (ops : Array Oper) : Nat → List Nat → Bool
  | _, [] => true
  | i, j :: l => (match ops[j]? with | some o => o.after.any (fun e => Region.binds md e && e.on == i) | none => false) && chainB md ops j l

theorem chain_step {i j : Nat} {l : List Nat} {listed : Array Bool} : ∀ (i : Nat) (l : List Nat), chainB md ops i l = true → listed.getD i true = false → (∀ c ∈ l, listed.getD c true = false) → j ∈ Region.ready md ops listed → j ∉ l
  | _, [], _, _, _, _ => by simp
  | i, c :: l, hB, h0, hl, hj => by
    simp only [chainB, Bool.and_eq_true] at hB
    have ih := chain_step (listed := listed) (j := j) (i := i) (l := l) c l hB.2 (hl c (by simp)) (fun d hd => hl d (by simp [hd])) hj
    intro hm
    rcases List.mem_cons.1 hm with rfl | hm
    · obtain ⟨_, o, ho, hall⟩ := mem_ready.1 hj
      have hB1 := hB.1
      rw [ho] at hB1
      simp only [Array.any_eq_true', Bool.and_eq_true, beq_iff_eq] at hB1
      obtain ⟨e, he, hb, hon⟩ := hB1
      have h1 := hall e he hb
      rw [hon] at h1
      rcases Nat.lt_or_ge i listed.size with h' | h'
      · simp [h'] at h0 h1; rw [h0] at h1; cases h1
      · simp [Array.getElem?_eq_none h'] at h1
    · exact ih hm

/-- The orders: q reads nothing; e reads what operation k may change (the chain from it to k is named); a acts. -/
inductive TreeK where
  | done : TreeK
  | q : Nat → TreeK → TreeK
  | e : Nat → List Nat → TreeK → TreeK
  | a : Nat → TreeK → TreeK
  | two : Nat → TreeK → Nat → TreeK → TreeK

def TreeK.qs : List Nat → TreeK → TreeK
  | [], t => t
  | i :: l, t => .q i (TreeK.qs l t)

def TreeK.size : TreeK → Nat
  | .done => 0
  | .q _ r => r.size + 1
  | .e _ _ r => r.size + 1
  | .a _ r => r.size + 1
  | .two _ r _ _ => r.size + 1

def wpTreeK (P : Program) (ops : Array Oper) (S : World → Prop) (Q : Exit → Act → World → Prop) (k : Nat) : TreeK → Act → World → Prop
  | .done, a, w => Q .normal a w
  | .q i r, a, w => match ops[i]? with
    | none => False
    | some o => easyOp o = true ∧ wpQuiet P ops (fun _ => True) (fun a' => wpTreeK P ops S Q k r a' w) [o] a
  | .e i _ r, a, w => match ops[i]? with
    | none => False
    | some o => easyOp o = true ∧ wpQuiet P ops S (fun a' => wpTreeK P ops S Q k r a' w) [o] a
  | .a i r, a, w => wpOp P ops Q i (fun a' w' => (i ≠ k → S w') ∧ wpTreeK P ops S Q k r a' w') a w
  | .two i r j s, a, w => wpOp P ops Q i (fun a' w' => (i ≠ k → S w') ∧ wpTreeK P ops S Q k r a' w') a w ∧ wpOp P ops Q j (fun a' w' => (j ≠ k → S w') ∧ wpTreeK P ops S Q k s a' w') a w

def treeKB (md : Region.Mode) (ops : Array Oper) (k : Nat) : TreeK → Array Bool → Bool
  | .done, listed => (Region.ready md ops listed).isEmpty
  | .q i r, listed => (Region.ready md ops listed).contains i && Region.free md ops listed i && !(i == k) && treeKB md ops k r (listed.setIfInBounds i true)
  | .e i ch r, listed => (Region.ready md ops listed).contains i && Region.free md ops listed i && !(i == k) && chainB md ops i (ch ++ [k]) && (ch ++ [k]).all (fun c => !listed.getD c true) && !(i ∈ ch ++ [k]) && treeKB md ops k r (listed.setIfInBounds i true)
  | .a i r, listed => decide (Region.ready md ops listed = [i]) && treeKB md ops k r (listed.setIfInBounds i true)
  | .two i r j s, listed => decide (Region.ready md ops listed = [i, j]) && decide (r.size = s.size) && treeKB md ops k r (listed.setIfInBounds i true) && treeKB md ops k s (listed.setIfInBounds j true)

theorem listed_k {listed : Array Bool} {i : Nat} (hi : i ∈ Region.ready md ops listed) {w' : World} (h : i ≠ k → S w') : (listed.setIfInBounds i true).getD k false = false → S w' := by
  intro h9
  refine h (fun e => ?_)
  subst e
  have h0 := (mem_ready.1 hi).1
  rcases Nat.lt_or_ge i listed.size with h' | h'
  · simp [h'] at h9
  · simp [h'] at h0

theorem K_of_tree (hsel : Region.noSelect ops = true) (hQ : ∀ c a d v w, Q (.panic c) (a.put d v) w → Q (.panic c) a w) :
    ∀ (t : TreeK) (listed : Array Bool) (a : Act) (w : World), (listed.getD k false = false → S w) → treeKB md ops k t listed = true → wpTreeK P ops S Q k t a w → wpAnyK P md ops Q S k t.size listed a w
  | .done, listed, a, w, _, hB, h => ⟨by simpa [treeKB] using hB, h⟩
  | .q i r, listed, a, w, hS, hB, h => by
    unfold wpTreeK at h
    split at h
    · cases h
    · rename_i o ho
      obtain ⟨hp, hq⟩ := h
      obtain ⟨v, hy, hK⟩ := yieldsIf_easy hp hq
      simp only [treeKB, Bool.and_eq_true, Bool.not_eq_true', beq_eq_false_iff_ne] at hB
      exact anyK_first (fun _ => True) ho hB.1.2 (Region.noSelect_spec hsel) (fun c a w hq => hQ c a _ _ w hq) (fun _ _ _ _ _ _ => trivial) (fun _ _ _ _ => trivial) _ listed a w (Region.free_spec ho hB.1.1.2) (by simpa using hB.1.1.1) trivial hy hS
        (K_of_tree hsel hQ r _ _ w (fun h9 => hS (by rwa [getD_set_ne false hB.1.2] at h9)) hB.2 hK)
  | .e i ch r, listed, a, w, hS, hB, h => by
    unfold wpTreeK at h
    split at h
    · cases h
    · rename_i o ho
      obtain ⟨hp, hq⟩ := h
      obtain ⟨v, hy, hK⟩ := yieldsIf_easy hp hq
      simp only [treeKB, Bool.and_eq_true, Bool.not_eq_true', beq_eq_false_iff_ne, List.all_eq_true, decide_eq_false_iff_not] at hB
      obtain ⟨⟨⟨⟨⟨⟨h1, h2⟩, h3⟩, h4⟩, h5⟩, h6⟩, h7⟩ := hB
      refine anyK_first (SS := S) (fun l => ∀ c ∈ ch ++ [k], l.getD c true = false) ho h3 (Region.noSelect_spec hsel) (fun c a w hq => hQ c a _ _ w hq) ?_ ?_ _ listed a w (Region.free_spec ho h2) (by simpa using h1) h5 hy hS
        (K_of_tree hsel hQ r _ _ w (fun h9 => hS (by rwa [getD_set_ne false h3] at h9)) h7 hK)
      · intro l j hC hr hj hji c hc
        have hn := chain_step (i := i) (l := ch) (j := j) i (ch ++ [k]) h4 (mem_ready.1 hr).1 hC hj
        rw [getD_set_ne true (fun e => hn (by rw [e]; exact hc))]
        exact hC c hc
      · intro l w' hC h9
        refine h9 ?_
        have := hC k (by simp)
        rcases Nat.lt_or_ge k l.size with h' | h'
        · simp [h'] at this ⊢; exact this
        · simp [h'] at this
  | .a i r, listed, a, w, hS, hB, h => by
    simp only [treeKB, Bool.and_eq_true, decide_eq_true_eq] at hB
    unfold wpTreeK at h
    refine ⟨fun h9 => (by rw [hB.1] at h9; cases h9), fun j hj => ?_⟩
    have hj' : j = i := by rw [hB.1] at hj; simpa using hj
    subst hj'
    exact wpOp_mono (fun a' w' ⟨hS', h'⟩ => ⟨listed_k hj hS', K_of_tree hsel hQ r _ a' w' (listed_k hj hS') hB.2 h'⟩) h
  | .two i r j s, listed, a, w, hS, hB, h => by
    simp only [treeKB, Bool.and_eq_true, decide_eq_true_eq] at hB
    obtain ⟨⟨⟨h1, h2⟩, h3⟩, h4⟩ := hB
    unfold wpTreeK at h
    refine ⟨fun h9 => (by rw [h1] at h9; cases h9), fun m hm => ?_⟩
    rcases (by rw [h1] at hm; simpa using hm : m = i ∨ m = j) with rfl | rfl
    · exact wpOp_mono (fun a' w' ⟨hS', h'⟩ => ⟨listed_k hm hS', K_of_tree hsel hQ r _ a' w' (listed_k hm hS') h3 h'⟩) h.1
    · exact wpOp_mono (fun a' w' ⟨hS', h'⟩ => ⟨listed_k hm hS', by rw [h2]; exact K_of_tree hsel hQ s _ a' w' (listed_k hm hS') h4 h'⟩) h.2

theorem wp_region_treek {id : Nat} {a : Act} {w : World} {l : List Oper} (S : World → Prop) (k : Nat) (t : TreeK) (hm : P.follows .mixedOrders = true)
    (hB : (Region.noSelect l.toArray && decide (t.size = l.toArray.size) && treeKB .any l.toArray k t (Array.replicate l.toArray.size false)) = true)
    (hQ : ∀ c a d v w, Q (.panic c) (a.put d v) w → Q (.panic c) a w) (hS : S w.drew) (h : wpTreeK P l.toArray S Q k t a w.drew) : (Code.region id l.toArray true).wp P Q a w := by
  simp only [Bool.and_eq_true, decide_eq_true_eq] at hB
  refine wp_region_any hm (any_of_K (S := S) (k := k) _ _ _ _ ?_)
  have := K_of_tree hB.1.1 hQ t _ a _ (fun _ => hS) hB.2 h
  rw [hB.1.2] at this
  exact this

theorem treek_q {l : List Oper} {i : Nat} {r : TreeK} {o : Oper} {a : Act} {w : World} (ho : l[i]? = some o) (hp : easyOp o = true) (h : wpQuiet P l.toArray (fun _ => True) (fun a' => wpTreeK P l.toArray S Q k r a' w) [o] a) :
    wpTreeK P l.toArray S Q k (.q i r) a w := by
  unfold wpTreeK
  rw [List.getElem?_toArray, ho]
  exact ⟨hp, h⟩

theorem treek_e {l ch : List _} {i : Nat} {r : TreeK} {o : Oper} {a : Act} {w : World} (ho : l[i]? = some o) (hp : easyOp o = true) (h : wpQuiet P l.toArray S (fun a' => wpTreeK P l.toArray S Q k r a' w) [o] a) :
    wpTreeK P l.toArray S Q k (.e i ch r) a w := by
  unfold wpTreeK
  rw [List.getElem?_toArray, ho]
  exact ⟨hp, h⟩

theorem treek_a {l : List Oper} {i : Nat} {r : TreeK} {o : Oper} {a : Act} {w : World} (ho : l[i]? = some o)
    (h : ∀ K : Act → World → Prop, (∀ a w, (i ≠ k → S w) ∧ wpTreeK P l.toArray S Q k r a w → K a w) → if Region.wanted o (yielded l.toArray a.tmps) = true then Oper.wp P o a w K Q else K (a.put o.dst undef) w) :
    wpTreeK P l.toArray S Q k (.a i r) a w := by
  unfold wpTreeK
  exact wpOp_step (by rw [List.getElem?_toArray, ho]) h

theorem treek_end {a : Act} {w : World} (h : Q .normal a w) : wpTreeK P ops S Q k .done a w := h
end

end Go.Proofs.Ytipgjookfdkciaa

/- Lists of lists that a call makes: what stays while one of them grows. No condition beyond those that each fact names. -/
namespace Go.Proofs.Ytipgjookfdkciaa
open Go.RowKit

theorem GroupAt.other {W : World} {gb c : Nat} {G : GP} (h : GroupAt W gb G) (hne : gb ≠ c) (i : Nat) (v : Value) : GroupAt (W.setCell ⟨c, i, none⟩ v) gb G := by
  have hc : ∀ o, (W.setCell ⟨c, i, none⟩ v).cell? ⟨gb, o, none⟩ = W.cell? ⟨gb, o, none⟩ := fun o => World.cell?_setCell_other _ _ _ _ (by intro e; exact hne (congrArg Addr.block e).symm)
  have hl : (W.setCell ⟨c, i, none⟩ v).heap.size = W.heap.size := by simp [World.setCell]
  exact ⟨by rw [hl]; exact h.lt, by rw [hc]; exact h.kind, by rw [hc]; exact h.size, ⟨by rw [hl]; exact h.p.lt, fun i x hx => by rw [hc]; exact h.p.cell i x hx⟩, ⟨by rw [hl]; exact h.q.lt, fun i x hx => by rw [hc]; exact h.q.cell i x hx⟩⟩

/-- All blocks of the world w0 but some are as they were. -/
structure Kept (P : Nat → Prop) (w0 w : World) : Prop where
  os : w.os = w0.os
  tape : w.tape = w0.tape
  output : w.output = w0.output
  size : w0.heap.size ≤ w.heap.size
  block : ∀ q, q < w0.heap.size → ¬ P q → w.heap[q]? = w0.heap[q]?
section
variable {P : Nat → Prop} {b c n gb : Nat} {w0 w w1 : World} {r : Option Nat} {t : TypeId} {cs : List Value} {G : GP}
theorem Kept.refl (P : Nat → Prop) (w : World) : Kept P w w := ⟨rfl, rfl, rfl, Nat.le_refl _, fun _ _ _ => rfl⟩
theorem Kept.grown (h : Kept P w0 w) (hg : w.grownBy w1 r) (hr : ∀ q, r = some q → w0.heap.size ≤ q ∨ P q) : Kept P w0 w1 :=
  ⟨hg.os.trans h.os, hg.tape.trans h.tape, hg.output.trans h.output, Nat.le_trans h.size hg.size, fun q hq hne => (hg.block q (Nat.lt_of_lt_of_le hq h.size) (fun e => by
    rcases hr q e.symm with h1 | h1
    · omega
    · exact hne h1)).trans (h.block q hq hne)⟩
theorem Kept.up (h : Kept P w0 w) (hb : Below w.heap.size w w1) : Kept P w0 w1 := h.grown (below_grown hb) (fun q e => by cases e)
theorem Kept.set (h : Kept P w0 w) (hp : P b) (i : Nat) (v : Value) : Kept P w0 (w.setCell ⟨b, i, none⟩ v) := h.grown (grown_set w b i v) (fun _ e => Or.inr ((Option.some.inj e) ▸ hp))
theorem Kept.other (h : Kept P w0 w) (hc : w0.heap.size ≤ c) (i : Nat) (v : Value) : Kept P w0 (w.setCell ⟨c, i, none⟩ v) := h.grown (grown_set w c i v) (fun _ e => Or.inl ((Option.some.inj e) ▸ hc))
theorem Kept.trans {w2 : World} (h : Kept P w0 w) (h1 : Kept P w w2) : Kept P w0 w2 :=
  ⟨h1.os.trans h.os, h1.tape.trans h.tape, h1.output.trans h.output, Nat.le_trans h.size h1.size, fun q hq hne => (h1.block q (Nat.lt_of_lt_of_le hq h.size) hne).trans (h.block q hq hne)⟩
theorem Sl.kept {a : Option Addr} (h : Sl w0 w0.heap.size a cs) (hk : Kept P w0 w) (hne : ∀ x, a = some x → ¬ P x.block) : Sl w w.heap.size a cs := by
  rcases h with h | ⟨q, off, rfl, hq, hc⟩
  · exact Or.inl h
  · refine Or.inr ⟨q, off, rfl, Nat.lt_of_lt_of_le hq hk.size, fun i v hv => ?_⟩
    rw [cell_of_block (hk.block q hq (hne _ rfl))]
    exact hc i v hv
theorem Bx.keptP (h : Bx w0 b t cs) (hk : Kept P w0 w) (hne : ¬ P b) : Bx w b t cs := (hk.block b h.lt hne).trans h
theorem GroupAt.keptP (h : GroupAt w0 gb G) (hk : Kept P w0 w) (hne : ¬ P gb) : GroupAt w gb G := by
  have hc := cell_of_block (hk.block gb h.lt hne)
  have hl := hk.size
  exact ⟨Nat.lt_of_lt_of_le h.lt hl, by rw [hc]; exact h.kind, by rw [hc]; exact h.size, ⟨Nat.lt_of_lt_of_le h.p.lt hl, fun i x hx => by rw [hc]; exact h.p.cell i x hx⟩, ⟨Nat.lt_of_lt_of_le h.q.lt hl, fun i x hx => by rw [hc]; exact h.q.cell i x hx⟩⟩
theorem Below.keptP {W : World} (h : Below n W w0) (hk : Kept P w0 w) (hn : n ≤ w0.heap.size) (hp : ∀ q, P q → n ≤ q) : Below n W w := by
  refine ⟨hk.os.trans h.os, hk.tape.trans h.tape, hk.output.trans h.output, Nat.le_trans h.size hk.size, fun q hq => ?_⟩
  rw [hk.block q (by omega) (fun e => by have := hp q e; omega)]
  exact h.block q hq
theorem Sl.lt {a : Option Addr} {B : Nat} (h : Sl w B a cs) (h0 : cs ≠ []) (x : Addr) (hx : a = some x) : x.block < B := by
  rcases h with h | ⟨q, off, rfl, hq, _⟩
  · exact absurd h h0
  · cases hx; exact hq
end

/-- 'out = append(out, x)': and the block it then lies in is the one of before, or a new one. -/
theorem wpList_pushF {P : Program} (N : Nat) (w0 : World) (hN : N ≤ w0.heap.size) {ops : Array Oper} {rest : List Oper} {o : Oper} {a : Act} {Q : Exit → Act → World → Prop} (hgd : o.guard = none) (s x : Operand) (t : TypeId)
    (ho : o.op = .call { callee := .builtin .append, args := #[s, x], argTypes := #[t, t] })
    (e : TypeId) (i : TypeInfo) (z : Value) (size bytes : Nat) (ht : P.underlying t = some (.slice e)) (hi : P.info? e = some i) (hz : i.zero = some z)
    (hsize : i.size = size) (hby : i.bytes = bytes) (hzs : z.cells.size = size) (hsz : 0 < size)
    (v : Value) (n : Nat) (xs : List Value) (hs : a.eval s = v) (hown : RowO N w0 e size v n xs)
    (news : Array Value) (e2 : TypeId) (b : Nat) (hb : w0.heap.size = b) (hx : a.eval x = .slice (some ⟨b, 0, none⟩) 1 1) (hl : news.size = size) (h1 : ∀ u ∈ news.toList, u.oneCell' = true)
    (h63 : (n + 1) * bytes ≤ 140737488355328) (hn : n + 1 ≤ maxLen)
    (h : ∀ g cap w', RowO N w' e size (.slice (some ⟨g, 0, none⟩) (n + 1) cap) (n + 1) (xs ++ news.toList) → w0.grownBy w' v.ownBlock → (v.ownBlock = some g ∨ w0.heap.size ≤ g) → wpList P ops Q rest (a.put o.dst (.slice (some ⟨g, 0, none⟩) (n + 1) cap)) w') :
    wpList P ops Q (o :: rest) a (w0.alloc (.cells news e2)) := by
  subst hb
  refine wpList_append_lies _ hgd s x t ho N e i z size bytes ht hi hz hsize hby hzs hsz v n xs hs (World.ownsRow.alloc hown _) ⟨w0.heap.size, 0, none⟩ 1 1 news.toList hx (by simpa using hl)
    (World.news_of_block (heap_alloc_new w0 _)) h1 (by omega) hn h63 (by simp; omega) _ rfl ?_
  intro g cap w' hown' hg hf _
  refine h g cap w' hown' ⟨hg.os, hg.tape, hg.output, ?_, ?_⟩ ?_
  · have := hg.size; simp at this; omega
  · intro k hk hne
    rw [hg.block k (by simp; omega) hne]
    exact Below.heap_alloc _ _ _ hk
  · rcases hf with h9 | h9
    · exact Or.inl h9
    · right; rw [h9]; simp

/-- The same at a step of a region that draws its order. -/
theorem step_pushF {P : Program} (N : Nat) (w0 : World) (hN : N ≤ w0.heap.size) {ops : Array Oper} {o : Oper} {a : Act} {K : Act → World → Prop} {Q : Exit → Act → World → Prop} {E : Prop} (hgd : o.guard = none) (s x : Operand) (t : TypeId)
    (ho : o.op = .call { callee := .builtin .append, args := #[s, x], argTypes := #[t, t] })
    (e : TypeId) (i : TypeInfo) (z : Value) (size bytes : Nat) (ht : P.underlying t = some (.slice e)) (hi : P.info? e = some i) (hz : i.zero = some z)
    (hsize : i.size = size) (hby : i.bytes = bytes) (hzs : z.cells.size = size) (hsz : 0 < size)
    (v : Value) (n : Nat) (xs : List Value) (hs : a.eval s = v) (hown : RowO N w0 e size v n xs)
    (news : Array Value) (e2 : TypeId) (b : Nat) (hb : w0.heap.size = b) (hx : a.eval x = .slice (some ⟨b, 0, none⟩) 1 1) (hl : news.size = size) (h1 : ∀ u ∈ news.toList, u.oneCell' = true)
    (h63 : (n + 1) * bytes ≤ 140737488355328) (hn : n + 1 ≤ maxLen)
    (h : ∀ g cap w', RowO N w' e size (.slice (some ⟨g, 0, none⟩) (n + 1) cap) (n + 1) (xs ++ news.toList) → w0.grownBy w' v.ownBlock → (v.ownBlock = some g ∨ w0.heap.size ≤ g) → K (a.put o.dst (.slice (some ⟨g, 0, none⟩) (n + 1) cap)) w') :
    if Region.wanted o (yielded ops a.tmps) = true then Oper.wp P o a (w0.alloc (.cells news e2)) K Q else E := by
  subst hb
  refine step_append_lies _ hgd s x t ho N e i z size bytes ht hi hz hsize hby hzs hsz v n xs hs (World.ownsRow.alloc hown _) ⟨w0.heap.size, 0, none⟩ 1 1 news.toList hx (by simpa using hl)
    (World.news_of_block (heap_alloc_new w0 _)) h1 (by omega) hn h63 (by simp; omega) _ rfl ?_
  intro g cap w' hown' hg hf _
  refine h g cap w' hown' ⟨hg.os, hg.tape, hg.output, ?_, ?_⟩ ?_
  · have := hg.size; simp at this; omega
  · intro k hk hne
    rw [hg.block k (by simp; omega) hne]
    exact Below.heap_alloc _ _ _ hk
  · rcases hf with h9 | h9
    · exact Or.inl h9
    · right; rw [h9]; simp

end Go.Proofs.Ytipgjookfdkciaa

/- Claims are read: read of the package sigma. Condition: the lists that memory can hold. -/
namespace Go.Proofs.Ytipgjookfdkciaa
open Go.RowKit

/-- A claim that was read: the claim, where it lies, and its numbers. -/
structure ClaimR where
  k : ClaimA
  pb : Nat
  po : Nat
  bb : Nat
  bo : Nat
  bc : Nat
  ib : Nat
  io : Nat
  ic : Nat
def ClaimR.cells (r : ClaimR) : List Value := [.pointer (some ⟨r.pb, r.po, none⟩), .slice (some ⟨r.bb, r.bo, none⟩) r.k.bases.length r.bc, .slice (some ⟨r.ib, r.io, none⟩) r.k.images.length r.ic]
theorem ClaimR.cells_len (r : ClaimR) : r.cells.length = 3 := rfl
structure ClaimR.At (G : GP) (w : World) (r : ClaimR) : Prop where
  b : Sl w w.heap.size (some ⟨r.bb, r.bo, none⟩) (r.k.bases.flatMap (limC G.p.m))
  i : Sl w w.heap.size (some ⟨r.ib, r.io, none⟩) (r.k.images.flatMap (limC G.p.m))
  bl : r.bb < w.heap.size
  il : r.ib < w.heap.size
structure ClaimR.Src (w : World) (r : ClaimR) : Prop where
  c : ∀ j v, r.k.cells[j]? = some v → w.cell? ⟨r.pb, r.po + j, none⟩ = some v
  l : r.pb < w.heap.size
  k : ClaimA.At w r.k
theorem ClaimR.At.up {G : GP} {w w' : World} {r : ClaimR} (h : r.At G w) (hb : Below w.heap.size w w') : r.At G w' := ⟨h.b.up hb, h.i.up hb, Nat.lt_of_lt_of_le h.bl hb.size, Nat.lt_of_lt_of_le h.il hb.size⟩
theorem ClaimR.At.keptP {G : GP} {P : Nat → Prop} {w w' : World} {r : ClaimR} (h : r.At G w) (hk : Kept P w w') (h1 : ¬ P r.bb) (h2 : ¬ P r.ib) : r.At G w' :=
  ⟨h.b.kept hk (fun x e => by cases e; exact h1), h.i.kept hk (fun x e => by cases e; exact h2), Nat.lt_of_lt_of_le h.bl hk.size, Nat.lt_of_lt_of_le h.il hk.size⟩
theorem ClaimR.Src.up {w w' : World} {r : ClaimR} (h : r.Src w) (hb : Below w.heap.size w w') : r.Src w' :=
  ⟨fun j v hv => by rw [hb.cell (p := ⟨r.pb, r.po + j, none⟩) h.l]; exact h.c j v hv, Nat.lt_of_lt_of_le h.l hb.size, h.k.up hb⟩
structure SetAt (G : GP) (w : World) (a : Option Addr) (rs : List ClaimR) : Prop where
  s : Sl w w.heap.size a (rs.flatMap ClaimR.cells)
  e : ∀ r ∈ rs, r.At G w
theorem SetAt.up {G : GP} {w w' : World} {a : Option Addr} {rs : List ClaimR} (h : SetAt G w a rs) (hb : Below w.heap.size w w') : SetAt G w' a rs := ⟨h.s.up hb, fun r hr => (h.e r hr).up hb⟩
def RsP (bl ol : Nat) (rs : List ClaimR) : Prop := ∀ i (h : i < rs.length), rs[i].pb = bl ∧ rs[i].po = ol + i * 2
/-- All of a set lies in blocks from n on. -/
structure SetNew (n : Nat) (a : Option Addr) (rs : List ClaimR) : Prop where
  a : ∀ x, a = some x → n ≤ x.block
  e : ∀ r ∈ rs, n ≤ r.bb ∧ n ≤ r.ib
theorem SetNew.mono {n m : Nat} {a : Option Addr} {rs : List ClaimR} (h : SetNew n a rs) (hm : m ≤ n) : SetNew m a rs := ⟨fun x hx => Nat.le_trans hm (h.a x hx), fun r hr => ⟨Nat.le_trans hm (h.e r hr).1, Nat.le_trans hm (h.e r hr).2⟩⟩
theorem SetAt.keptP {G : GP} {P : Nat → Prop} {n : Nat} {w w' : World} {a : Option Addr} {rs : List ClaimR} (h : SetAt G w a rs) (hk : Kept P w w') (hn : SetNew n a rs) (hp : ∀ q, P q → q < n) : SetAt G w' a rs :=
  ⟨h.s.kept hk (fun x hx e => by have := hn.a x hx; have := hp _ e; omega), fun r hr => (h.e r hr).keptP hk (fun e => by have := (hn.e r hr).1; have := hp _ e; omega) (fun e => by have := (hn.e r hr).2; have := hp _ e; omega)⟩
def set0 : Value := .agg #[.pointer none, .slice none 0 0]
def ReadSet (G : GP) (gb : Nat) (al : Option Addr) (l : List ClaimA) (w : World) (e : Ending) (w' : World) : Prop :=
  Below w.heap.size w w' ∧ if wrongE G l = 0 then ∃ rs a c, e = .returned (.tuple #[.agg #[.pointer (some ⟨gb, 0, none⟩), .slice a rs.length c], .int .i64 0]) ∧ rs.map ClaimR.k = l ∧ SetAt G w' a rs ∧ SetNew w.heap.size a rs ∧ (∃ bl ol, al = some ⟨bl, ol, none⟩ ∧ RsP bl ol rs) else e = .returned (.tuple #[set0, .int .i64 (wrongE G l : Int)])
theorem infoClaim : (Try.prog.info? 199).map (fun i => (i.zero, i.size, i.bytes)) = some (some (.agg #[.pointer none, .slice none 0 0, .slice none 0 0]), 3, 56) := by kernel_rfl
theorem cElems_eq (G : GP) (c : ClaimA) {b1 b2 : Bool} (h1 : c.bases.all (isEl G.q.m G.size) = b1) (h2 : c.images.all (isEl G.q.m G.size) = b2) : cElems G c = (b1 && b2) := by unfold cElems; rw [h1, h2]

theorem RowO.own_le {N n c k size : Nat} {w : World} {e : TypeId} {a : Option Addr} {xs : List Value} {x : Addr} (h : RowO N w e size (.slice a k c) n xs) (hx : a = some x) : N ≤ x.block := by
  rcases h.2 with ⟨hv, _⟩ | ⟨g, cap, cur, hv, hN, _⟩
  · simp only [Value.slice.injEq] at hv
    rw [hv.1] at hx
    cases hx
  · simp only [Value.slice.injEq] at hv
    rw [hv.1] at hx
    cases hx
    exact hN
/-- What a loop over the claims keeps of those that were read. -/
def RsOk (G : GP) (w : World) (v : Value) (B : Nat) (rs : List ClaimR) : Prop := ∀ r ∈ rs, r.At G w ∧ v.ownBlock ≠ some r.bb ∧ v.ownBlock ≠ some r.ib ∧ B ≤ r.bb ∧ B ≤ r.ib
theorem RsOk.snoc {G : GP} {w0 wn w w' : World} {v : Value} {g n c B bs : Nat} {rs : List ClaimR} {r : ClaimR} (h : RsOk G w0 v B rs) (hk : Kept (fun q => q = bs ∨ v.ownBlock = some q) w0 w') (hB : bs < B)
    (hr : r.At G wn) (hk2 : Kept (fun q => q = bs ∨ v.ownBlock = some q) wn w') (h1 : B ≤ r.bb) (h2 : B ≤ r.ib) (h3 : v.ownBlock ≠ some r.bb) (h4 : v.ownBlock ≠ some r.ib)
    (hf : v.ownBlock = some g ∨ w.heap.size ≤ g) (hw0 : w0.heap.size ≤ w.heap.size) (hwn : wn.heap.size ≤ w.heap.size) : RsOk G w' (.slice (some ⟨g, 0, none⟩) n c) B (rs ++ [r]) := by
  have key : ∀ (x : World) (s : ClaimR), s.At G x → x.heap.size ≤ w.heap.size → Kept (fun q => q = bs ∨ v.ownBlock = some q) x w' → v.ownBlock ≠ some s.bb → v.ownBlock ≠ some s.ib → B ≤ s.bb → B ≤ s.ib → s.At G w' ∧ (Value.slice (some ⟨g, 0, none⟩) n c).ownBlock ≠ some s.bb ∧ (Value.slice (some ⟨g, 0, none⟩) n c).ownBlock ≠ some s.ib ∧ B ≤ s.bb ∧ B ≤ s.ib := by
    intro x s a1 a2 a3 a4 a5 a6 a7
    refine ⟨a1.keptP a3 (fun e => e.elim (fun e => by omega) (fun e => a4 e)) (fun e => e.elim (fun e => by omega) (fun e => a5 e)), fun e => ?_, fun e => ?_, a6, a7⟩
    · have e : g = s.bb := Option.some.inj e
      rcases hf with hf | hf
      · exact a4 (by rw [hf, e])
      · have := a1.bl; omega
    · have e : g = s.ib := Option.some.inj e
      rcases hf with hf | hf
      · exact a5 (by rw [hf, e])
      · have := a1.il; omega
  intro s hs
  rcases List.mem_append.1 hs with hs | hs
  · obtain ⟨b1, b2, b3, b4, b5⟩ := h s hs
    exact key w0 s b1 hw0 hk b2 b3 b4 b5
  · obtain rfl := List.mem_singleton.1 hs
    exact key wn s hr hwn hk2 h3 h4 h1 h2

theorem RsP.snoc {bl ol j : Nat} {rs : List ClaimR} {r : ClaimR} (h : RsP bl ol rs) (hl : rs.length = j) (h1 : r.pb = bl) (h2 : r.po = ol + j * 2) : RsP bl ol (rs ++ [r]) := by
  intro i hi
  by_cases h9 : i < rs.length
  · rw [List.getElem_append_left h9]; exact h i h9
  · have : i = rs.length := by simp at hi; omega
    subst this
    rw [List.getElem_append_right (Nat.le_refl _)]
    simp only [Nat.sub_self, List.getElem_singleton]
    exact ⟨h1, by rw [h2, hl]⟩
theorem src_all {rs : List ClaimR} {l : List ClaimA} {bl ol : Nat} {w : World} (hk : rs.map ClaimR.k = l) (hp : RsP bl ol rs) (hC : ClaimsAt w (some ⟨bl, ol, none⟩) l) : ∀ r ∈ rs, r.Src w := by
  subst hk
  intro r hr
  obtain ⟨i, hi, rfl⟩ := List.getElem_of_mem hr
  obtain ⟨h1, h2⟩ := hp i hi
  obtain ⟨h3, h4⟩ := hC.s.elemS ClaimA.cells_len (by omega) i (by simpa using hi)
  rw [List.getElem_map] at h4
  exact ⟨fun j v hv => by rw [h1, h2]; exact h4 j v hv, by rw [h1]; exact h3, hC.e _ (List.mem_map.2 ⟨_, List.getElem_mem hi, rfl⟩)⟩
theorem wrong_elems {G : GP} {l : List ClaimA} (hz : shapeE l = 0) : (l.all (cElems G) = true → wrongE G l = 0) ∧ (l.all (cElems G) = false → wrongE G l = 7) := by
  unfold wrongE
  rw [if_neg (by rw [hz]; decide)]
  exact ⟨fun h => if_pos h, fun h => if_neg (by rw [h]; decide)⟩

set_option maxRecDepth 100000 in
set_option maxHeartbeats 2000000 in
theorem read_shape (gb : Nat) (l : List ClaimA) (z : Nat) (hz : shapeE l = z) (h0 : z ≠ 0) (al : Option Addr) (cl : Nat) (w : World) (hS : Sl w w.heap.size al (l.flatMap ClaimA.cells)) :
    Calls Try.prog 154 #[.pointer (some ⟨gb, 0, none⟩), .slice al l.length cl] w (Gives (.tuple #[set0, .int .i64 (z : Int)]) w) := by
  have hsh := shape_any l al cl w hS
  rw [hz] at hsh
  have hb : ∀ w1, Below w.heap.size w w1 → Calls Try.prog 184 #[.slice al l.length cl] w1 (Gives (.int .i64 (z : Int)) w1) := fun w1 h1 => by
    have h2 := shape_any l al cl w1 (hS.up h1)
    rwa [hz] at h2
  have HSH := Lib.hid hb
  have hd : ((z : Int) != 0) = true := by simp; omega
  clear hb hsh hz hS h0
  unfold Gives set0
  go_enter Try.func154, Try.ntmps154
  go_wp2_with fail
  obtain ⟨w1, hq1, hb9, hz9, Hbr⟩ := new1 w 157 [.pointer none, .slice none 0 0]
  rw [hq1]
  clear hq1
  have HB := Lib.hid hb9
  have HZS := hz9
  clear hb9 hz9
  have br_ := Hbr.out.c2
  go_wp2_with fail
  refine (HSH.out _ HB.out).mono ?_
  rintro e w2 ⟨rfl, hb9⟩
  clear br_
  replace Hbr := Lib.hid (Hbr.out.up hb9)
  replace HB := hbu HB hb9
  replace HZS := sz HZS hb9.size
  clear hb9
  have br_ := Hbr.out.c2
  have f3_br := Hbr.out.frozen
  have o3_br_ := br_; clear br_
  obtain ⟨w3, hq3, hg9, hz9, hx9⟩ := put2 Hbr 0 (.pointer none) 1 (.slice none 0 0) [.pointer none, .slice none 0 0] rfl
  replace HB := hbg HB hg9 (by have g0 := HZS.out; omega)
  replace HZS := sz HZS hz9.out
  replace Hbr := hx9
  clear hx9 hg9 hz9
  have br_ := Hbr.out.c2
  go_wp2_with fail
  clear hq3 o3_br_ f3_br
  simp [bodyPost, results, Try.results154, go_sem, br_]
  exact HB.out

set_option maxRecDepth 100000 in
set_option maxHeartbeats 4000000 in
theorem read_body (G : GP) (ok : G.Ok) (gb : Nat) (l : List ClaimA) (hz : shapeE l = 0) (bl ol cl : Nat) (w : World) (hG : GroupAt w gb G) (hC : ClaimsAt w (some ⟨bl, ol, none⟩) l) :
    Calls Try.prog 154 #[.pointer (some ⟨gb, 0, none⟩), .slice (some ⟨bl, ol, none⟩) l.length cl] w (ReadSet G gb (some ⟨bl, ol, none⟩) l w) := by
  have hb : ∀ w1, Below w.heap.size w w1 → Calls Try.prog 184 #[.slice (some ⟨bl, ol, none⟩) l.length cl] w1 (Gives (.int .i64 0) w1) := fun w1 h1 => by
    have h2 := shape_any l _ cl w1 (hC.s.up h1)
    rwa [hz] at h2
  have HSH := Lib.hid hb
  obtain ⟨hl0, hl64, hlc⟩ := shape_ok hz
  have HZ := Lib.hid hz
  have HLC := Lib.hid hlc
  have HC := Lib.hid hC
  have HG := Lib.hid hG
  have OK := Lib.hid ok
  have HGB := Lib.hid hG.lt
  have HBLK := Lib.hid (hC.s.elemS ClaimA.cells_len (by omega) 0 hl0).1
  clear hb hz hlc hC hG ok
  go_enter Try.func154, Try.ntmps154
  go_wp2_with fail
  have HZS := HGB
  replace HZS := sz HZS HBLK.out
  obtain ⟨w1, hq1, hb9, hz9, Hbr⟩ := new1 w 157 [.pointer none, .slice none 0 0]
  rw [hq1]
  clear hq1
  replace HG := Lib.hid (HG.out.up hb9)
  have HB := Lib.hid hb9
  replace HZS := sz HZS hz9.out
  clear hb9 hz9
  have br_ := Hbr.out.c2
  go_wp2_with fail
  refine (HSH.out _ HB.out).mono ?_
  rintro e w2 ⟨rfl, hb9⟩
  clear br_
  replace Hbr := Lib.hid (Hbr.out.up hb9)
  replace HG := Lib.hid (HG.out.up hb9)
  replace HB := hbu HB hb9
  replace HZS := sz HZS hb9.size
  clear hb9
  have br_ := Hbr.out.c2
  have o3_br_ := br_; clear br_
  obtain ⟨w3, hq3, hb9, hz9, Hbs⟩ := new1 w2 157 [.pointer (some ⟨gb, 0, none⟩), .slice none 0 0]
  replace Hbr := Lib.hid (Hbr.out.up hb9)
  replace HG := Lib.hid (HG.out.up hb9)
  replace HB := hbu HB hb9
  replace HZS := sz HZS hz9.out
  clear hb9 hz9
  have br_ := Hbr.out.c2
  have bs_ := Hbs.out.c2
  have f4_bs := Hbs.out.frozen
  have o4_br_ := br_; clear br_
  have o4_bs_ := bs_; clear bs_
  obtain ⟨w4, hq4, hg9, hz9, hx9⟩ := put1 Hbs 1 (.slice none 0 0) [.pointer (some ⟨gb, 0, none⟩), .slice none 0 0] rfl
  replace Hbr := Lib.hid (Hbr.out.grown hg9.out (sne (by have g0 := HZS.out; omega)))
  replace HG := Lib.hid (HG.out.grown hg9.out (sne (by have g0 := HZS.out; omega)))
  replace HB := hbg HB hg9 (by have g0 := HZS.out; omega)
  replace HZS := sz HZS hz9.out
  replace Hbs := hx9
  clear hx9 hg9 hz9
  have br_ := Hbr.out.c2
  have bs_ := Hbs.out.c2
  have HK := Lib.hid (Kept.refl (fun q9 => q9 = w2.heap.size) w4)
  go_wp2_with fail
  clear hq4 o4_bs_ o4_br_ f4_bs hq3 o3_br_
  go_loopw [23] (fun i wr => ∃ (j : Nat) (rs : List ClaimR) (g : Option Addr) (c9 : Nat), j ≤ l.length ∧ i = .int .i64 j ∧ Hid (rs.length = j) ∧ Hid (rs.map ClaimR.k = l.take j) ∧ Hid (Kept (fun q => q = w2.heap.size) w4 wr) ∧ Hid (Bx wr w2.heap.size 157 [.pointer (some ⟨gb, 0, none⟩), .slice g j c9]) ∧ Hid (RowO w4.heap.size wr 199 3 (.slice g j c9) j (rs.flatMap ClaimR.cells)) ∧ Hid (RsOk G wr (.slice g j c9) w4.heap.size rs) ∧ Hid (RsP bl ol rs) ∧ Hid ((l.take j).all (cElems G) = true)) (fun i _ => l.length - (intOf i).toNat)
  case atStart => exact ⟨0, [], none, 0, Nat.zero_le _, rfl, rfl, rfl, HK, Hbs, RowO.nil, Lib.hid (show RsOk G _ _ _ [] from fun _ h => absurd h (by simp)), Lib.hid (show RsP bl ol [] from fun _ h => absurd h (by simp)), rfl⟩
  case round =>
    obtain ⟨j, rs, g, c9, hj, rfl, HRL, HRK, HK, Hbs9, Hr, HRS, HRP, HAL⟩ := hrel
    have hg9 := HK.out
    clear br_
    clear bs_
    clear Hbs
    replace Hbr := Lib.hid (Hbr.out.keptP hg9 (show ¬ (_ = w2.heap.size) by have g0 := HZS.out; omega))
    replace HG := Lib.hid (HG.out.keptP hg9 (show ¬ (_ = w2.heap.size) by have g0 := HZS.out; omega))
    replace HB := Lib.hid (Below.keptP HB.out hg9 (by have g0 := HZS.out; omega) (fun q9 h9 => (show w.heap.size ≤ _ by subst h9; have g0 := HZS.out; omega)))
    replace HZS := sz HZS (show w4.heap.size ≤ wr.heap.size from hg9.size)
    clear hg9
    have br_ := Hbr.out.c2
    have Hbs := Hbs9
    clear Hbs9
    have bs_ := Hbs.out.c2
    by_cases hjl : j < l.length
    · have HCC := Lib.hid (fun W (hb : Below w.heap.size w W) => ((HC.out.s.up hb).elemS ClaimA.cells_len (by omega) j hjl).2)
      have HKA := Lib.hid (HC.out.one j hjl)
      have HSHP := Lib.hid (HLC.out l[j] (List.getElem_mem hjl))
      have HTK := Lib.hid (List.take_succ_eq_append_getElem hjl)
      have HALS := Lib.hid (fun h => all_snoc (f := cElems G) hjl HAL.out h)
      have HALN := Lib.hid (fun h => all_not (f := cElems G) hjl h)
      generalize l[j] = c at *
      obtain ⟨b1, hb1⟩ : ∃ b, c.bases.all (isEl G.q.m G.size) = b := ⟨_, rfl⟩
      obtain ⟨b2, hb2⟩ : ∃ b, c.images.all (isEl G.q.m G.size) = b := ⟨_, rfl⟩
      have HB1 := Lib.hid hb1
      have HB2 := Lib.hid hb2
      have HCE := Lib.hid (cElems_eq G c hb1 hb2)
      clear hb1 hb2
      have hn8 := HSHP.out.2.1
      have hni := HSHP.out.2.2
      have HNI := Lib.hid hni
      clear hni
      have HRLT := Lib.hid (fun q (e : (Value.slice g j c9).ownBlock = some q) => (Hr.out.lt q e).2)
      have HSB := Lib.hid (show w2.heap.size < w4.heap.size from (by have a1 := HZS.out; have a2 := HZS.out; omega))
      have HK2 := Lib.hid (Kept.refl (fun q9 => q9 = w2.heap.size ∨ Value.ownBlock (.slice g j c9) = some q9) wr)
      have hc := HCC.out _ HB.out
      have hc_0 := hc 0 _ rfl
      rw [Nat.add_zero] at hc_0
      have hc_1 := hc 1 _ rfl
      clear hc
      go_wp2_with fail
      clear hc_0 hc_1
      refine (allEl_v G OK.out gb c.bases b1 HB1.out c.bases.length rfl c.ab c.cb (by omega) wr HG.out (HKA.out.b.up HB.out)).mono ?_
      rintro e w5 ⟨vx, rfl, hb9, hx9⟩
      clear br_
      replace Hbr := Lib.hid (Hbr.out.up hb9)
      clear bs_
      replace Hbs := Lib.hid (Hbs.out.up hb9)
      replace HG := Lib.hid (HG.out.up hb9)
      replace Hr := Lib.hid (Hr.out.up hb9)
      replace HK := Lib.hid (Kept.up HK.out hb9)
      replace HK2 := Lib.hid (Kept.up HK2.out hb9)
      replace HB := hbu HB hb9
      replace HZS := sz HZS hb9.size
      have HX := Lib.hid hx9
      clear hx9
      clear hb9
      have br_ := Hbr.out.c2
      have bs_ := Hbs.out.c2
      have BR1 := Lib.hid (Below.refl w5.heap.size w5)
      have hc := HCC.out _ HB.out
      have hc_0 := hc 0 _ rfl
      rw [Nat.add_zero] at hc_0
      have hc_1 := hc 1 _ rfl
      clear hc
      go_wp2_with fail
      clear hc_0 hc_1
      refine (allEl_v G OK.out gb c.images b2 HB2.out c.images.length rfl c.ai c.ci (by rw [HNI.out]; omega) w5 HG.out (HKA.out.i.up HB.out)).mono ?_
      rintro e w6 ⟨vy, rfl, hb9, hy9⟩
      clear br_
      replace Hbr := Lib.hid (Hbr.out.up hb9)
      clear bs_
      replace Hbs := Lib.hid (Hbs.out.up hb9)
      replace HG := Lib.hid (HG.out.up hb9)
      replace Hr := Lib.hid (Hr.out.up hb9)
      replace BR1 := hbu BR1 hb9
      replace HK := Lib.hid (Kept.up HK.out hb9)
      replace HK2 := Lib.hid (Kept.up HK2.out hb9)
      replace HB := hbu HB hb9
      replace HZS := sz HZS hb9.size
      have HY := Lib.hid hy9
      clear hy9
      clear hb9
      have br_ := Hbr.out.c2
      have bs_ := Hbs.out.c2
      have HK4 := Lib.hid (Kept.refl (fun q9 => q9 = w2.heap.size ∨ Value.ownBlock (.slice g j c9) = some q9) w6)
      obtain ⟨bb, hbb⟩ : ∃ b, (b1 && b2) = b := ⟨_, rfl⟩
      cases b1
      case false =>
        have hw7 := (wrong_elems (G := G) HZ.out).2 (HALN.out HCE.out)
        have f7_br := Hbr.out.frozen
        have o7_br_ := br_; clear br_
        have o7_bs_ := bs_; clear bs_
        obtain ⟨w7, hq7, hg9, hz9, hx9⟩ := put2 Hbr 0 (.pointer none) 1 (.slice none 0 0) [.pointer none, .slice none 0 0] rfl
        replace Hbs := Lib.hid (Hbs.out.grown hg9.out (sne (by have g0 := HZS.out; omega)))
        replace HG := Lib.hid (HG.out.grown hg9.out (sne (by have g0 := HZS.out; omega)))
        replace HB := hbg HB hg9 (by have g0 := HZS.out; omega)
        replace HZS := sz HZS hz9.out
        replace Hbr := hx9
        clear hx9 hg9 hz9
        have br_ := Hbr.out.c2
        have bs_ := Hbs.out.c2
        go_wp2_with fail
        clear hq7 o7_bs_ o7_br_ f7_br
        simp [bodyPost, results, Try.results154, go_sem, br_]
        exact ⟨HB.out, by rw [if_neg (by rw [hw7]; decide), hw7]; rfl⟩
      cases b2
      case false =>
        have hw7 := (wrong_elems (G := G) HZ.out).2 (HALN.out HCE.out)
        have f7_br := Hbr.out.frozen
        have o7_br_ := br_; clear br_
        have o7_bs_ := bs_; clear bs_
        obtain ⟨w7, hq7, hg9, hz9, hx9⟩ := put2 Hbr 0 (.pointer none) 1 (.slice none 0 0) [.pointer none, .slice none 0 0] rfl
        replace Hbs := Lib.hid (Hbs.out.grown hg9.out (sne (by have g0 := HZS.out; omega)))
        replace HG := Lib.hid (HG.out.grown hg9.out (sne (by have g0 := HZS.out; omega)))
        replace HB := hbg HB hg9 (by have g0 := HZS.out; omega)
        replace HZS := sz HZS hz9.out
        replace Hbr := hx9
        clear hx9 hg9 hz9
        have br_ := Hbr.out.c2
        have bs_ := Hbs.out.c2
        go_wp2_with fail
        clear hq7 o7_bs_ o7_br_ f7_br
        simp [bodyPost, results, Try.results154, go_sem, br_]
        exact ⟨HB.out, by rw [if_neg (by rw [hw7]; decide), hw7]; rfl⟩
      clear hbb bb
      obtain ⟨ax, cx, rfl, hsx, hfx⟩ := HX.out rfl
      obtain ⟨ay, cy, rfl, hsy, hfy⟩ := HY.out rfl
      obtain ⟨xb, xo, rfl, hxl⟩ := hsx.adr (flat_ne (limC_len _) (by omega) (List.length_pos_iff.1 HSHP.out.1))
      obtain ⟨yb, yo, rfl, hyl⟩ := hsy.adr (flat_ne (limC_len _) (by omega) (List.length_pos_iff.1 (by rw [HNI.out]; exact HSHP.out.1)))
      have HAN := Lib.hid (show ClaimR.At G w6 ⟨c, bl, ol + j * 2, xb, xo, cx, yb, yo, cy⟩ from ⟨hsx.up BR1.out, hsy, Nat.lt_of_lt_of_le hxl BR1.out.size, hyl⟩)
      have HFX := Lib.hid (hfx _ rfl)
      have HFY := Lib.hid (hfy _ rfl)
      clear hsx hsy hfx hfy hxl hyl HX HY
      go_wp2_with fail
      have HT := Lib.hid (show Below w6.heap.size w6 w6.drew from (Below.refl _ _).drew)
      have hl_br := Hbr.out.lt
      have hl_bs := Hbs.out.lt
      refine wp_region_treek (fun wq9 => ∃ E : But w6 (Value.ownBlock (.slice g j c9)), wq9 = E.w) 11 ((.qs [0] (.e 1 [] (.qs [2, 3, 4, 5, 6, 7] (.a 8 (.a 9 (.qs [10] (.a 11 .done)))))))) (by kernel_rfl) (by kernel_rfl) (fun _ _ d _ _ h => by cases d <;> exact h) ⟨⟨_, ((below_grown HT.out).but _)⟩, rfl⟩ ?_
      have hov_br := fun (E : But w6 (Value.ownBlock (.slice g j c9))) o => E.cell (b := w.heap.size) o hl_br (by intro e9; have a1 := Hr.out.lt _ e9; have g0 := HZS.out; omega)
      have hov_bs := fun (E : But w6 (Value.ownBlock (.slice g j c9))) o => E.cell (b := w2.heap.size) o hl_bs (by intro e9; have a1 := Hr.out.lt _ e9; have g0 := HZS.out; omega)
      simp only [TreeK.qs]
      repeat (first | (refine treek_q rfl rfl ?_; go_big_quiet_step (fail); refine wpQuiet_nil ?_) | (refine treek_e rfl rfl ?_; go_big_quiet_step (fail); refine wpQuiet_nil ?_))
      clear hov_br hl_br hov_bs hl_bs
      refine treek_a rfl (fun K hK => ?_)
      go_simp
      refine hK _ _ ⟨fun _ => ⟨⟨_, (below_grown (HT.out.alloc HT.out.size _)).but _⟩, rfl⟩, ?_⟩
      clear hK K
      obtain ⟨i9, hi9, hz90, hz91, hz92⟩ := info_parts infoClaim
      have HG1 := Lib.hid ((below_grown HT.out).but (Value.ownBlock (.slice g j c9)))
      clear br_
      replace Hbr := Lib.hid (Hbr.out.up HT.out)
      clear bs_
      replace Hbs := Lib.hid (Hbs.out.up HT.out)
      replace HG := Lib.hid (HG.out.up HT.out)
      replace Hr := Lib.hid (Hr.out.up HT.out)
      replace HK := Lib.hid (Kept.up HK.out HT.out)
      replace HK2 := Lib.hid (Kept.up HK2.out HT.out)
      replace HK4 := Lib.hid (Kept.up HK4.out HT.out)
      replace HB := hbu HB HT.out
      replace HZS := sz HZS HT.out.size
      refine treek_a rfl (fun K hK => ?_)
      refine step_pushF (w4.heap.size) w6.drew (by have g0 := HZS.out; omega) rfl _ _ 155 rfl 199 i9 _ 3 56 Try.underlying155 hi9 hz90 hz91 hz92 rfl (by omega) ((.slice g j c9)) (j) ((rs.flatMap ClaimR.cells)) rfl Hr.out _ _ _ rfl rfl rfl (by simp [Value.oneCell']) (by omega) (by unfold maxLen; omega) ?_
      intro g7 c7 w7 hown9 hg9 hf9
      have HF9 := Lib.hid hf9
      clear hf9
      have HGR := Lib.hid (HG1.out.trans hg9)
      have hb9 := Below.grown HB.out hg9 (by have g0 := HZS.out; omega) (fun q hq => Nat.le_trans (show w.heap.size ≤ w4.heap.size by have g0 := HZS.out; omega) (Hr.out.lt q hq).1)
      replace Hbr := Lib.hid (Hbr.out.grown hg9 (fun e9 => by have a1 := Hr.out.lt _ e9; have g0 := HZS.out; omega))
      replace Hbs := Lib.hid (Hbs.out.grown hg9 (fun e9 => by have a1 := Hr.out.lt _ e9; have g0 := HZS.out; omega))
      replace HG := Lib.hid (HG.out.grown hg9 (fun e9 => by have a1 := Hr.out.lt _ e9; have g0 := HZS.out; omega))
      replace HK := Lib.hid (Kept.grown HK.out hg9 (fun q hq => Or.inl (Nat.le_trans (show w4.heap.size ≤ w4.heap.size by have g0 := HZS.out; omega) (Hr.out.lt q hq).1)))
      replace HK2 := Lib.hid (Kept.grown HK2.out hg9 (fun q hq => Or.inr (Or.inr hq)))
      replace HK4 := Lib.hid (Kept.grown HK4.out hg9 (fun q hq => Or.inr (Or.inr hq)))
      replace HZS := sz HZS hg9.size
      clear Hr HB HT HG1
      have Hr := Lib.hid hown9
      have HB := Lib.hid hb9
      clear hb9 hown9 hg9 hi9 hz90 hz91 hz92
      refine hK _ _ ⟨fun _ => ⟨⟨w7, HGR.out⟩, rfl⟩, ?_⟩
      clear hK K HGR
      try simp only [Act.put, List.setIfInBounds_toArray, List.set_cons_succ, List.set_cons_zero]
      repeat (first | (refine treek_q rfl rfl ?_; go_big_quiet_step (fail); refine wpQuiet_nil ?_) | (refine treek_e rfl rfl ?_; go_big_quiet_step (fail); refine wpQuiet_nil ?_))
      replace HZS := sz HZS (Hr.out.lt g7 rfl).1
      have br_ := Hbr.out.c2
      have bs_ := Hbs.out.c2
      have f8_bs := Hbs.out.frozen
      have o8_br_ := br_; clear br_
      have o8_bs_ := bs_; clear bs_
      obtain ⟨w8, hq8, hg9, hz9, hx9⟩ := put1 Hbs 1 (.slice (some ⟨g7, 0, none⟩) ((j + 1)) c7) [.pointer (some ⟨gb, 0, none⟩), .slice (some ⟨g7, 0, none⟩) ((j + 1)) c7] rfl
      replace Hbr := Lib.hid (Hbr.out.grown hg9.out (sne (by have g0 := HZS.out; omega)))
      replace HG := Lib.hid (HG.out.grown hg9.out (sne (by have g0 := HZS.out; omega)))
      replace Hr := Lib.hid (RowO.grown Hr.out hg9.out (fun q9 e8 e9 => by have a1 := Hr.out.lt _ e8; have a0 := Option.some.inj e9; have g0 := HZS.out; omega))
      replace HK := Lib.hid (Kept.grown HK.out hg9.out (fun q9 e9 => by obtain rfl := Option.some.inj e9; exact Or.inr (rfl)))
      replace HK2 := Lib.hid (Kept.grown HK2.out hg9.out (fun q9 e9 => by obtain rfl := Option.some.inj e9; exact Or.inr (Or.inl rfl)))
      replace HK4 := Lib.hid (Kept.grown HK4.out hg9.out (fun q9 e9 => by obtain rfl := Option.some.inj e9; exact Or.inr (Or.inl rfl)))
      replace HB := hbg HB hg9 (by have g0 := HZS.out; omega)
      replace HZS := sz HZS hz9.out
      replace Hbs := hx9
      clear hx9 hg9 hz9
      have br_ := Hbr.out.c2
      have bs_ := Hbs.out.c2
      refine treek_a rfl (fun K hK => ?_)
      go_simp
      try rw [hq8]
      refine hK _ _ ⟨fun h9 => absurd rfl h9, ?_⟩
      clear hK K
      clear hq8 o8_bs_ o8_br_ f8_bs
      refine treek_end ?_
      go_wp2_with fail
      go_roundw
      case rel => exact ⟨j + 1, rs ++ [⟨c, bl, ol + j * 2, xb, xo, cx, yb, yo, cy⟩], _, _, by omega, by go_num, Lib.hid (by rw [List.length_append, HRL.out]; rfl), Lib.hid (by rw [List.map_append, HRK.out, HTK.out]; rfl), HK, Hbs, Hr.out.eq (by simp [ClaimR.cells]) rfl, Lib.hid (HRS.out.snoc HK2.out HSB.out HAN.out HK4.out (show _ ≤ xb by have a1 := HZS.out; have a2 := HFX.out; omega) (show _ ≤ yb by have a1 := HZS.out; have a2 := HZS.out; have a3 := HFY.out; omega) (fun e => by have a1 := HRLT.out xb e; have a2 := HFX.out; omega) (fun e => by have a1 := HRLT.out yb e; have a2 := HZS.out; have a3 := HFY.out; omega) HF9.out (by have a1 := HZS.out; have a2 := HZS.out; have a3 := HZS.out; omega) (by have a1 := HZS.out; omega)), HRP.out.snoc HRL.out rfl rfl, HALS.out HCE.out⟩
      case measure => simp [intOf]; omega
    · have hjn : j = l.length := by omega
      subst hjn
      rw [List.take_length] at HRK HAL
      have HKB := Lib.hid (Kept.refl (fun q9 => q9 = w.heap.size) wr)
      have HBS := Lib.hid (show w.heap.size < w4.heap.size from (by have a0 := HZS.out; have a1 := HZS.out; have a2 := HZS.out; have a3 := HZS.out; omega))
      have f5_br := Hbr.out.frozen
      have o5_br_ := br_; clear br_
      have o5_bs_ := bs_; clear bs_
      obtain ⟨w5, hq5, hg9, hz9, hx9⟩ := put2 Hbr 0 (.pointer (some ⟨gb, 0, none⟩)) 1 (.slice g l.length c9) [.pointer (some ⟨gb, 0, none⟩), .slice g l.length c9] rfl
      replace Hbs := Lib.hid (Hbs.out.grown hg9.out (sne (by have g0 := HZS.out; omega)))
      replace HG := Lib.hid (HG.out.grown hg9.out (sne (by have g0 := HZS.out; omega)))
      replace Hr := Lib.hid (RowO.grown Hr.out hg9.out (fun q9 e8 e9 => by have a1 := Hr.out.lt _ e8; have a0 := Option.some.inj e9; have g0 := HZS.out; omega))
      replace HKB := Lib.hid (Kept.grown HKB.out hg9.out (fun q9 e9 => by obtain rfl := Option.some.inj e9; exact Or.inr (rfl)))
      replace HB := hbg HB hg9 (by have g0 := HZS.out; omega)
      replace HZS := sz HZS hz9.out
      replace Hbr := hx9
      clear hx9 hg9 hz9
      have br_ := Hbr.out.c2
      have bs_ := Hbs.out.c2
      go_wp2_with fail
      clear hq5 o5_bs_ o5_br_ f5_br
      simp [bodyPost, results, Try.results154, go_sem, br_]
      exact ⟨HB.out, by rw [if_pos ((wrong_elems HZ.out).1 HAL.out)]; exact ⟨rs, g, c9, by rw [HRL.out], HRK.out, ⟨Hr.out.sl, fun r hr => by obtain ⟨b1, _, _, b4, b5⟩ := HRS.out r hr; have a0 := HBS.out; exact b1.keptP HKB.out (show ¬ (r.bb = w.heap.size) by omega) (show ¬ (r.ib = w.heap.size) by omega)⟩, ⟨fun x hx => by have a0 := HBS.out; have a1 := RowO.own_le Hr.out hx; omega, fun r hr => by obtain ⟨_, _, _, b4, b5⟩ := HRS.out r hr; have a0 := HBS.out; omega⟩, ⟨bl, ol, rfl, HRP.out⟩⟩⟩

theorem sread_any (G : GP) (ok : G.Ok) (gb : Nat) (l : List ClaimA) (al : Option Addr) (cl : Nat) (w : World) (hG : GroupAt w gb G) (hC : ClaimsAt w al l) :
    Calls Try.prog 154 #[.pointer (some ⟨gb, 0, none⟩), .slice al l.length cl] w (ReadSet G gb al l w) := by
  by_cases hz : shapeE l = 0
  · obtain ⟨bl, ol, rfl, _⟩ := hC.s.adr (flat_ne ClaimA.cells_len (by omega) (List.length_pos_iff.1 (shape_ok hz).1))
    exact read_body G ok gb l hz bl ol cl w hG hC
  · refine (read_shape gb l _ rfl hz al cl w hC.s).mono ?_
    rintro e w' ⟨rfl, hb⟩
    have h9 : wrongE G l = shapeE l := by unfold wrongE; rw [if_pos hz]
    exact ⟨hb, by rw [h9, if_neg hz]⟩

end Go.Proofs.Ytipgjookfdkciaa

/- The least power of the base that a number is: small steps, then great ones. No condition. -/
namespace Go.Proofs.Ytipgjookfdkciaa

/-- The least n up to most with which 2 to the n is x. -/
def logF (q p x most : Nat) : Option Nat := (List.range (most + 1)).find? (fun n => decide (Lw q p (2 ^ n) = x))

/-- The least small step whose text is s. -/
def smallF (G : GP) (i : Nat) (s : ByteArray) : Option Nat := (List.range i).find? (fun j => decide (T G (Lw G.q.m G.p.m (2 ^ j)) = s))

theorem smallF_zero (G : GP) (s : ByteArray) : smallF G 0 s = none := rfl
theorem smallF_succ (G : GP) (i : Nat) (s : ByteArray) : smallF G (i + 1) s = (smallF G i s).or (if T G (Lw G.q.m G.p.m (2 ^ i)) = s then some i else none) := by
  unfold smallF
  rw [List.range_succ, List.find?_append]
  congr 1
  by_cases h : T G (Lw G.q.m G.p.m (2 ^ i)) = s <;> simp [h]

theorem find_range_some {f : Nat → Bool} {n i : Nat} (h : (List.range n).find? f = some i) : i < n ∧ f i = true ∧ ∀ j, j < i → f j = false := by
  have h1 := List.find?_some h
  have h2 : i ∈ List.range n := List.mem_of_find?_eq_some h
  refine ⟨by simpa using h2, h1, fun j hj => ?_⟩
  rw [List.find?_eq_some_iff_getElem] at h
  obtain ⟨_, k, hk, he, hl⟩ := h
  simp at he
  subst he
  have := hl j hj
  simpa using this
theorem find_range_none {f : Nat → Bool} {n : Nat} (h : (List.range n).find? f = none) : ∀ j, j < n → f j = false := by
  intro j hj
  have := List.find?_eq_none.1 h j (by simpa using hj)
  simpa using this

theorem logF_some {q p x most n : Nat} (hn : n ≤ most) (h : Lw q p (2 ^ n) = x) (hl : ∀ j, j < n → Lw q p (2 ^ j) ≠ x) : logF q p x most = some n := by
  unfold logF
  cases he : (List.range (most + 1)).find? (fun n => decide (Lw q p (2 ^ n) = x)) with
  | none => have := find_range_none he n (by omega); simp [h] at this
  | some i =>
    obtain ⟨h1, h2, h3⟩ := find_range_some he
    rcases Nat.lt_trichotomy i n with hc | hc | hc
    · exact absurd (by simpa using h2) (hl i hc)
    · rw [hc]
    · have := h3 n hc; simp [h] at this
theorem logF_none {q p x most : Nat} (hl : ∀ j, j ≤ most → Lw q p (2 ^ j) ≠ x) : logF q p x most = none := by
  unfold logF
  rw [List.find?_eq_none]
  intro j hj
  simp at hj
  simpa using hl j (by omega)

theorem Lw_iff {q p : Nat} (hq : 0 < q) (hp : p = 2 * q + 1) (u v : Nat) : Lw q p u = Lw q p v ↔ PM p u v :=
  ⟨fun h => ((Lw_pm hp u).symm.trans (by rw [h]; exact PM.refl _ _)).trans (Lw_pm hp v), fun h => Lw_eq hq hp h⟩

theorem giant {q p x back step : Nat} (hq : 0 < q) (hp : p = 2 * q + 1) (hx : x ≤ q) (hb : PM p (back * 2 ^ step) 1) (k j : Nat) : Lw q p (2 ^ j) = Lw q p (x * back ^ k) ↔ Lw q p (2 ^ (k * step + j)) = x := by
  have h1 : PM p (back ^ k * 2 ^ (k * step)) 1 := by
    have := hb.pow k
    rwa [Nat.one_pow, Nat.mul_pow, ← Nat.pow_mul, Nat.mul_comm step k] at this
  have hx' : Lw q p (2 ^ (k * step + j)) = x ↔ PM p (2 ^ (k * step + j)) x := by
    rw [← Lw_iff hq hp, Lw_fix hp hx]
  rw [hx', Lw_iff hq hp, Nat.pow_add]
  constructor
  · intro h
    have h2 := (PM.refl p (2 ^ (k * step))).mul h
    refine h2.trans ?_
    have h3 := (PM.refl p x).mul h1
    rw [Nat.mul_one] at h3
    rwa [show 2 ^ (k * step) * (x * back ^ k) = x * (back ^ k * 2 ^ (k * step)) by grind]
  · intro h
    have h2 := h.mul (PM.refl p (back ^ k))
    refine (PM.symm ?_).trans h2
    have h3 := (PM.refl p (2 ^ j)).mul h1
    rw [Nat.mul_one] at h3
    rwa [show 2 ^ (k * step) * 2 ^ j * back ^ k = 2 ^ j * (back ^ k * 2 ^ (k * step)) by grind]

theorem T_inj {G : GP} (ok : G.Ok) (fit : G.q.m < 256 ^ G.size) {u v : Nat} (hu : u ≤ G.q.m) (hv : v ≤ G.q.m) (h : T G u = T G v) : u = v := by
  have := congrArg numOf h
  rwa [T_num ok hu fit, T_num ok hv fit] at this

/-- What a look among the small steps says of x. -/
theorem look_some {G : GP} (ok : G.Ok) (fit : G.q.m < 256 ^ G.size) {x back step k i : Nat} (hx : x ≤ G.q.m) (hb : PM G.p.m (back * 2 ^ step) 1) (h : smallF G step (T G (Lw G.q.m G.p.m (x * back ^ k))) = some i)
    (hl : ∀ n, n < k * step → Lw G.q.m G.p.m (2 ^ n) ≠ x) : i < step ∧ Lw G.q.m G.p.m (2 ^ (k * step + i)) = x ∧ ∀ j, j < k * step + i → Lw G.q.m G.p.m (2 ^ j) ≠ x := by
  obtain ⟨h1, h2, h3⟩ := find_range_some h
  have hq := ok.q.pos
  have le := fun v => Lw_le (q := G.q.m) ok.twice v
  refine ⟨h1, (giant hq ok.twice hx hb k i).1 (T_inj ok fit (le _) (le _) (by simpa using h2)), fun j hj => ?_⟩
  rcases Nat.lt_or_ge j (k * step) with hc | hc
  · exact hl j hc
  · obtain ⟨d, rfl⟩ : ∃ d, j = k * step + d := ⟨j - k * step, by omega⟩
    have := h3 d (by omega)
    intro he
    have h5 := (giant hq ok.twice hx hb k d).2 he
    simp [h5] at this

theorem look_none {G : GP} (ok : G.Ok) {x back step k : Nat} (hx : x ≤ G.q.m) (hb : PM G.p.m (back * 2 ^ step) 1) (h : smallF G step (T G (Lw G.q.m G.p.m (x * back ^ k))) = none)
    (hl : ∀ n, n < k * step → Lw G.q.m G.p.m (2 ^ n) ≠ x) : ∀ n, n < (k + 1) * step → Lw G.q.m G.p.m (2 ^ n) ≠ x := by
  intro n hn
  rcases Nat.lt_or_ge n (k * step) with hc | hc
  · exact hl n hc
  · obtain ⟨d, rfl⟩ : ∃ d, n = k * step + d := ⟨n - k * step, by omega⟩
    rw [Nat.add_mul, Nat.one_mul] at hn
    have := find_range_none h d (by omega)
    intro he
    have h5 := (giant ok.q.pos ok.twice hx hb k d).2 he
    simp [h5] at this

theorem back_ok {q p step : Nat} (hpp : IsPrime p) (hp : p = 2 * q + 1) (hq : 1 < q) : PM p ((2 ^ step) ^ (p - 2) * 2 ^ step) 1 := by
  rw [← Nat.pow_succ]
  refine PM.of_mod ?_
  rw [show (p - 2).succ = p - 1 by omega]
  exact fermat hpp (hpp.not_dvd_pow (not_dvd_small (by decide) (by omega)) _)

end Go.Proofs.Ytipgjookfdkciaa

/- Powers of elements: what is one says that exponents are one modulo the order. No condition beyond those that each fact names. -/
namespace Go.Proofs.Ytipgjookfdkciaa
open Go.RowKit

theorem pm_sq {p x : Nat} (h0 : 0 < x) (h : PM p x 1) : x ^ 2 % p = 1 % p := by
  have h1 : p ∣ x ^ 2 - 1 := by
    obtain ⟨c, rfl⟩ : ∃ c, x = c + 1 := ⟨x - 1, by omega⟩
    have e : (c + 1) ^ 2 - 1 = c * (c + 2) := by
      have : (c + 1) ^ 2 = c * (c + 2) + 1 := by grind
      omega
    rw [e]
    rcases h with ⟨d, h⟩ | ⟨d, h⟩
    · have : (p : Int) ∣ ((c : Nat) : Int) := ⟨d, by omega⟩
      exact Nat.dvd_mul_right_of_dvd (Int.natCast_dvd_natCast.1 this) _
    · have : (p : Int) ∣ ((c + 2 : Nat) : Int) := ⟨d, by omega⟩
      exact Nat.dvd_mul_left_of_dvd (Int.natCast_dvd_natCast.1 this) _
  exact (mod_eq_iff_dvd_sub (Nat.pow_pos h0)).2 h1

theorem pm_inv {q p a : Nat} (hpp : IsPrime p) (hp : p = 2 * q + 1) (hq : 1 < q) (ha : ¬ p ∣ a) : PM p (a ^ (p - 2) * a) 1 := by
  rw [← Nat.pow_succ, show (p - 2).succ = p - 1 by omega]
  exact PM.of_mod (fermat hpp ha)

/-- What a factor that is no multiple of p is taken from. -/
theorem pm_cancel {q p a x y : Nat} (hpp : IsPrime p) (hp : p = 2 * q + 1) (hq : 1 < q) (ha : ¬ p ∣ a) (h : PM p (a * x) (a * y)) : PM p x y := by
  have h1 := (PM.refl p (a ^ (p - 2))).mul h
  rw [← Nat.mul_assoc, ← Nat.mul_assoc] at h1
  have hi := pm_inv hpp hp hq ha
  have hx := hi.mul (PM.refl p x)
  have hy := hi.mul (PM.refl p y)
  rw [Nat.one_mul] at hx hy
  exact (hx.symm.trans h1).trans hy

/-- Powers of an element that is not 1 which are one element differ by a multiple of the order. -/
theorem order_any {q p a m n : Nat} (hqp : IsPrime q) (hpp : IsPrime p) (hp : p = 2 * q + 1) (hq : 1 < q) (ha : 1 < a) (haq : a ≤ q) (hmn : m ≤ n) (h : PM p (a ^ m) (a ^ n)) : m % q = n % q := by
  have hda : ¬ p ∣ a := not_dvd_small (by omega) (by omega)
  have h1 : PM p (a ^ (n - m)) 1 := by
    refine (pm_cancel hpp hp hq (hpp.not_dvd_pow hda m) ?_).symm
    rw [Nat.mul_one, ← Nat.pow_add, show m + (n - m) = n by omega]
    exact h
  have h6 := pm_sq (Nat.pow_pos (by omega)) h1
  rw [← Nat.pow_mul, Nat.mul_comm, Nat.pow_mul] at h6
  have h7 : (a ^ 2) ^ q % p = 1 % p := by
    rw [← Nat.pow_mul, show 2 * q = p - 1 by omega]
    exact fermat hpp hda
  have h8 := pow_gcd _ _ h6 h7
  rcases hqp.2 (Nat.gcd (n - m) q) (Nat.gcd_dvd_right _ _) with hg | hg
  · rw [hg, Nat.pow_one] at h8
    exfalso
    have hd := (mod_eq_iff_dvd_sub (Nat.pow_pos (by omega))).1 h8
    have e : a ^ 2 - 1 = (a - 1) * (a + 1) := by
      obtain ⟨c, rfl⟩ : ∃ c, a = c + 1 := ⟨a - 1, by omega⟩
      have : (c + 1) ^ 2 = (c + 1 - 1) * (c + 1 + 1) + 1 := by rw [Nat.add_sub_cancel]; grind
      omega
    rw [e] at hd
    rcases hpp.dvd_mul hd with h9 | h9
    · have := Nat.le_of_dvd (by omega) h9; omega
    · have := Nat.le_of_dvd (by omega) h9; omega
  · have hd : q ∣ n - m := by
      have := Nat.gcd_dvd_left (n - m) q
      rwa [hg] at this
    exact ((mod_eq_iff_dvd_sub hmn).2 hd).symm

/-- Below the order the exponents themselves are one. -/
theorem order_lt {q p a m n : Nat} (hqp : IsPrime q) (hpp : IsPrime p) (hp : p = 2 * q + 1) (hq : 1 < q) (ha : 1 < a) (haq : a ≤ q) (hm : m < q) (hn : n < q) (h : PM p (a ^ m) (a ^ n)) : m = n := by
  rcases Nat.le_total m n with h9 | h9
  · have := order_any hqp hpp hp hq ha haq h9 h
    rwa [Nat.mod_eq_of_lt hm, Nat.mod_eq_of_lt hn] at this
  · have := order_any hqp hpp hp hq ha haq h9 h.symm
    rw [Nat.mod_eq_of_lt hm, Nat.mod_eq_of_lt hn] at this
    exact this.symm

section
variable {G : GP}
theorem lowN_iff (ok : G.Ok) (x y : Nat) : lowN G x = lowN G y ↔ PM G.p.m x y := Lw_iff ok.q.pos ok.twice x y
theorem lowN_pos (ok : G.Ok) (hpp : IsPrime G.p.m) {x : Nat} (h : ¬ G.p.m ∣ x) : 0 < lowN G x := Lw_pos ok.twice h
theorem pow2_nd (ok : G.Ok) (hpp : IsPrime G.p.m) (n : Nat) : ¬ G.p.m ∣ 2 ^ n := hpp.not_dvd_pow (not_dvd_small (by decide) (by have := ok.twice; have := ok.odd; omega)) n
theorem low_nd (ok : G.Ok) (hpp : IsPrime G.p.m) {x : Nat} (h : ¬ G.p.m ∣ x) : ¬ G.p.m ∣ lowN G x := not_dvd_small (lowN_pos ok hpp h) (by have := lowN_le ok x; have := ok.twice; have := ok.q.pos; omega)

/-- A cipher opened: what comes out, whatever stands for its parts. -/
theorem opens (ok : G.Ok) (hpp : IsPrime G.p.m) {A B K S T X : Nat} (hK : PM G.p.m K (2 ^ S)) (hA : PM G.p.m A (2 ^ T)) (hB : PM G.p.m B (K ^ T * 2 ^ X)) (hd : ¬ G.p.m ∣ A) : lowN G (B * (A ^ S) ^ (G.p.m - 2)) = lowN G (2 ^ X) := by
  have hq : 1 < G.q.m := by have := ok.odd; omega
  refine lowN_eq ok ?_
  have hi := pm_inv hpp ok.twice hq (hpp.not_dvd_pow hd S)
  have h1 : PM G.p.m B (A ^ S * 2 ^ X) := by
    refine hB.trans (PM.mul ?_ (PM.refl _ _))
    refine (hK.pow T).trans ?_
    rw [← Nat.pow_mul, Nat.mul_comm, Nat.pow_mul]
    exact (hA.pow S).symm
  have h2 := h1.mul (PM.refl G.p.m ((A ^ S) ^ (G.p.m - 2)))
  refine h2.trans ?_
  rw [Nat.mul_comm, ← Nat.mul_assoc]
  have h3 := hi.mul (PM.refl G.p.m (2 ^ X))
  rwa [Nat.one_mul] at h3

/-- One cipher hides one number with one nonce. -/
theorem binds (ok : G.Ok) (hpp : IsPrime G.p.m) (hqp : IsPrime G.q.m) {K V W X Y : Nat} (hk : ¬ G.p.m ∣ K) (hV : V < G.q.m) (hW : W < G.q.m) (hX : X < G.q.m) (hY : Y < G.q.m)
    (h1 : lowN G (2 ^ V) = lowN G (2 ^ W)) (h2 : lowN G (K ^ V * 2 ^ X) = lowN G (K ^ W * 2 ^ Y)) : V = W ∧ X = Y := by
  have hq : 1 < G.q.m := by have := ok.odd; omega
  have h2q : 2 ≤ G.q.m := hq
  have e1 := order_lt hqp hpp ok.twice hq (by decide) h2q hV hW ((lowN_iff ok _ _).1 h1)
  subst e1
  refine ⟨rfl, ?_⟩
  exact order_lt hqp hpp ok.twice hq (by decide) h2q hX hY (pm_cancel hpp ok.twice hq (hpp.not_dvd_pow hk V) ((lowN_iff ok _ _).1 h2))
end

end Go.Proofs.Ytipgjookfdkciaa

/- Two elements are one: Same of the package cyc. No condition. -/
namespace Go.Proofs.Ytipgjookfdkciaa
open Go.RowKit

theorem elemField : ∃ f, (Try.prog.fieldsOf 111).toList = [f] ∧ f.name = "n" ∧ f.type = 89 ∧ f.offset = 0 := by
  have h : ((Try.prog.fieldsOf 111).toList.map fun f => (f.name, f.type, f.offset)) = [("n", 89, 0)] := by kernel_rfl
  generalize (Try.prog.fieldsOf 111).toList = fs at *
  obtain ⟨f, rfl⟩ : ∃ f, fs = [f] := List.length_eq_one_iff.1 (by have := congrArg List.length h; simpa using this)
  simp only [List.map_cons, List.map_nil, List.cons.injEq, Prod.mk.injEq, and_true] at h
  exact ⟨f, rfl, h.1, h.2.1, h.2.2⟩
theorem eqElem (x y : Nat) (hx : x < BB ^ 4) (hy : y < BB ^ 4) (w : World) (b : Bool) (hb : b = decide (x = y)) :
    (Op.equalIn 10000 111 (.agg #[.int .u64 (dig x 0 : Int), .int .u64 (dig x 1 : Int), .int .u64 (dig x 2 : Int), .int .u64 (dig x 3 : Int)]) (.agg #[.int .u64 (dig y 0 : Int), .int .u64 (dig y 1 : Int), .int .u64 (dig y 2 : Int), .int .u64 (dig y 3 : Int)])).run Try.prog w = .ok b w := by
  obtain ⟨f, hf, hn, ht, ho⟩ := elemField
  rw [run_equalIn_struct w 9999 _ _ _ (by kernel_rfl) (by kernel_rfl), hf]
  obtain ⟨i, hi⟩ := Option.isSome_iff_exists.1 infoU64
  have h4 := run_equalIn_four w 9997 _ _ Try.underlying89 Try.underlying87 i hi cellsU64 plainU64 (dig x 0 : Int) (dig x 1 : Int) (dig x 2 : Int) (dig x 3 : Int) (dig y 0 : Int) (dig y 1 : Int) (dig y 2 : Int) (dig y 3 : Int)
  have he : ((dig x 0 : Int) == (dig y 0 : Int) && ((dig x 1 : Int) == (dig y 1 : Int) && ((dig x 2 : Int) == (dig y 2 : Int) && (dig x 3 : Int) == (dig y 3 : Int)))) = b := by
    rw [hb, Bool.eq_iff_iff]
    simp only [Bool.and_eq_true, beq_iff_eq, Int.natCast_inj, decide_eq_true_eq]
    exact ⟨fun ⟨h0, h1, h2, h3⟩ => lim_eq x y hx hy h0 h1 h2 h3, fun e => by rw [e]; exact ⟨rfl, rfl, rfl, rfl⟩⟩
  rw [he] at h4
  simp only [Op.eqFields, hn, ht, ho]
  rw [if_pos (by decide), Sem.run_bind, partLimbs, Result.andThen_ok, Sem.run_bind, partLimbs, Result.andThen_ok, Sem.run_bind]
  erw [h4]
  cases b <;> rfl
theorem guardElem (op : BinOp) (x y : Operand) (xs ys : Array Value) (w : World) : (eqGuard op 111 x y (.agg xs) (.agg ys)).run Try.prog w = .ok () w := run_eqGuard_agg w op _ x y xs ys (by kernel_rfl)
theorem binElem {xs ys : Array Value} {b : Bool} {w : World} (h : (Op.equalIn 10000 111 (.agg xs) (.agg ys)).run Try.prog w = .ok b w) : (binOp .eql 111 (.agg xs) (.agg ys)).run Try.prog w = .ok (.bool b) w := by
  rw [run_eql_struct, h]
  rfl

theorem mont_iff {R : RingP} (ok : R.Ok) (x y : Nat) : mont R.m x = mont R.m y ↔ x % R.m = y % R.m :=
  ⟨fun h => mont_cancel ok.low (show (x * BB ^ 4) % R.m = (y * BB ^ 4) % R.m from h), fun h => by rw [← mont_mod R.m x, h, mont_mod]⟩
theorem dvd_sub_iff (p x y : Nat) : (p : Int) ∣ (x : Int) - y ↔ x % p = y % p :=
  ⟨fun h => by have := Int.emod_eq_emod_iff_emod_sub_eq_zero.2 (Int.emod_eq_zero_of_dvd h); exact_mod_cast this, fun h => Int.dvd_of_emod_eq_zero (Int.emod_eq_emod_iff_emod_sub_eq_zero.1 (by exact_mod_cast h))⟩
theorem same_iff {G : GP} (ok : G.Ok) (x y : Nat) : lowN G x = lowN G y ↔ mont G.p.m x = mont G.p.m y ∨ mont G.p.m (x + y) = 0 := by
  rw [lowN_iff ok, mont_iff ok.p, ← mont_zero G.p.m, mont_iff ok.p]
  unfold PM
  rw [dvd_sub_iff]
  refine or_congr Iff.rfl ⟨fun h => ?_, fun h => ?_⟩
  · have h2 : G.p.m ∣ x + y := by exact_mod_cast h
    rw [Nat.mod_eq_zero_of_dvd h2, Nat.zero_mod]
  · have h2 : G.p.m ∣ x + y := Nat.dvd_of_mod_eq_zero (by rw [h, Nat.zero_mod])
    exact_mod_cast h2

set_option maxRecDepth 100000 in
set_option maxHeartbeats 1000000 in
theorem gSame_any (G : GP) (ok : G.Ok) (gb x y : Nat) (w : World) (hG : GroupAt w gb G) :
    Calls Try.prog 157 #[.pointer (some ⟨gb, 0, none⟩), elV G x, elV G y] w (Gives (.bool (decide (lowN G x = lowN G y))) w) := by
  have OK := Lib.hid ok
  have HG := Lib.hid hG
  obtain ⟨b1, hb1⟩ : ∃ b, decide (mont G.p.m x = mont G.p.m y) = b := ⟨_, rfl⟩
  obtain ⟨b2, hb2⟩ : ∃ b, decide (mont G.p.m (x + y) = 0) = b := ⟨_, rfl⟩
  have hr : decide (lowN G x = lowN G y) = (b1 || b2) := by
    rw [← hb1, ← hb2, Bool.eq_iff_iff]
    simp only [Bool.or_eq_true, decide_eq_true_eq]
    exact same_iff ok x y
  have HEQ := Lib.hid (fun W => binElem (w := W) (eqElem (mont G.p.m x) (mont G.p.m y) (ok.p.mont _) (ok.p.mont _) W b1 hb1.symm))
  have HEZ := Lib.hid (fun W => binLimbs (w := W) (eqZero (mont G.p.m (x + y)) (ok.p.mont _) W b2 hb2.symm))
  rw [hr]
  clear ok hG hb1 hb2 hr
  unfold Gives elV limbV
  go_enter Try.func157, Try.ntmps157
  go_wp2_with fail
  obtain ⟨w1, hq1, hb9, hz9, Hbx, Hby⟩ := new2 w 111 [.int .u64 (dig (mont G.p.m x) 0 : Int), .int .u64 (dig (mont G.p.m x) 1 : Int), .int .u64 (dig (mont G.p.m x) 2 : Int), .int .u64 (dig (mont G.p.m x) 3 : Int)] 111 [.int .u64 (dig (mont G.p.m y) 0 : Int), .int .u64 (dig (mont G.p.m y) 1 : Int), .int .u64 (dig (mont G.p.m y) 2 : Int), .int .u64 (dig (mont G.p.m y) 3 : Int)]
  rw [hq1]
  clear hq1
  replace HG := Lib.hid (HG.out.up hb9)
  have HB := Lib.hid hb9
  have HZS := hz9
  clear hb9 hz9
  have bx_ := Hbx.out.c4
  have by_ := Hby.out.c4
  go_wp2_with fail
  cases b1
  · have hl_bx := Hbx.out.lt
    have hl_by := Hby.out.lt
    refine wp_region_over (by kernel_rfl) (by kernel_rfl) ?_
    have hov_bx := fun (E : Over w1) o => E.cell (b := w.heap.size) o hl_bx
    have hov_by := fun (E : Over w1) o => E.cell (b := w.heap.size + 1) o hl_by
    go_big_quiet_step (fail)
    go_big_quiet_step (fail)
    refine wpQuiet_bin rfl .eql _ _ 111 _ rfl _ _ (.bool false) rfl rfl (fun _ => guardElem _ _ _ _ _ _) (fun _ => HEQ.out _) ?_
    simp only [Act.put, List.setIfInBounds_toArray, List.set_cons_succ, List.set_cons_zero]
    repeat (go_big_quiet_step (first | (go_at_call 145; exact calls_over (addM G.p OK.out.p gb 2 x y _ (HG.out.up (Over.h _)).p))))
    unfold limbV
    refine wpQuiet_bin rfl .eql _ _ 89 _ rfl _ _ (.bool b2) rfl rfl (fun _ => guardLimbs _ _ _ _ _ _) (fun _ => HEZ.out _) ?_
    simp only [Act.put, List.setIfInBounds_toArray, List.set_cons_succ, List.set_cons_zero]
    repeat (go_big_quiet_step (fail))
    refine wpQuiet_nil ?_
    rintro _ ⟨E, rfl⟩
    clear hov_bx hl_bx hov_by hl_by
    clear bx_
    replace Hbx := Lib.hid (Hbx.out.up E.h)
    clear by_
    replace Hby := Lib.hid (Hby.out.up E.h)
    replace HG := Lib.hid (HG.out.up E.h)
    replace HB := hbu HB E.h
    replace HZS := sz HZS E.h.size
    obtain ⟨w2, hq9⟩ : ∃ W9 : World, E.w = W9 := ⟨_, rfl⟩
    rw [hq9] at Hbx Hby HG HB HZS ⊢
    clear hq9 E
    have bx_ := Hbx.out.c4
    have by_ := Hby.out.c4
    go_wp2_with fail
    go_ret
    exact ⟨by simp, HB.out⟩
  · have hl_bx := Hbx.out.lt
    have hl_by := Hby.out.lt
    refine wp_region_over (by kernel_rfl) (by kernel_rfl) ?_
    have hov_bx := fun (E : Over w1) o => E.cell (b := w.heap.size) o hl_bx
    have hov_by := fun (E : Over w1) o => E.cell (b := w.heap.size + 1) o hl_by
    go_big_quiet_step (fail)
    go_big_quiet_step (fail)
    refine wpQuiet_bin rfl .eql _ _ 111 _ rfl _ _ (.bool true) rfl rfl (fun _ => guardElem _ _ _ _ _ _) (fun _ => HEQ.out _) ?_
    simp only [Act.put, List.setIfInBounds_toArray, List.set_cons_succ, List.set_cons_zero]
    repeat (go_big_quiet_step (fail))
    refine wpQuiet_nil ?_
    rintro _ ⟨E, rfl⟩
    clear hov_bx hl_bx hov_by hl_by
    clear bx_
    replace Hbx := Lib.hid (Hbx.out.up E.h)
    clear by_
    replace Hby := Lib.hid (Hby.out.up E.h)
    replace HG := Lib.hid (HG.out.up E.h)
    replace HB := hbu HB E.h
    replace HZS := sz HZS E.h.size
    obtain ⟨w2, hq9⟩ : ∃ W9 : World, E.w = W9 := ⟨_, rfl⟩
    rw [hq9] at Hbx Hby HG HB HZS ⊢
    clear hq9 E
    have bx_ := Hbx.out.c4
    have by_ := Hby.out.c4
    go_wp2_with fail
    go_ret
    exact ⟨by simp, HB.out⟩

end Go.Proofs.Ytipgjookfdkciaa

/- Scalars of claims are read; claims are opened; powers of the bases: package sigma. Condition: the lists that memory can hold. -/
namespace Go.Proofs.Ytipgjookfdkciaa
open Go.RowKit

def ScalQ (G : GP) (er : Nat) (l : List ByteArray) (w : World) (e : Ending) (w' : World) : Prop :=
  Below w.heap.size w w' ∧ ∃ v, e = .returned (.tuple #[v, .int .i64 (er : Int)]) ∧ (er = 0 → ∃ a c, v = .slice a l.length c ∧ Sl w' w'.heap.size a (l.flatMap (limC G.q.m)) ∧ (∀ x, a = some x → w.heap.size ≤ x.block))
def ScalR (G : GP) (n : Nat) (l : List ByteArray) (w : World) (e : Ending) (w' : World) : Prop := ScalQ G (scE G n l) l w e w'

set_option maxRecDepth 100000 in
set_option maxHeartbeats 1000000 in
theorem scalars_any (G : GP) (ok : G.Ok) (gb n : Nat) (a : Option Addr) (c : Nat) (l : List ByteArray) (al : Option Addr) (cl : Nat) (hn : l.length ≤ 8796093022207) (w : World) (hG : GroupAt w gb G) (hS : Sl w w.heap.size al (l.map Value.string)) :
    Calls Try.prog 155 #[.agg #[.pointer (some ⟨gb, 0, none⟩), .slice a n c], .slice al l.length cl] w (ScalR G n l w) := by
  have OK := Lib.hid ok
  have HG := Lib.hid hG
  have HS := Lib.hid hS
  clear ok hG hS
  obtain ⟨z, hz⟩ : ∃ z, scE G n l = z := ⟨_, rfl⟩
  have hzz : z = if l.length = n then if l.all (isSc G.q.m G.size) = true then 0 else 6 else 2 := hz.symm
  unfold ScalR
  rw [hz]
  clear hz
  by_cases h1 : l.length = n
  · have hd : ((l.length : Int) != (n : Int)) = false := by simp; omega
    rw [if_pos h1] at hzz
    obtain ⟨b, hb⟩ : ∃ b, l.all (isSc G.q.m G.size) = b := ⟨_, rfl⟩
    rw [hb] at hzz
    have HBB := Lib.hid hb
    clear hb h1
    go_enter Try.func155, Try.ntmps155
    go_wp2_with fail
    obtain ⟨w1, hq1, hb9, hz9, Hbs⟩ := new1 w 157 [.pointer (some ⟨gb, 0, none⟩), .slice a n c]
    rw [hq1]
    clear hq1
    replace HG := Lib.hid (HG.out.up hb9)
    have HB := Lib.hid hb9
    have HZS := hz9
    clear hb9 hz9
    have bs_ := Hbs.out.c2
    go_wp2_with fail
    refine (allSc_v G OK.out gb l b HBB.out l.length rfl al cl hn w1 HG.out (HS.out.up HB.out)).mono ?_
    rintro e w2 ⟨vx, rfl, hb9, hx9⟩
    clear bs_
    replace Hbs := Lib.hid (Hbs.out.up hb9)
    replace HG := Lib.hid (HG.out.up hb9)
    replace HB := hbu HB hb9
    replace HZS := sz HZS hb9.size
    have HX := Lib.hid hx9
    clear hx9
    clear hb9
    have bs_ := Hbs.out.c2
    cases b
    · obtain rfl : z = 6 := by rw [hzz, if_neg (by decide)]
      clear hzz
      go_wp2_with fail
      go_ret2
      exact ⟨HB.out, .slice none 0 0, rfl, fun h => by cases h⟩
    · obtain rfl : z = 0 := by rw [hzz, if_pos rfl]
      clear hzz
      obtain ⟨ax, cx, rfl, hsx, hfx⟩ := HX.out rfl
      have HSX := Lib.hid hsx
      have HFX := Lib.hid (show ∀ x, ax = some x → w.heap.size ≤ x.block from fun x hx => Nat.le_trans (by have a0 := HZS.out; omega) (hfx x hx))
      clear hsx hfx HX
      go_wp2_with fail
      go_ret2
      exact ⟨HB.out, .slice ax l.length cx, rfl, fun _ => ⟨ax, cx, rfl, HSX.out, HFX.out⟩⟩
  · have hd : ((l.length : Int) != (n : Int)) = true := by simp; omega
    obtain rfl : z = 2 := by rw [hzz, if_neg h1]
    clear hzz h1
    go_enter Try.func155, Try.ntmps155
    go_wp2_with fail
    obtain ⟨w1, hq1, hb9, hz9, Hbs⟩ := new1 w 157 [.pointer (some ⟨gb, 0, none⟩), .slice a n c]
    rw [hq1]
    clear hq1
    have HB := Lib.hid hb9
    have HZS := hz9
    clear hb9 hz9
    have bs_ := Hbs.out.c2
    go_wp2_with fail
    go_ret2
    exact ⟨HB.out, .slice none 0 0, rfl, fun h => by cases h⟩

/-- What opening answers: the errno; where it is nought: the set and the scalars. -/
def openE (G : GP) (l : List ClaimA) (xs : List ByteArray) : Nat := if wrongE G l ≠ 0 then wrongE G l else scE G l.length xs
def OpenOk (G : GP) (l : List ClaimA) (xs : List ByteArray) (w' : World) (p q v : Value) : Prop := ∃ gb rs a c a' c', p = .pointer (some ⟨gb, 0, none⟩) ∧ q = .slice a rs.length c ∧ v = .slice a' xs.length c' ∧ rs.map ClaimR.k = l ∧ GroupAt w' gb G ∧ SetAt G w' a rs ∧ (∀ r ∈ rs, r.Src w') ∧ Sl w' w'.heap.size a' (xs.flatMap (limC G.q.m))
def OpenS (G : GP) (er : Nat) (l : List ClaimA) (xs : List ByteArray) (w : World) (e : Ending) (w' : World) : Prop :=
  Below w.heap.size w w' ∧ ∃ pp qa qn qc v, e = .returned (.tuple #[.agg #[.pointer pp, .slice qa qn qc], v, .int .i64 (er : Int)]) ∧ (er = 0 → OpenOk G l xs w' (.pointer pp) (.slice qa qn qc) v)

set_option maxRecDepth 100000 in
set_option maxHeartbeats 1000000 in
theorem open_none (k : Int) (hk : ¬ (1 ≤ k ∧ k ≤ 3)) (l : List ClaimA) (xs : List ByteArray) (v1 v2 : Value) (w : World) : Calls Try.prog 112 #[.int .i64 k, v1, v2] w (OpenS (grp 1) 1 l xs w) := by
  go_enter Try.func112, Try.ntmps112
  go_wp2_with fail
  obtain ⟨w1, hq1, hb9, hz9, Hbr⟩ := new1 w 157 [.pointer none, .slice none 0 0]
  rw [hq1]
  clear hq1
  have HB := Lib.hid hb9
  have HZS := hz9
  clear hb9 hz9
  have br_ := Hbr.out.c2
  go_wp2_with fail
  refine (of_none k hk _).mono ?_
  rintro e w2 ⟨rfl, rfl⟩
  have f2_br := Hbr.out.frozen
  have o2_br_ := br_; clear br_
  obtain ⟨w2, hq2, hg9, hz9, hx9⟩ := put2 Hbr 0 (.pointer none) 1 (.slice none 0 0) [.pointer none, .slice none 0 0] rfl
  replace HB := hbg HB hg9 (by have g0 := HZS.out; omega)
  replace HZS := sz HZS hz9.out
  replace Hbr := hx9
  clear hx9 hg9 hz9
  have br_ := Hbr.out.c2
  go_wp2_with fail
  clear hq2 o2_br_ f2_br
  simp [bodyPost, results, Try.results112, go_sem, br_]
  exact ⟨HB.out, _, _, _, _, _, rfl, fun h => by cases h⟩

set_option maxRecDepth 100000 in
set_option maxHeartbeats 2000000 in
theorem open_some (k : Nat) (h1 : 1 ≤ k) (h3 : k ≤ 3) (l : List ClaimA) (al : Option Addr) (cl : Nat) (xs : List ByteArray) (ax : Option Addr) (cx : Nat) (hn : xs.length ≤ 8796093022207) (w : World) (hC : ClaimsAt w al l) (hS : Sl w w.heap.size ax (xs.map Value.string)) :
    Calls Try.prog 112 #[.int .i64 (k : Int), .slice al l.length cl, .slice ax xs.length cx] w (OpenS (grp k) (openE (grp k) l xs) l xs w) := by
  have OK := Lib.hid (grp_ok k h1 h3)
  have HC := Lib.hid hC
  have HS := Lib.hid hS
  clear hC hS
  obtain ⟨z, hz⟩ : ∃ z, wrongE (grp k) l = z := ⟨_, rfl⟩
  obtain ⟨y, hy⟩ : ∃ z, scE (grp k) l.length xs = z := ⟨_, rfl⟩
  have hoe : openE (grp k) l xs = if z ≠ 0 then z else y := by unfold openE; rw [hz, hy]
  rw [hoe]
  have HZ := Lib.hid hz
  have HY := Lib.hid hy
  clear hoe hz hy
  by_cases h0 : z = 0
  · subst h0
    rw [if_neg (by decide)]
    go_enter Try.func112, Try.ntmps112
    go_wp2_with fail
    obtain ⟨w1, hq1, hb9, hz9, Hbr⟩ := new1 w 157 [.pointer none, .slice none 0 0]
    rw [hq1]
    clear hq1
    have HB := Lib.hid hb9
    have HZS := hz9
    clear hb9 hz9
    have br_ := Hbr.out.c2
    go_wp2_with fail
    refine (of_some k h1 h3 w1).mono ?_
    rintro e w2 ⟨rfl, hg9, hb9⟩
    clear br_
    replace Hbr := Lib.hid (Hbr.out.up hb9)
    replace HB := hbu HB hb9
    replace HZS := sz HZS hb9.size
    have HG := Lib.hid hg9
    clear hg9
    clear hb9
    have br_ := Hbr.out.c2
    have HsG := Lib.hid HG.out.lt
    replace HZS := sz HZS HsG.out
    go_wp2_with fail
    refine (sread_any (grp k) OK.out _ l al cl w2 HG.out (HC.out.up HB.out)).mono ?_
    rintro e w3 ⟨hb9, hx9⟩
    clear br_
    replace Hbr := Lib.hid (Hbr.out.up hb9)
    replace HG := Lib.hid (HG.out.up hb9)
    replace HB := hbu HB hb9
    replace HZS := sz HZS hb9.size
    have HX := Lib.hid hx9
    clear hx9
    clear hb9
    have br_ := Hbr.out.c2
    obtain ⟨rs, a, c, rfl, hrk, hset, hnew, bl, ol, hal, hrp⟩ : ∃ rs a c, e = .returned (.tuple #[.agg #[.pointer (some ⟨_, 0, none⟩), .slice a rs.length c], .int .i64 0]) ∧ rs.map ClaimR.k = l ∧ SetAt (grp k) w3 a rs ∧ SetNew w2.heap.size a rs ∧ (∃ bl ol, al = some ⟨bl, ol, none⟩ ∧ RsP bl ol rs) := by
      have h9 := HX.out
      rwa [if_pos HZ.out] at h9
    clear HX
    have HRL := Lib.hid (show rs.length = l.length by rw [← hrk, List.length_map])
    have HRK := Lib.hid hrk
    have HSET := Lib.hid hset
    have HNEW := Lib.hid (hnew.mono (show w.heap.size + 1 ≤ w2.heap.size by have a0 := HZS.out; have a1 := HZS.out; omega))
    have HSRC := Lib.hid (src_all hrk hrp (hal ▸ HC.out))
    clear hrk hset hnew hal hrp
    have BS := Lib.hid (Below.refl w3.heap.size w3)
    have o4_br_ := br_; clear br_
    obtain ⟨w4, hq4, hb9, hz9, Hbs⟩ := new1 w3 157 [.pointer (some ⟨w1.heap.size, 0, none⟩), .slice a rs.length c]
    replace Hbr := Lib.hid (Hbr.out.up hb9)
    replace HG := Lib.hid (HG.out.up hb9)
    replace BS := hbu BS hb9
    replace HB := hbu HB hb9
    replace HZS := sz HZS hz9.out
    clear hb9 hz9
    have br_ := Hbr.out.c2
    have bs_ := Hbs.out.c2
    go_wp2_with fail
    clear hq4 o4_br_
    refine (scalars_any (grp k) OK.out _ rs.length a c xs ax cx hn w4 HG.out (HS.out.up HB.out)).mono ?_
    rintro e w5 ⟨hb9, v, rfl, hx9⟩
    clear br_
    replace Hbr := Lib.hid (Hbr.out.up hb9)
    clear bs_
    replace Hbs := Lib.hid (Hbs.out.up hb9)
    replace HG := Lib.hid (HG.out.up hb9)
    replace BS := hbu BS hb9
    replace HB := hbu HB hb9
    replace HZS := sz HZS hb9.size
    have HX := Lib.hid hx9
    clear hx9
    clear hb9
    have br_ := Hbr.out.c2
    have bs_ := Hbs.out.c2
    have hy9 : scE (grp k) rs.length xs = y := by rw [HRL.out]; exact HY.out
    rw [hy9] at HX ⊢
    clear hy9
    have HSET2 := Lib.hid (HSET.out.up BS.out)
    have HX2 := Lib.hid (show y = 0 → ∃ a' c', v = .slice a' xs.length c' ∧ Sl w5 w5.heap.size a' (xs.flatMap (limC (grp k).q.m)) ∧ (∀ x, a' = some x → w.heap.size + 1 ≤ x.block) from fun h => let ⟨a', c', e1, e2, e3⟩ := HX.out h; ⟨a', c', e1, e2, fun x hx => Nat.le_trans (by have a0 := HZS.out; have a1 := HZS.out; have a2 := HZS.out; have a3 := HZS.out; omega) (e3 x hx)⟩)
    clear HX
    have HKB := Lib.hid (Kept.refl (fun q9 => q9 = w.heap.size) w5)
    have f6_br := Hbr.out.frozen
    have o6_br_ := br_; clear br_
    have o6_bs_ := bs_; clear bs_
    obtain ⟨w6, hq6, hg9, hz9, hx9⟩ := put2 Hbr 0 (.pointer (some ⟨w1.heap.size, 0, none⟩)) 1 (.slice a rs.length c) [.pointer (some ⟨w1.heap.size, 0, none⟩), .slice a rs.length c] rfl
    replace Hbs := Lib.hid (Hbs.out.grown hg9.out (sne (by have g0 := HZS.out; omega)))
    replace HG := Lib.hid (HG.out.grown hg9.out (sne (by have g0 := HZS.out; omega)))
    replace HKB := Lib.hid (Kept.grown HKB.out hg9.out (fun q9 e9 => by obtain rfl := Option.some.inj e9; exact Or.inr (rfl)))
    replace HB := hbg HB hg9 (by have g0 := HZS.out; omega)
    replace HZS := sz HZS hz9.out
    replace Hbr := hx9
    clear hx9 hg9 hz9
    have br_ := Hbr.out.c2
    have bs_ := Hbs.out.c2
    go_wp2_with fail
    clear hq6 o6_bs_ o6_br_ f6_br
    have HX3 := Lib.hid (show y = 0 → OpenOk (grp k) l xs w6 (.pointer (some ⟨w1.heap.size, 0, none⟩)) (.slice a rs.length c) v from fun h => let ⟨a', c', e1, e2, e3⟩ := HX2.out h; ⟨w1.heap.size, rs, a, c, a', c', rfl, rfl, e1, HRK.out, HG.out, HSET2.out.keptP HKB.out HNEW.out (fun q hq => by subst hq; omega), fun r hr => (HSRC.out r hr).up HB.out, e2.kept HKB.out (fun x hx hq => by have := e3 x hx; have hq : x.block = w.heap.size := hq; omega)⟩)
    simp [bodyPost, results, Try.results112, go_sem, br_]
    exact ⟨HB.out, _, _, _, _, _, rfl, HX3.out⟩
  · have hd : ((z : Int) != 0) = true := by simp; omega
    rw [if_pos h0]
    clear h0
    go_enter Try.func112, Try.ntmps112
    go_wp2_with fail
    obtain ⟨w1, hq1, hb9, hz9, Hbr⟩ := new1 w 157 [.pointer none, .slice none 0 0]
    rw [hq1]
    clear hq1
    have HB := Lib.hid hb9
    have HZS := hz9
    clear hb9 hz9
    have br_ := Hbr.out.c2
    go_wp2_with fail
    refine (of_some k h1 h3 w1).mono ?_
    rintro e w2 ⟨rfl, hg9, hb9⟩
    clear br_
    replace Hbr := Lib.hid (Hbr.out.up hb9)
    replace HB := hbu HB hb9
    replace HZS := sz HZS hb9.size
    have HG := Lib.hid hg9
    clear hg9
    clear hb9
    have br_ := Hbr.out.c2
    have HsG := Lib.hid HG.out.lt
    replace HZS := sz HZS HsG.out
    go_wp2_with fail
    refine (sread_any (grp k) OK.out _ l al cl w2 HG.out (HC.out.up HB.out)).mono ?_
    rintro e w3 ⟨hb9, hx9⟩
    clear br_
    replace Hbr := Lib.hid (Hbr.out.up hb9)
    replace HG := Lib.hid (HG.out.up hb9)
    replace HB := hbu HB hb9
    replace HZS := sz HZS hb9.size
    have HX := Lib.hid hx9
    clear hx9
    clear hb9
    have br_ := Hbr.out.c2
    obtain rfl : e = .returned (.tuple #[set0, .int .i64 (z : Int)]) := by
      have h9 := HX.out
      rw [HZ.out, if_neg (by rintro rfl; simp at hd)] at h9
      exact h9
    clear HX
    unfold set0
    have o4_br_ := br_; clear br_
    obtain ⟨w4, hq4, hb9, hz9, Hbs⟩ := new1 w3 157 [.pointer none, .slice none 0 0]
    replace Hbr := Lib.hid (Hbr.out.up hb9)
    replace HG := Lib.hid (HG.out.up hb9)
    replace HB := hbu HB hb9
    replace HZS := sz HZS hz9.out
    clear hb9 hz9
    have br_ := Hbr.out.c2
    have bs_ := Hbs.out.c2
    have f5_bs := Hbs.out.frozen
    have o5_br_ := br_; clear br_
    have o5_bs_ := bs_; clear bs_
    obtain ⟨w5, hq5, hg9, hz9, hx9⟩ := put2 Hbs 0 (.pointer none) 1 (.slice none 0 0) [.pointer none, .slice none 0 0] rfl
    replace Hbr := Lib.hid (Hbr.out.grown hg9.out (sne (by have g0 := HZS.out; omega)))
    replace HG := Lib.hid (HG.out.grown hg9.out (sne (by have g0 := HZS.out; omega)))
    replace HB := hbg HB hg9 (by have g0 := HZS.out; omega)
    replace HZS := sz HZS hz9.out
    replace Hbs := hx9
    clear hx9 hg9 hz9
    have br_ := Hbr.out.c2
    have bs_ := Hbs.out.c2
    have f6_br := Hbr.out.frozen
    have o6_br_ := br_; clear br_
    have o6_bs_ := bs_; clear bs_
    obtain ⟨w6, hq6, hg9, hz9, hx9⟩ := put2 Hbr 0 (.pointer none) 1 (.slice none 0 0) [.pointer none, .slice none 0 0] rfl
    replace Hbs := Lib.hid (Hbs.out.grown hg9.out (sne (by have g0 := HZS.out; omega)))
    replace HG := Lib.hid (HG.out.grown hg9.out (sne (by have g0 := HZS.out; omega)))
    replace HB := hbg HB hg9 (by have g0 := HZS.out; omega)
    replace HZS := sz HZS hz9.out
    replace Hbr := hx9
    clear hx9 hg9 hz9
    have br_ := Hbr.out.c2
    have bs_ := Hbs.out.c2
    go_wp2_with fail
    clear hq6 o6_bs_ o6_br_ f6_br hq5 o5_bs_ o5_br_ f5_bs hq4 o4_br_
    simp [bodyPost, results, Try.results112, go_sem, br_]
    exact ⟨HB.out, _, _, _, _, _, rfl, fun h => by subst h; simp at hd⟩

end Go.Proofs.Ytipgjookfdkciaa
