/- The package group: Add, Sub, Mul, Inv, Times, Under. No condition. -/
import Derived.Test.YtdmldnpadojflaaGroupKnow
namespace Go.Proofs.Ytdmldnpadojflaa
open Go.RowKit

/-- What a reading answers, its limbs told when it is good. -/
def ReadM (b : Bool) (m : Nat) (w : World) (e : Ending) (w' : World) : Prop := ∃ x : Nat, e = .returned (.tuple #[limbV x, .bool b]) ∧ Below w.heap.size w w' ∧ (b = true → x = m)

theorem ReadR.m {b : Bool} {m : Nat} {w w' : World} {e : Ending} (h : ReadR b (limbV m) w e w') : ReadM b m w e w' := by
  obtain ⟨x, h1, h2, h3⟩ := h
  cases b with
  | true => exact ⟨m, by rw [h1, h3 rfl], h2, fun _ => rfl⟩
  | false => exact ⟨x, h1, h2, fun h => by cases h⟩

theorem gScalar_m (G : GP) (ok : G.Ok) (gb : Nat) (s : ByteArray) (b : Bool) (hb : isSc G.q.m G.size s = b) (w : World) (hG : GroupAt w gb G) :
    Calls Try.prog 74 #[.pointer (some ⟨gb, 0, none⟩), .string s] w (ReadM b (mont G.q.m (numOf s)) w) := by
  subst hb
  exact (gScalar_any G ok gb s w hG).mono fun e w' h => ReadR.m h
theorem gElem_m (G : GP) (ok : G.Ok) (gb : Nat) (s : ByteArray) (b : Bool) (hb : isEl G.q.m G.size s = b) (w : World) (hG : GroupAt w gb G) :
    Calls Try.prog 73 #[.pointer (some ⟨gb, 0, none⟩), .string s] w (ReadM b (mont G.p.m (numOf s)) w) := by
  subst hb
  exact (gElem_any G ok gb s w hG).mono fun e w' h => ReadR.m h



set_option maxRecDepth 100000 in
set_option maxHeartbeats 400000 in
theorem reckon1_no (G : GP) (ok : G.Ok) (gb b1 b2 b3 : Nat) (a b : ByteArray) (ba bb : Bool) (hba : isSc G.q.m G.size a = ba) (hbb : isSc G.q.m G.size b = bb) (hno : (ba && bb) = false) (w : World) (hG : GroupAt w gb G)
    (hc1 : Bx w b1 9 [.string a]) (hc2 : Bx w b2 9 [.string b]) :
    Calls Try.prog 119 #[.pointer (some ⟨gb, 0, none⟩), .pointer (some ⟨b1, 0, none⟩), .pointer (some ⟨b2, 0, none⟩), .pointer (some ⟨b3, 0, none⟩)] w (Ans (.string ⟨#[]⟩) 6 w) := by
  have HA := Lib.hid hba
  have HBB := Lib.hid hbb
  have HC2 := Lib.hid hc2
  have hk1 := hc1.cell (i := 0) rfl
  clear hba hbb hc1 hc2
  have HG := Lib.hid hG
  have OK := Lib.hid ok
  clear hG ok
  go_enter Try.func119, Try.ntmps119
  go_wp2_with fail
  refine (gScalar_m G OK.out gb a ba HA.out w HG.out).mono ?_
  rintro e w1 ⟨x, rfl, hb1, hx⟩
  have HB1 := Lib.hid hb1
  have HX := Lib.hid hx
  clear hb1 hx
  unfold limbV
  have hlb : Below w1.heap.size w1 (w1.alloc (.cells #[.int .u64 (dig x 0 : Int), .int .u64 (dig x 1 : Int), .int .u64 (dig x 2 : Int), .int .u64 (dig x 3 : Int)] 93)) := (Below.refl _ _).alloc (Nat.le_refl _) _
  have hlz : Blk (w1.alloc (.cells #[.int .u64 (dig x 0 : Int), .int .u64 (dig x 1 : Int), .int .u64 (dig x 2 : Int), .int .u64 (dig x 3 : Int)] 93)) w1.heap.size 93 (lim x) := Blk.new _ _ _ _ rfl
  obtain ⟨w2, hlw⟩ : ∃ W9 : World, (w1.alloc (.cells #[.int .u64 (dig x 0 : Int), .int .u64 (dig x 1 : Int), .int .u64 (dig x 2 : Int), .int .u64 (dig x 3 : Int)] 93)) = W9 := ⟨_, rfl⟩
  rw [hlw] at hlb hlz
  have HLw2 := Lib.hid hlb
  have HXw2 := Lib.hid hlz
  clear hlb hlz
  have HB2 := Lib.hid (below_up HB1.out HLw2.out)
  have hk2 := (HC2.out.up HB2.out).cell (i := 0) rfl
  go_wp2_with fail
  refine (gScalar_m G OK.out gb b bb HBB.out w2 (HG.out.up HB2.out)).mono ?_
  rintro e w3 ⟨y, rfl, hb3, hy⟩
  have HB3 := Lib.hid (below_up HB2.out hb3)
  have HX3 := Lib.hid (HXw2.out.below hb3 HXw2.out.lt)
  have HY := Lib.hid hy
  clear hb3 hy hk1 hk2 hlw
  unfold limbV
  have hlb : Below w3.heap.size w3 (w3.alloc (.cells #[.int .u64 (dig y 0 : Int), .int .u64 (dig y 1 : Int), .int .u64 (dig y 2 : Int), .int .u64 (dig y 3 : Int)] 93)) := (Below.refl _ _).alloc (Nat.le_refl _) _
  have hlz : Blk (w3.alloc (.cells #[.int .u64 (dig y 0 : Int), .int .u64 (dig y 1 : Int), .int .u64 (dig y 2 : Int), .int .u64 (dig y 3 : Int)] 93)) w3.heap.size 93 (lim y) := Blk.new _ _ _ _ rfl
  obtain ⟨w4, hlw⟩ : ∃ W9 : World, (w3.alloc (.cells #[.int .u64 (dig y 0 : Int), .int .u64 (dig y 1 : Int), .int .u64 (dig y 2 : Int), .int .u64 (dig y 3 : Int)] 93)) = W9 := ⟨_, rfl⟩
  rw [hlw] at hlb hlz
  have HLw4 := Lib.hid hlb
  have HXw4 := Lib.hid hlz
  clear hlb hlz
  have HB4 := Lib.hid (below_up HB3.out HLw4.out)
  have HX4 := Lib.hid (HX3.out.below HLw4.out HX3.out.lt)
  cases ba
  · go_wp2_with fail
    go_ret2
    exact ⟨rfl, HB4.out⟩
  · cases bb
    · go_wp2_with fail
      go_ret2
      exact ⟨rfl, HB4.out⟩
    · cases hno

set_option maxRecDepth 100000 in
set_option maxHeartbeats 400000 in
theorem reckon1_yes (G : GP) (ok : G.Ok) (gb b1 b2 b3 : Nat) (f : FuncId) (a b : ByteArray) (z : Nat) (hba : isSc G.q.m G.size a = true) (hbb : isSc G.q.m G.size b = true) (hent : Enters Try.prog f) (w : World) (hG : GroupAt w gb G)
    (hc1 : Bx w b1 9 [.string a]) (hc2 : Bx w b2 9 [.string b]) (hc3 : Bx w b3 110 [.func (.func f) #[] #[]])
    (hcall : ∀ w1, GroupAt w1 gb G → Calls Try.prog f #[.pointer (some ⟨gb, 0, none⟩), scV G (numOf a), scV G (numOf b)] w1 fun e w' => e = .returned (scV G z) ∧ Below w1.heap.size w1 w') :
    Calls Try.prog 119 #[.pointer (some ⟨gb, 0, none⟩), .pointer (some ⟨b1, 0, none⟩), .pointer (some ⟨b2, 0, none⟩), .pointer (some ⟨b3, 0, none⟩)] w (Ans (.string (textS (z % G.q.m) G.size)) 0 w) := by
  have HCALL := Lib.hid hcall
  clear hcall
  have hcf : ∀ (args : Array Value) (w : World), (callFunc f args).run Try.prog w = .ok (.enter f args) w := hent
  clear hent
  have HC3 := Lib.hid hc3
  clear hc3
  obtain ⟨ba, hba'⟩ : ∃ b, b = true := ⟨true, rfl⟩
  obtain ⟨bb, hbb'⟩ : ∃ b, b = true := ⟨true, rfl⟩
  have HT1 := Lib.hid hba'
  have HT2 := Lib.hid hbb'
  rw [← hba'] at hba
  rw [← hbb'] at hbb
  clear hba' hbb'
  have HA := Lib.hid hba
  have HBB := Lib.hid hbb
  have HC2 := Lib.hid hc2
  have hk1 := hc1.cell (i := 0) rfl
  clear hba hbb hc1 hc2
  have HG := Lib.hid hG
  have OK := Lib.hid ok
  clear hG ok
  go_enter Try.func119, Try.ntmps119
  go_wp2_with fail
  refine (gScalar_m G OK.out gb a ba HA.out w HG.out).mono ?_
  rintro e w1 ⟨x, rfl, hb1, hx⟩
  have HB1 := Lib.hid hb1
  have HX := Lib.hid hx
  clear hb1 hx
  unfold limbV
  have hlb : Below w1.heap.size w1 (w1.alloc (.cells #[.int .u64 (dig x 0 : Int), .int .u64 (dig x 1 : Int), .int .u64 (dig x 2 : Int), .int .u64 (dig x 3 : Int)] 93)) := (Below.refl _ _).alloc (Nat.le_refl _) _
  have hlz : Blk (w1.alloc (.cells #[.int .u64 (dig x 0 : Int), .int .u64 (dig x 1 : Int), .int .u64 (dig x 2 : Int), .int .u64 (dig x 3 : Int)] 93)) w1.heap.size 93 (lim x) := Blk.new _ _ _ _ rfl
  obtain ⟨w2, hlw⟩ : ∃ W9 : World, (w1.alloc (.cells #[.int .u64 (dig x 0 : Int), .int .u64 (dig x 1 : Int), .int .u64 (dig x 2 : Int), .int .u64 (dig x 3 : Int)] 93)) = W9 := ⟨_, rfl⟩
  rw [hlw] at hlb hlz
  have HLw2 := Lib.hid hlb
  have HXw2 := Lib.hid hlz
  clear hlb hlz
  have HB2 := Lib.hid (below_up HB1.out HLw2.out)
  have hk2 := (HC2.out.up HB2.out).cell (i := 0) rfl
  go_wp2_with fail
  refine (gScalar_m G OK.out gb b bb HBB.out w2 (HG.out.up HB2.out)).mono ?_
  rintro e w3 ⟨y, rfl, hb3, hy⟩
  have HB3 := Lib.hid (below_up HB2.out hb3)
  have HX3 := Lib.hid (HXw2.out.below hb3 HXw2.out.lt)
  have HY := Lib.hid hy
  clear hb3 hy hk1 hk2 hlw
  unfold limbV
  have hlb : Below w3.heap.size w3 (w3.alloc (.cells #[.int .u64 (dig y 0 : Int), .int .u64 (dig y 1 : Int), .int .u64 (dig y 2 : Int), .int .u64 (dig y 3 : Int)] 93)) := (Below.refl _ _).alloc (Nat.le_refl _) _
  have hlz : Blk (w3.alloc (.cells #[.int .u64 (dig y 0 : Int), .int .u64 (dig y 1 : Int), .int .u64 (dig y 2 : Int), .int .u64 (dig y 3 : Int)] 93)) w3.heap.size 93 (lim y) := Blk.new _ _ _ _ rfl
  obtain ⟨w4, hlw⟩ : ∃ W9 : World, (w3.alloc (.cells #[.int .u64 (dig y 0 : Int), .int .u64 (dig y 1 : Int), .int .u64 (dig y 2 : Int), .int .u64 (dig y 3 : Int)] 93)) = W9 := ⟨_, rfl⟩
  rw [hlw] at hlb hlz
  have HLw4 := Lib.hid hlb
  have HXw4 := Lib.hid hlz
  clear hlb hlz
  have HB4 := Lib.hid (below_up HB3.out HLw4.out)
  have HX4 := Lib.hid (HX3.out.below HLw4.out HX3.out.lt)
  obtain rfl := HT1.out
  obtain rfl := HT2.out
  have hk3 := (HC3.out.up HB4.out).cell (i := 0) rfl
  obtain rfl : x = mont G.q.m (numOf a) := HX.out rfl
  obtain rfl : y = mont G.q.m (numOf b) := HY.out rfl
  have hx_0 := HX4.out.cell (i := 0) (x := (dig (mont G.q.m (numOf a)) 0 : Int)) rfl
  have hx_1 := HX4.out.cell (i := 1) (x := (dig (mont G.q.m (numOf a)) 1 : Int)) rfl
  have hx_2 := HX4.out.cell (i := 2) (x := (dig (mont G.q.m (numOf a)) 2 : Int)) rfl
  have hx_3 := HX4.out.cell (i := 3) (x := (dig (mont G.q.m (numOf a)) 3 : Int)) rfl
  have hy_0 := HXw4.out.cell (i := 0) (x := (dig (mont G.q.m (numOf b)) 0 : Int)) rfl
  have hy_1 := HXw4.out.cell (i := 1) (x := (dig (mont G.q.m (numOf b)) 1 : Int)) rfl
  have hy_2 := HXw4.out.cell (i := 2) (x := (dig (mont G.q.m (numOf b)) 2 : Int)) rfl
  have hy_3 := HXw4.out.cell (i := 3) (x := (dig (mont G.q.m (numOf b)) 3 : Int)) rfl
  go_wp2_with fail
  refine (HCALL.out w4 (HG.out.up HB4.out)).mono ?_
  rintro e w5 ⟨rfl, hb5⟩
  have HB5 := Lib.hid (below_up HB4.out hb5)
  clear hb5
  go_wp2_with fail
  refine (gPut_any G OK.out gb z w5 (HG.out.up HB5.out)).mono ?_
  rintro e w6 ⟨rfl, hb6⟩
  have HB6 := Lib.hid (below_up HB5.out hb6)
  clear hb6
  go_wp2_with fail
  go_ret2
  exact ⟨rfl, HB6.out⟩


set_option maxRecDepth 100000 in
set_option maxHeartbeats 400000 in
theorem inv1_no (G : GP) (ok : G.Ok) (gb b1 : Nat) (a : ByteArray) (hba : isSc G.q.m G.size a = false) (w : World) (hG : GroupAt w gb G)
    (hc1 : Bx w b1 9 [.string a]) :
    Calls Try.prog 88 #[.pointer (some ⟨gb, 0, none⟩), .pointer (some ⟨b1, 0, none⟩)] w (Ans (.string ⟨#[]⟩) 6 w) := by
  have HA := Lib.hid hba
  have hk1 := hc1.cell (i := 0) rfl
  clear hba hc1
  have HG := Lib.hid hG
  have OK := Lib.hid ok
  clear hG ok
  go_enter Try.func88, Try.ntmps88
  go_wp2_with fail
  refine (gScalar_m G OK.out gb a _ HA.out w HG.out).mono ?_
  rintro e w1 ⟨x, rfl, hb1, hx⟩
  have HB1 := Lib.hid hb1
  have HX := Lib.hid hx
  clear hb1 hx
  unfold limbV
  have hlb : Below w1.heap.size w1 (w1.alloc (.cells #[.int .u64 (dig x 0 : Int), .int .u64 (dig x 1 : Int), .int .u64 (dig x 2 : Int), .int .u64 (dig x 3 : Int)] 93)) := (Below.refl _ _).alloc (Nat.le_refl _) _
  have hlz : Blk (w1.alloc (.cells #[.int .u64 (dig x 0 : Int), .int .u64 (dig x 1 : Int), .int .u64 (dig x 2 : Int), .int .u64 (dig x 3 : Int)] 93)) w1.heap.size 93 (lim x) := Blk.new _ _ _ _ rfl
  obtain ⟨w2, hlw⟩ : ∃ W9 : World, (w1.alloc (.cells #[.int .u64 (dig x 0 : Int), .int .u64 (dig x 1 : Int), .int .u64 (dig x 2 : Int), .int .u64 (dig x 3 : Int)] 93)) = W9 := ⟨_, rfl⟩
  rw [hlw] at hlb hlz
  have HLw2 := Lib.hid hlb
  have HXw2 := Lib.hid hlz
  clear hlb hlz
  have HB2 := Lib.hid (below_up HB1.out HLw2.out)
  go_wp2_with fail
  go_ret2
  exact ⟨rfl, HB2.out⟩

set_option maxRecDepth 100000 in
set_option maxHeartbeats 400000 in
theorem inv1_zero (G : GP) (ok : G.Ok) (gb b1 : Nat) (a : ByteArray) (hba : isSc G.q.m G.size a = true) (h0 : numOf a % G.q.m = 0) (w : World) (hG : GroupAt w gb G)
    (hc1 : Bx w b1 9 [.string a]) :
    Calls Try.prog 88 #[.pointer (some ⟨gb, 0, none⟩), .pointer (some ⟨b1, 0, none⟩)] w (Ans (.string ⟨#[]⟩) 5 w) := by
  have HD : Hid (decide (numOf a % G.q.m = 0) = true) := by show _ = _; simp [h0]
  clear h0
  have HA := Lib.hid hba
  have hk1 := hc1.cell (i := 0) rfl
  clear hba hc1
  have HG := Lib.hid hG
  have OK := Lib.hid ok
  clear hG ok
  go_enter Try.func88, Try.ntmps88
  go_wp2_with fail
  refine (gScalar_m G OK.out gb a _ HA.out w HG.out).mono ?_
  rintro e w1 ⟨x, rfl, hb1, hx⟩
  have HB1 := Lib.hid hb1
  have HX := Lib.hid hx
  clear hb1 hx
  unfold limbV
  have hlb : Below w1.heap.size w1 (w1.alloc (.cells #[.int .u64 (dig x 0 : Int), .int .u64 (dig x 1 : Int), .int .u64 (dig x 2 : Int), .int .u64 (dig x 3 : Int)] 93)) := (Below.refl _ _).alloc (Nat.le_refl _) _
  have hlz : Blk (w1.alloc (.cells #[.int .u64 (dig x 0 : Int), .int .u64 (dig x 1 : Int), .int .u64 (dig x 2 : Int), .int .u64 (dig x 3 : Int)] 93)) w1.heap.size 93 (lim x) := Blk.new _ _ _ _ rfl
  obtain ⟨w2, hlw⟩ : ∃ W9 : World, (w1.alloc (.cells #[.int .u64 (dig x 0 : Int), .int .u64 (dig x 1 : Int), .int .u64 (dig x 2 : Int), .int .u64 (dig x 3 : Int)] 93)) = W9 := ⟨_, rfl⟩
  rw [hlw] at hlb hlz
  have HLw2 := Lib.hid hlb
  have HXw2 := Lib.hid hlz
  clear hlb hlz
  have HB2 := Lib.hid (below_up HB1.out HLw2.out)
  obtain rfl : x = mont G.q.m (numOf a) := HX.out rfl
  have hx_0 := HXw2.out.cell (i := 0) (x := (dig (mont G.q.m (numOf a)) 0 : Int)) rfl
  have hx_1 := HXw2.out.cell (i := 1) (x := (dig (mont G.q.m (numOf a)) 1 : Int)) rfl
  have hx_2 := HXw2.out.cell (i := 2) (x := (dig (mont G.q.m (numOf a)) 2 : Int)) rfl
  have hx_3 := HXw2.out.cell (i := 3) (x := (dig (mont G.q.m (numOf a)) 3 : Int)) rfl
  go_wp2_with fail
  refine (gZero_any G OK.out (numOf a) w2).mono ?_
  rintro e w3 ⟨rfl, hb3⟩
  have HB3 := Lib.hid (below_up HB2.out hb3)
  rw [HD.out]
  go_wp2_with fail
  go_ret2
  exact ⟨rfl, HB3.out⟩

set_option maxRecDepth 100000 in
set_option maxHeartbeats 400000 in
theorem inv1_yes (G : GP) (ok : G.Ok) (gb b1 : Nat) (a : ByteArray) (hba : isSc G.q.m G.size a = true) (h0 : numOf a % G.q.m ≠ 0) (w : World) (hG : GroupAt w gb G)
    (hc1 : Bx w b1 9 [.string a]) :
    Calls Try.prog 88 #[.pointer (some ⟨gb, 0, none⟩), .pointer (some ⟨b1, 0, none⟩)] w (Ans (.string (textS (numOf a ^ (G.q.m - 2) % G.q.m) G.size)) 0 w) := by
  have HD : Hid (decide (numOf a % G.q.m = 0) = false) := by show _ = _; simp [h0]
  clear h0
  have HA := Lib.hid hba
  have hk1 := hc1.cell (i := 0) rfl
  clear hba hc1
  have HG := Lib.hid hG
  have OK := Lib.hid ok
  clear hG ok
  go_enter Try.func88, Try.ntmps88
  go_wp2_with fail
  refine (gScalar_m G OK.out gb a _ HA.out w HG.out).mono ?_
  rintro e w1 ⟨x, rfl, hb1, hx⟩
  have HB1 := Lib.hid hb1
  have HX := Lib.hid hx
  clear hb1 hx
  unfold limbV
  have hlb : Below w1.heap.size w1 (w1.alloc (.cells #[.int .u64 (dig x 0 : Int), .int .u64 (dig x 1 : Int), .int .u64 (dig x 2 : Int), .int .u64 (dig x 3 : Int)] 93)) := (Below.refl _ _).alloc (Nat.le_refl _) _
  have hlz : Blk (w1.alloc (.cells #[.int .u64 (dig x 0 : Int), .int .u64 (dig x 1 : Int), .int .u64 (dig x 2 : Int), .int .u64 (dig x 3 : Int)] 93)) w1.heap.size 93 (lim x) := Blk.new _ _ _ _ rfl
  obtain ⟨w2, hlw⟩ : ∃ W9 : World, (w1.alloc (.cells #[.int .u64 (dig x 0 : Int), .int .u64 (dig x 1 : Int), .int .u64 (dig x 2 : Int), .int .u64 (dig x 3 : Int)] 93)) = W9 := ⟨_, rfl⟩
  rw [hlw] at hlb hlz
  have HLw2 := Lib.hid hlb
  have HXw2 := Lib.hid hlz
  clear hlb hlz
  have HB2 := Lib.hid (below_up HB1.out HLw2.out)
  obtain rfl : x = mont G.q.m (numOf a) := HX.out rfl
  have HX2 := HXw2
  have hx_0 := HXw2.out.cell (i := 0) (x := (dig (mont G.q.m (numOf a)) 0 : Int)) rfl
  have hx_1 := HXw2.out.cell (i := 1) (x := (dig (mont G.q.m (numOf a)) 1 : Int)) rfl
  have hx_2 := HXw2.out.cell (i := 2) (x := (dig (mont G.q.m (numOf a)) 2 : Int)) rfl
  have hx_3 := HXw2.out.cell (i := 3) (x := (dig (mont G.q.m (numOf a)) 3 : Int)) rfl
  go_wp2_with fail
  refine (gZero_any G OK.out (numOf a) w2).mono ?_
  rintro e w3 ⟨rfl, hb3⟩
  have HB3 := Lib.hid (below_up HB2.out hb3)
  have HX3 := Lib.hid (HX2.out.below hb3 HX2.out.lt)
  clear hb3 hx_0 hx_1 hx_2 hx_3
  have hx_0 := HX3.out.cell (i := 0) (x := (dig (mont G.q.m (numOf a)) 0 : Int)) rfl
  have hx_1 := HX3.out.cell (i := 1) (x := (dig (mont G.q.m (numOf a)) 1 : Int)) rfl
  have hx_2 := HX3.out.cell (i := 2) (x := (dig (mont G.q.m (numOf a)) 2 : Int)) rfl
  have hx_3 := HX3.out.cell (i := 3) (x := (dig (mont G.q.m (numOf a)) 3 : Int)) rfl
  rw [HD.out]
  go_wp2_with fail
  refine (gInv_any G OK.out gb (numOf a) w3 (HG.out.up HB3.out)).mono ?_
  rintro e w5 ⟨rfl, hb5⟩
  have HB5 := Lib.hid (below_up HB3.out hb5)
  clear hb5
  go_wp2_with fail
  refine (gPut_any G OK.out gb _ w5 (HG.out.up HB5.out)).mono ?_
  rintro e w6 ⟨rfl, hb6⟩
  have HB6 := Lib.hid (below_up HB5.out hb6)
  clear hb6
  go_wp2_with fail
  go_ret2
  exact ⟨rfl, HB6.out⟩

set_option maxRecDepth 100000 in
set_option maxHeartbeats 400000 in
theorem times1_no (G : GP) (ok : G.Ok) (gb b1 b2 : Nat) (a b : ByteArray) (ba bb : Bool) (hba : isEl G.q.m G.size a = ba) (hbb : isEl G.q.m G.size b = bb) (hno : (ba && bb) = false) (w : World) (hG : GroupAt w gb G)
    (hc1 : Bx w b1 9 [.string a]) (hc2 : Bx w b2 9 [.string b]) :
    Calls Try.prog 98 #[.pointer (some ⟨gb, 0, none⟩), .pointer (some ⟨b1, 0, none⟩), .pointer (some ⟨b2, 0, none⟩)] w (Ans (.string ⟨#[]⟩) 7 w) := by
  have HA := Lib.hid hba
  have HBB := Lib.hid hbb
  have HC2 := Lib.hid hc2
  have hk1 := hc1.cell (i := 0) rfl
  clear hba hbb hc1 hc2
  have HG := Lib.hid hG
  have OK := Lib.hid ok
  clear hG ok
  go_enter Try.func98, Try.ntmps98
  go_wp2_with fail
  refine (gElem_m G OK.out gb a ba HA.out w HG.out).mono ?_
  rintro e w1 ⟨x, rfl, hb1, hx⟩
  have HB1 := Lib.hid hb1
  have HX := Lib.hid hx
  clear hb1 hx
  unfold limbV
  have hlb : Below w1.heap.size w1 (w1.alloc (.cells #[.int .u64 (dig x 0 : Int), .int .u64 (dig x 1 : Int), .int .u64 (dig x 2 : Int), .int .u64 (dig x 3 : Int)] 88)) := (Below.refl _ _).alloc (Nat.le_refl _) _
  have hlz : Blk (w1.alloc (.cells #[.int .u64 (dig x 0 : Int), .int .u64 (dig x 1 : Int), .int .u64 (dig x 2 : Int), .int .u64 (dig x 3 : Int)] 88)) w1.heap.size 88 (lim x) := Blk.new _ _ _ _ rfl
  obtain ⟨w2, hlw⟩ : ∃ W9 : World, (w1.alloc (.cells #[.int .u64 (dig x 0 : Int), .int .u64 (dig x 1 : Int), .int .u64 (dig x 2 : Int), .int .u64 (dig x 3 : Int)] 88)) = W9 := ⟨_, rfl⟩
  rw [hlw] at hlb hlz
  have HLw2 := Lib.hid hlb
  have HXw2 := Lib.hid hlz
  clear hlb hlz
  have HB2 := Lib.hid (below_up HB1.out HLw2.out)
  have hk2 := (HC2.out.up HB2.out).cell (i := 0) rfl
  go_wp2_with fail
  refine (gElem_m G OK.out gb b bb HBB.out w2 (HG.out.up HB2.out)).mono ?_
  rintro e w3 ⟨y, rfl, hb3, hy⟩
  have HB3 := Lib.hid (below_up HB2.out hb3)
  have HX3 := Lib.hid (HXw2.out.below hb3 HXw2.out.lt)
  have HY := Lib.hid hy
  clear hb3 hy hk1 hk2 hlw
  unfold limbV
  have hlb : Below w3.heap.size w3 (w3.alloc (.cells #[.int .u64 (dig y 0 : Int), .int .u64 (dig y 1 : Int), .int .u64 (dig y 2 : Int), .int .u64 (dig y 3 : Int)] 88)) := (Below.refl _ _).alloc (Nat.le_refl _) _
  have hlz : Blk (w3.alloc (.cells #[.int .u64 (dig y 0 : Int), .int .u64 (dig y 1 : Int), .int .u64 (dig y 2 : Int), .int .u64 (dig y 3 : Int)] 88)) w3.heap.size 88 (lim y) := Blk.new _ _ _ _ rfl
  obtain ⟨w4, hlw⟩ : ∃ W9 : World, (w3.alloc (.cells #[.int .u64 (dig y 0 : Int), .int .u64 (dig y 1 : Int), .int .u64 (dig y 2 : Int), .int .u64 (dig y 3 : Int)] 88)) = W9 := ⟨_, rfl⟩
  rw [hlw] at hlb hlz
  have HLw4 := Lib.hid hlb
  have HXw4 := Lib.hid hlz
  clear hlb hlz
  have HB4 := Lib.hid (below_up HB3.out HLw4.out)
  have HX4 := Lib.hid (HX3.out.below HLw4.out HX3.out.lt)
  cases ba
  · go_wp2_with fail
    go_ret2
    exact ⟨rfl, HB4.out⟩
  · cases bb
    · go_wp2_with fail
      go_ret2
      exact ⟨rfl, HB4.out⟩
    · cases hno

set_option maxRecDepth 100000 in
set_option maxHeartbeats 400000 in
theorem times1_yes (G : GP) (ok : G.Ok) (gb b1 b2 : Nat) (a b : ByteArray) (hba : isEl G.q.m G.size a = true) (hbb : isEl G.q.m G.size b = true) (w : World) (hG : GroupAt w gb G)
    (hc1 : Bx w b1 9 [.string a]) (hc2 : Bx w b2 9 [.string b]) :
    Calls Try.prog 98 #[.pointer (some ⟨gb, 0, none⟩), .pointer (some ⟨b1, 0, none⟩), .pointer (some ⟨b2, 0, none⟩)] w (Ans (.string (textS (lowN G (numOf a * numOf b)) G.size)) 0 w) := by
  obtain ⟨ba, hba'⟩ : ∃ b, b = true := ⟨true, rfl⟩
  obtain ⟨bb, hbb'⟩ : ∃ b, b = true := ⟨true, rfl⟩
  have HT1 := Lib.hid hba'
  have HT2 := Lib.hid hbb'
  rw [← hba'] at hba
  rw [← hbb'] at hbb
  clear hba' hbb'
  have HA := Lib.hid hba
  have HBB := Lib.hid hbb
  have HC2 := Lib.hid hc2
  have hk1 := hc1.cell (i := 0) rfl
  clear hba hbb hc1 hc2
  have HG := Lib.hid hG
  have OK := Lib.hid ok
  clear hG ok
  go_enter Try.func98, Try.ntmps98
  go_wp2_with fail
  refine (gElem_m G OK.out gb a ba HA.out w HG.out).mono ?_
  rintro e w1 ⟨x, rfl, hb1, hx⟩
  have HB1 := Lib.hid hb1
  have HX := Lib.hid hx
  clear hb1 hx
  unfold limbV
  have hlb : Below w1.heap.size w1 (w1.alloc (.cells #[.int .u64 (dig x 0 : Int), .int .u64 (dig x 1 : Int), .int .u64 (dig x 2 : Int), .int .u64 (dig x 3 : Int)] 88)) := (Below.refl _ _).alloc (Nat.le_refl _) _
  have hlz : Blk (w1.alloc (.cells #[.int .u64 (dig x 0 : Int), .int .u64 (dig x 1 : Int), .int .u64 (dig x 2 : Int), .int .u64 (dig x 3 : Int)] 88)) w1.heap.size 88 (lim x) := Blk.new _ _ _ _ rfl
  obtain ⟨w2, hlw⟩ : ∃ W9 : World, (w1.alloc (.cells #[.int .u64 (dig x 0 : Int), .int .u64 (dig x 1 : Int), .int .u64 (dig x 2 : Int), .int .u64 (dig x 3 : Int)] 88)) = W9 := ⟨_, rfl⟩
  rw [hlw] at hlb hlz
  have HLw2 := Lib.hid hlb
  have HXw2 := Lib.hid hlz
  clear hlb hlz
  have HB2 := Lib.hid (below_up HB1.out HLw2.out)
  have hk2 := (HC2.out.up HB2.out).cell (i := 0) rfl
  go_wp2_with fail
  refine (gElem_m G OK.out gb b bb HBB.out w2 (HG.out.up HB2.out)).mono ?_
  rintro e w3 ⟨y, rfl, hb3, hy⟩
  have HB3 := Lib.hid (below_up HB2.out hb3)
  have HX3 := Lib.hid (HXw2.out.below hb3 HXw2.out.lt)
  have HY := Lib.hid hy
  clear hb3 hy hk1 hk2 hlw
  unfold limbV
  have hlb : Below w3.heap.size w3 (w3.alloc (.cells #[.int .u64 (dig y 0 : Int), .int .u64 (dig y 1 : Int), .int .u64 (dig y 2 : Int), .int .u64 (dig y 3 : Int)] 88)) := (Below.refl _ _).alloc (Nat.le_refl _) _
  have hlz : Blk (w3.alloc (.cells #[.int .u64 (dig y 0 : Int), .int .u64 (dig y 1 : Int), .int .u64 (dig y 2 : Int), .int .u64 (dig y 3 : Int)] 88)) w3.heap.size 88 (lim y) := Blk.new _ _ _ _ rfl
  obtain ⟨w4, hlw⟩ : ∃ W9 : World, (w3.alloc (.cells #[.int .u64 (dig y 0 : Int), .int .u64 (dig y 1 : Int), .int .u64 (dig y 2 : Int), .int .u64 (dig y 3 : Int)] 88)) = W9 := ⟨_, rfl⟩
  rw [hlw] at hlb hlz
  have HLw4 := Lib.hid hlb
  have HXw4 := Lib.hid hlz
  clear hlb hlz
  have HB4 := Lib.hid (below_up HB3.out HLw4.out)
  have HX4 := Lib.hid (HX3.out.below HLw4.out HX3.out.lt)
  obtain rfl := HT1.out
  obtain rfl := HT2.out
  obtain rfl : x = mont G.p.m (numOf a) := HX.out rfl
  obtain rfl : y = mont G.p.m (numOf b) := HY.out rfl
  have hx_0 := HX4.out.cell (i := 0) (x := (dig (mont G.p.m (numOf a)) 0 : Int)) rfl
  have hx_1 := HX4.out.cell (i := 1) (x := (dig (mont G.p.m (numOf a)) 1 : Int)) rfl
  have hx_2 := HX4.out.cell (i := 2) (x := (dig (mont G.p.m (numOf a)) 2 : Int)) rfl
  have hx_3 := HX4.out.cell (i := 3) (x := (dig (mont G.p.m (numOf a)) 3 : Int)) rfl
  have hy_0 := HXw4.out.cell (i := 0) (x := (dig (mont G.p.m (numOf b)) 0 : Int)) rfl
  have hy_1 := HXw4.out.cell (i := 1) (x := (dig (mont G.p.m (numOf b)) 1 : Int)) rfl
  have hy_2 := HXw4.out.cell (i := 2) (x := (dig (mont G.p.m (numOf b)) 2 : Int)) rfl
  have hy_3 := HXw4.out.cell (i := 3) (x := (dig (mont G.p.m (numOf b)) 3 : Int)) rfl
  go_wp2_with fail
  refine (gTimes_any G OK.out gb (numOf a) (numOf b) w4 (HG.out.up HB4.out)).mono ?_
  rintro e w5 ⟨rfl, hb5⟩
  have HB5 := Lib.hid (below_up HB4.out hb5)
  clear hb5
  go_wp2_with fail
  refine (gText_any G OK.out gb _ w5 (HG.out.up HB5.out)).mono ?_
  rintro e w6 ⟨rfl, hb6⟩
  have HB6 := Lib.hid (below_up HB5.out hb6)
  clear hb6
  go_wp2_with fail
  go_ret2
  exact ⟨rfl, HB6.out⟩

set_option maxRecDepth 100000 in
set_option maxHeartbeats 400000 in
theorem under1_no (G : GP) (ok : G.Ok) (gb b1 : Nat) (a : ByteArray) (hba : isEl G.q.m G.size a = false) (w : World) (hG : GroupAt w gb G)
    (hc1 : Bx w b1 9 [.string a]) :
    Calls Try.prog 99 #[.pointer (some ⟨gb, 0, none⟩), .pointer (some ⟨b1, 0, none⟩)] w (Ans (.string ⟨#[]⟩) 7 w) := by
  have HA := Lib.hid hba
  have hk1 := hc1.cell (i := 0) rfl
  clear hba hc1
  have HG := Lib.hid hG
  have OK := Lib.hid ok
  clear hG ok
  go_enter Try.func99, Try.ntmps99
  go_wp2_with fail
  refine (gElem_m G OK.out gb a _ HA.out w HG.out).mono ?_
  rintro e w1 ⟨x, rfl, hb1, hx⟩
  have HB1 := Lib.hid hb1
  have HX := Lib.hid hx
  clear hb1 hx
  unfold limbV
  have hlb : Below w1.heap.size w1 (w1.alloc (.cells #[.int .u64 (dig x 0 : Int), .int .u64 (dig x 1 : Int), .int .u64 (dig x 2 : Int), .int .u64 (dig x 3 : Int)] 88)) := (Below.refl _ _).alloc (Nat.le_refl _) _
  have hlz : Blk (w1.alloc (.cells #[.int .u64 (dig x 0 : Int), .int .u64 (dig x 1 : Int), .int .u64 (dig x 2 : Int), .int .u64 (dig x 3 : Int)] 88)) w1.heap.size 88 (lim x) := Blk.new _ _ _ _ rfl
  obtain ⟨w2, hlw⟩ : ∃ W9 : World, (w1.alloc (.cells #[.int .u64 (dig x 0 : Int), .int .u64 (dig x 1 : Int), .int .u64 (dig x 2 : Int), .int .u64 (dig x 3 : Int)] 88)) = W9 := ⟨_, rfl⟩
  rw [hlw] at hlb hlz
  have HLw2 := Lib.hid hlb
  have HXw2 := Lib.hid hlz
  clear hlb hlz
  have HB2 := Lib.hid (below_up HB1.out HLw2.out)
  go_wp2_with fail
  go_ret2
  exact ⟨rfl, HB2.out⟩

set_option maxRecDepth 100000 in
set_option maxHeartbeats 400000 in
theorem under1_yes (G : GP) (ok : G.Ok) (gb b1 : Nat) (a : ByteArray) (hba : isEl G.q.m G.size a = true) (w : World) (hG : GroupAt w gb G)
    (hc1 : Bx w b1 9 [.string a]) :
    Calls Try.prog 99 #[.pointer (some ⟨gb, 0, none⟩), .pointer (some ⟨b1, 0, none⟩)] w (Ans (.string (textS (lowN G (numOf a ^ (G.p.m - 2))) G.size)) 0 w) := by
  have HA := Lib.hid hba
  have hk1 := hc1.cell (i := 0) rfl
  clear hba hc1
  have HG := Lib.hid hG
  have OK := Lib.hid ok
  clear hG ok
  go_enter Try.func99, Try.ntmps99
  go_wp2_with fail
  refine (gElem_m G OK.out gb a _ HA.out w HG.out).mono ?_
  rintro e w1 ⟨x, rfl, hb1, hx⟩
  have HB1 := Lib.hid hb1
  have HX := Lib.hid hx
  clear hb1 hx
  unfold limbV
  have hlb : Below w1.heap.size w1 (w1.alloc (.cells #[.int .u64 (dig x 0 : Int), .int .u64 (dig x 1 : Int), .int .u64 (dig x 2 : Int), .int .u64 (dig x 3 : Int)] 88)) := (Below.refl _ _).alloc (Nat.le_refl _) _
  have hlz : Blk (w1.alloc (.cells #[.int .u64 (dig x 0 : Int), .int .u64 (dig x 1 : Int), .int .u64 (dig x 2 : Int), .int .u64 (dig x 3 : Int)] 88)) w1.heap.size 88 (lim x) := Blk.new _ _ _ _ rfl
  obtain ⟨w2, hlw⟩ : ∃ W9 : World, (w1.alloc (.cells #[.int .u64 (dig x 0 : Int), .int .u64 (dig x 1 : Int), .int .u64 (dig x 2 : Int), .int .u64 (dig x 3 : Int)] 88)) = W9 := ⟨_, rfl⟩
  rw [hlw] at hlb hlz
  have HLw2 := Lib.hid hlb
  have HXw2 := Lib.hid hlz
  clear hlb hlz
  have HB2 := Lib.hid (below_up HB1.out HLw2.out)
  obtain rfl : x = mont G.p.m (numOf a) := HX.out rfl
  have hx_0 := HXw2.out.cell (i := 0) (x := (dig (mont G.p.m (numOf a)) 0 : Int)) rfl
  have hx_1 := HXw2.out.cell (i := 1) (x := (dig (mont G.p.m (numOf a)) 1 : Int)) rfl
  have hx_2 := HXw2.out.cell (i := 2) (x := (dig (mont G.p.m (numOf a)) 2 : Int)) rfl
  have hx_3 := HXw2.out.cell (i := 3) (x := (dig (mont G.p.m (numOf a)) 3 : Int)) rfl
  go_wp2_with fail
  refine (gUnder_any G OK.out gb (numOf a) w2 (HG.out.up HB2.out)).mono ?_
  rintro e w5 ⟨rfl, hb5⟩
  have HB5 := Lib.hid (below_up HB2.out hb5)
  clear hb5
  go_wp2_with fail
  refine (gText_any G OK.out gb _ w5 (HG.out.up HB5.out)).mono ?_
  rintro e w6 ⟨rfl, hb6⟩
  have HB6 := Lib.hid (below_up HB5.out hb6)
  clear hb6
  go_wp2_with fail
  go_ret2
  exact ⟨rfl, HB6.out⟩

end Go.Proofs.Ytdmldnpadojflaa
