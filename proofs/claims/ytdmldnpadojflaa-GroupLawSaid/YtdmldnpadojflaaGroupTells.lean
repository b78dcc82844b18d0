/- The package group: what a kind has. No condition. -/
import Derived.Test.YtdmldnpadojflaaGroupWith
namespace Go.Proofs.Ytdmldnpadojflaa
open Go.RowKit

set_option maxRecDepth 100000 in
set_option maxHeartbeats 1000000 in
theorem fixed1_any (gb b : Nat) (f : FuncId) (caps : Array Value) (s : ByteArray) (hent : Enters Try.prog f) (w : World) (hc : w.cell? ⟨b, 0, none⟩ = some (.func (.func f) #[] caps))
    (hcall : Calls Try.prog f (#[.pointer (some ⟨gb, 0, none⟩)] ++ caps) w fun e w' => e = .returned (.string s) ∧ Below w.heap.size w w') :
    Calls Try.prog 105 #[.pointer (some ⟨gb, 0, none⟩), .pointer (some ⟨b, 0, none⟩)] w (Ans (.string s) 0 w) := by
  have HC := Lib.hid hcall
  clear hcall
  have hcf : ∀ (args : Array Value) (w : World), (callFunc f args).run Try.prog w = .ok (.enter f args) w := hent
  clear hent
  go_enter Try.func105, Try.ntmps105
  go_wp2_with fail
  refine HC.out.mono ?_
  rintro e w2 ⟨rfl, hb2⟩
  have HB2 := Lib.hid hb2
  clear hb2 hc
  go_wp2_with fail
  go_ret2
  exact ⟨rfl, HB2.out⟩

set_option maxRecDepth 100000 in
set_option maxHeartbeats 1000000 in
theorem fixed_some (k : Nat) (h1 : 1 ≤ k) (h3 : k ≤ 3) (f : FuncId) (caps : Array Value) (s : ByteArray) (hent : Enters Try.prog f) (w : World)
    (hcall : ∀ w1 gb, Below w.heap.size w w1 → GroupAt w1 gb (grp k) → Calls Try.prog f (#[.pointer (some ⟨gb, 0, none⟩)] ++ caps) w1 fun e w' => e = .returned (.string s) ∧ Below w1.heap.size w1 w') :
    Calls Try.prog 64 #[.int .i64 (k : Int), .func (.func f) #[] caps] w (Ans (.string s) 0 w) := by
  have HC := Lib.hid hcall
  have HE := Lib.hid hent
  clear hcall hent
  go_enter Try.func64, Try.ntmps64
  go_wp2_with fail
  have hb0 : Below w.heap.size w (w.alloc (.cells #[.func (.func f) #[] caps] 83)) := (Below.refl _ _).alloc (Nat.le_refl _) _
  have hz0 : Bx (w.alloc (.cells #[.func (.func f) #[] caps] 83)) w.heap.size 83 [.func (.func f) #[] caps] := Bx.new w _ _ _ rfl
  obtain ⟨W0, hW0⟩ : ∃ W9 : World, (w.alloc (.cells #[.func (.func f) #[] caps] 83)) = W9 := ⟨_, rfl⟩
  rw [hW0] at hb0 hz0 ⊢
  have HB0 := Lib.hid hb0
  have HZ0 := Lib.hid hz0
  clear hW0 hb0 hz0
  refine (withS_some k h1 h3 105 #[.pointer (some ⟨w.heap.size, 0, none⟩)] (.string s) 0 (enters_of Try.func105 (by kernel_rfl) rfl) W0 (fun w1 hb hg => ?_)).mono ?_
  · exact fixed1_any _ _ f caps s HE.out w1 ((HZ0.out.up hb).cell (i := 0) rfl) (HC.out w1 _ (below_up HB0.out hb) hg)
  · rintro e w2 ⟨rfl, hb2⟩
    have HB2 := Lib.hid (below_up HB0.out hb2)
    clear hb2
    go_wp2_with fail
    go_ret2
    exact ⟨rfl, HB2.out⟩

set_option maxRecDepth 100000 in
set_option maxHeartbeats 1000000 in
theorem fixed_none (k : Int) (hk : ¬ (1 ≤ k ∧ k ≤ 3)) (f : FuncId) (caps : Array Value) (w : World) : Calls Try.prog 64 #[.int .i64 k, .func (.func f) #[] caps] w (Ans (.string ⟨#[]⟩) 1 w) := by
  go_enter Try.func64, Try.ntmps64
  go_wp2_with fail
  refine (withS_none k hk _ _).mono ?_
  rintro e w1 ⟨rfl, hb⟩
  have HB := Lib.hid (((Below.refl w.heap.size w).alloc (Nat.le_refl _) _).trans (hb.mono (by simp)))
  clear hb
  go_wp2_with fail
  go_ret2
  exact ⟨rfl, HB.out⟩


set_option maxRecDepth 100000 in
set_option maxHeartbeats 1000000 in
theorem Order_some (k : Nat) (h1 : 1 ≤ k) (h3 : k ≤ 3) (w : World) : Calls Try.prog 15 #[.int .i64 (k : Int)] w (Ans (.string (textS (grp k).q.m (grp k).size)) 0 w) := by
  go_enter Try.func15, Try.ntmps15
  go_wp2_with fail
  refine (fixed_some k h1 h3 65 #[] ((textS (grp k).q.m (grp k).size)) (enters_of Try.func65 (by kernel_rfl) rfl) w (fun w1 gb hb hg => gOrder_any (grp k) (grp_ok k h1 h3) gb w1 hg)).mono ?_
  rintro e w2 ⟨rfl, hb2⟩
  have HB2 := Lib.hid hb2
  clear hb2
  go_wp2_with fail
  go_ret2
  exact ⟨rfl, HB2.out⟩

set_option maxRecDepth 100000 in
set_option maxHeartbeats 1000000 in
theorem Order_none (k : Int) (hk : ¬ (1 ≤ k ∧ k ≤ 3)) (w : World) : Calls Try.prog 15 #[.int .i64 k] w (Ans (.string ⟨#[]⟩) 1 w) := by
  go_enter Try.func15, Try.ntmps15
  go_wp2_with fail
  refine (fixed_none k hk _ _ w).mono ?_
  rintro e w2 ⟨rfl, hb2⟩
  have HB2 := Lib.hid hb2
  clear hb2
  go_wp2_with fail
  go_ret2
  exact ⟨rfl, HB2.out⟩

set_option maxRecDepth 100000 in
set_option maxHeartbeats 1000000 in
theorem Prime_some (k : Nat) (h1 : 1 ≤ k) (h3 : k ≤ 3) (w : World) : Calls Try.prog 16 #[.int .i64 (k : Int)] w (Ans (.string (textS (grp k).p.m (grp k).size)) 0 w) := by
  go_enter Try.func16, Try.ntmps16
  go_wp2_with fail
  refine (fixed_some k h1 h3 66 #[] ((textS (grp k).p.m (grp k).size)) (enters_of Try.func66 (by kernel_rfl) rfl) w (fun w1 gb hb hg => gPrime_any (grp k) (grp_ok k h1 h3) gb w1 hg)).mono ?_
  rintro e w2 ⟨rfl, hb2⟩
  have HB2 := Lib.hid hb2
  clear hb2
  go_wp2_with fail
  go_ret2
  exact ⟨rfl, HB2.out⟩

set_option maxRecDepth 100000 in
set_option maxHeartbeats 1000000 in
theorem Prime_none (k : Int) (hk : ¬ (1 ≤ k ∧ k ≤ 3)) (w : World) : Calls Try.prog 16 #[.int .i64 k] w (Ans (.string ⟨#[]⟩) 1 w) := by
  go_enter Try.func16, Try.ntmps16
  go_wp2_with fail
  refine (fixed_none k hk _ _ w).mono ?_
  rintro e w2 ⟨rfl, hb2⟩
  have HB2 := Lib.hid hb2
  clear hb2
  go_wp2_with fail
  go_ret2
  exact ⟨rfl, HB2.out⟩

set_option maxHeartbeats 1000000 in
theorem base1_any (G : GP) (ok : G.Ok) (gb : Nat) (w : World) (hG : GroupAt w gb G) : Calls Try.prog 67 #[.pointer (some ⟨gb, 0, none⟩)] w fun e w' => e = .returned (.string (textS (lowN G 2) G.size)) ∧ Below w.heap.size w w' := by
  have HG := Lib.hid hG
  have OK := Lib.hid ok
  clear hG ok
  go_enter Try.func67, Try.ntmps67
  go_wp2_with fail
  refine (gBase_any G OK.out gb w HG.out).mono ?_
  rintro e w1 ⟨rfl, hb1⟩
  have HB1 := Lib.hid hb1
  clear hb1
  go_wp2_with fail
  refine (gText_any G OK.out gb 2 w1 (HG.out.up HB1.out)).mono ?_
  rintro e w2 ⟨rfl, hb2⟩
  have HB2 := Lib.hid (below_up HB1.out hb2)
  clear hb2
  go_wp2_with fail
  go_ret
  exact ⟨rfl, HB2.out⟩

theorem low2 (k : Nat) (h1 : 1 ≤ k) (h3 : k ≤ 3) : lowN (grp k) 2 = 2 := by
  obtain rfl | rfl | rfl : k = 1 ∨ k = 2 ∨ k = 3 := by omega
  all_goals decide

set_option maxRecDepth 100000 in
set_option maxHeartbeats 1000000 in
theorem Base_some (k : Nat) (h1 : 1 ≤ k) (h3 : k ≤ 3) (w : World) : Calls Try.prog 19 #[.int .i64 (k : Int)] w (Ans (.string (textS 2 (grp k).size)) 0 w) := by
  go_enter Try.func19, Try.ntmps19
  go_wp2_with fail
  refine (fixed_some k h1 h3 67 #[] ((textS 2 (grp k).size)) (enters_of Try.func67 (by kernel_rfl) rfl) w (fun w1 gb hb hg => by rw [← low2 k h1 h3]; exact base1_any (grp k) (grp_ok k h1 h3) gb w1 hg)).mono ?_
  rintro e w2 ⟨rfl, hb2⟩
  have HB2 := Lib.hid hb2
  clear hb2
  go_wp2_with fail
  go_ret2
  exact ⟨rfl, HB2.out⟩

set_option maxRecDepth 100000 in
set_option maxHeartbeats 1000000 in
theorem Base_none (k : Int) (hk : ¬ (1 ≤ k ∧ k ≤ 3)) (w : World) : Calls Try.prog 19 #[.int .i64 k] w (Ans (.string ⟨#[]⟩) 1 w) := by
  go_enter Try.func19, Try.ntmps19
  go_wp2_with fail
  refine (fixed_none k hk _ _ w).mono ?_
  rintro e w2 ⟨rfl, hb2⟩
  have HB2 := Lib.hid hb2
  clear hb2
  go_wp2_with fail
  go_ret2
  exact ⟨rfl, HB2.out⟩

set_option maxHeartbeats 1000000 in
theorem sizes1_any (G : GP) (gb : Nat) (w : World) (hG : GroupAt w gb G) : Calls Try.prog 63 #[.pointer (some ⟨gb, 0, none⟩)] w (Ans (.int .i64 (G.size : Int)) 0 w) := by
  have hgs := hG.size
  have hgl := hG.lt
  go_enter Try.func63, Try.ntmps63
  go_wp2_with fail
  go_ret2
  exact ⟨rfl, Below.refl _ _⟩

def Ans3 (a b c : Int) (w : World) (e : Ending) (w' : World) : Prop := e = .returned (.tuple #[.int .i64 a, .int .i64 b, .int .i64 c]) ∧ Below w.heap.size w w'

set_option maxHeartbeats 1000000 in
theorem Sizes_some (k : Nat) (h1 : 1 ≤ k) (h3 : k ≤ 3) (w : World) : Calls Try.prog 14 #[.int .i64 (k : Int)] w (Ans3 (grp k).size (grp k).size 0 w) := by
  go_enter Try.func14, Try.ntmps14
  go_wp2_with fail
  refine (withI_some k h1 h3 63 #[] (.int .i64 ((grp k).size : Int)) 0 (enters_of Try.func63 (by kernel_rfl) rfl) w (fun w1 hb hg => sizes1_any (grp k) _ w1 hg)).mono ?_
  rintro e w2 ⟨rfl, hb2⟩
  have HB2 := Lib.hid hb2
  clear hb2
  go_wp2_with fail
  go_ret3
  exact ⟨rfl, HB2.out⟩

set_option maxHeartbeats 1000000 in
theorem Sizes_none (k : Int) (hk : ¬ (1 ≤ k ∧ k ≤ 3)) (w : World) : Calls Try.prog 14 #[.int .i64 k] w (Ans3 0 0 1 w) := by
  go_enter Try.func14, Try.ntmps14
  go_wp2_with fail
  refine (withI_none k hk _ w).mono ?_
  rintro e w2 ⟨rfl, hb2⟩
  have HB2 := Lib.hid hb2
  clear hb2
  go_wp2_with fail
  go_ret3
  exact ⟨rfl, HB2.out⟩

set_option maxHeartbeats 1000000 in
theorem lawText_ok (s : ByteArray) (w : World) : Calls Try.prog 17 #[.string s, .int .i64 0, .int .i64 0, .string s] w fun e w' => e = .returned (.bool true) ∧ Below w.heap.size w w' := by
  go_enter Try.func17, Try.ntmps17
  go_wp2_with fail
  go_ret
  exact ⟨rfl, Below.refl _ _⟩

set_option maxHeartbeats 1000000 in
theorem lawText_err (s : ByteArray) (er : Int) (he : er ≠ 0) (w : World) : Calls Try.prog 17 #[.string ⟨#[]⟩, .int .i64 er, .int .i64 er, .string s] w fun e w' => e = .returned (.bool true) ∧ Below w.heap.size w w' := by
  have h1 : (er != 0) = true := by simpa using he
  go_enter Try.func17, Try.ntmps17
  go_wp2_with fail
  go_ret
  exact ⟨rfl, Below.refl _ _⟩

end Go.Proofs.Ytdmldnpadojflaa
