/- The package group: with. No condition. -/
import Derived.Test.YtdmldnpadojflaaRefText
import Derived.Shelf.Abstract
namespace Go.Proofs.Ytdmldnpadojflaa
open Go.RowKit

/-- What a face of the group answers: a value and an errno. -/
def Ans (v : Value) (er : Int) (w : World) (e : Ending) (w' : World) : Prop := e = .returned (.tuple #[v, .int .i64 er]) ∧ Below w.heap.size w w'


set_option maxRecDepth 100000 in
set_option maxHeartbeats 1000000 in
theorem withS_none (k : Int) (hk : ¬ (1 ≤ k ∧ k ≤ 3)) (fv : Value) (w : World) : Calls Try.prog 70 #[.int .i64 k, fv] w (Ans (.string ⟨#[]⟩) 1 w) := by
  go_enter Try.func70, Try.ntmps70
  go_wp2_with fail
  refine (of_none k hk w).mono ?_
  rintro e w1 ⟨rfl, rfl⟩
  go_wp2_with fail
  go_ret2
  exact ⟨rfl, Below.refl _ _⟩

set_option maxRecDepth 100000 in
set_option maxHeartbeats 1000000 in
theorem withS_some (k : Nat) (h1 : 1 ≤ k) (h3 : k ≤ 3) (f : FuncId) (caps : Array Value) (v : Value) (er : Int) (hent : Enters Try.prog f) (w : World)
    (hcall : ∀ w1, Below w.heap.size w w1 → GroupAt w1 w.heap.size (grp k) → Calls Try.prog f (#[.pointer (some ⟨w.heap.size, 0, none⟩)] ++ caps) w1 (Ans v er w1)) :
    Calls Try.prog 70 #[.int .i64 (k : Int), .func (.func f) #[] caps] w (Ans v er w) := by
  have HC := Lib.hid hcall
  clear hcall
  have hcf : ∀ (args : Array Value) (w : World), (callFunc f args).run Try.prog w = .ok (.enter f args) w := hent
  clear hent
  go_enter Try.func70, Try.ntmps70
  go_wp2_with fail
  refine (of_some k h1 h3 w).mono ?_
  rintro e w1 ⟨rfl, hg, hb⟩
  have HG := Lib.hid hg
  have HB := Lib.hid hb
  clear hg hb
  go_wp2_with fail
  refine (HC.out w1 HB.out HG.out).mono ?_
  rintro e w2 ⟨rfl, hb2⟩
  have HB2 := Lib.hid (below_up HB.out hb2)
  clear hb2
  go_wp2_with fail
  go_ret2
  exact ⟨rfl, HB2.out⟩

set_option maxRecDepth 100000 in
set_option maxHeartbeats 1000000 in
theorem withI_none (k : Int) (hk : ¬ (1 ≤ k ∧ k ≤ 3)) (fv : Value) (w : World) : Calls Try.prog 62 #[.int .i64 k, fv] w (Ans (.int .i64 0) 1 w) := by
  go_enter Try.func62, Try.ntmps62
  go_wp2_with fail
  refine (of_none k hk w).mono ?_
  rintro e w1 ⟨rfl, rfl⟩
  go_wp2_with fail
  go_ret2
  exact ⟨rfl, Below.refl _ _⟩

set_option maxRecDepth 100000 in
set_option maxHeartbeats 1000000 in
theorem withI_some (k : Nat) (h1 : 1 ≤ k) (h3 : k ≤ 3) (f : FuncId) (caps : Array Value) (v : Value) (er : Int) (hent : Enters Try.prog f) (w : World)
    (hcall : ∀ w1, Below w.heap.size w w1 → GroupAt w1 w.heap.size (grp k) → Calls Try.prog f (#[.pointer (some ⟨w.heap.size, 0, none⟩)] ++ caps) w1 (Ans v er w1)) :
    Calls Try.prog 62 #[.int .i64 (k : Int), .func (.func f) #[] caps] w (Ans v er w) := by
  have HC := Lib.hid hcall
  clear hcall
  have hcf : ∀ (args : Array Value) (w : World), (callFunc f args).run Try.prog w = .ok (.enter f args) w := hent
  clear hent
  go_enter Try.func62, Try.ntmps62
  go_wp2_with fail
  refine (of_some k h1 h3 w).mono ?_
  rintro e w1 ⟨rfl, hg, hb⟩
  have HG := Lib.hid hg
  have HB := Lib.hid hb
  clear hg hb
  go_wp2_with fail
  refine (HC.out w1 HB.out HG.out).mono ?_
  rintro e w2 ⟨rfl, hb2⟩
  have HB2 := Lib.hid (below_up HB.out hb2)
  clear hb2
  go_wp2_with fail
  go_ret2
  exact ⟨rfl, HB2.out⟩

end Go.Proofs.Ytdmldnpadojflaa
