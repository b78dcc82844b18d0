/- Texts of this seat, one behind the other: what BallotHides leans on. No condition beyond those that each names. -/
import Derived.Test.YtipgjookfdkciaaZBallotHides3
import Derived.Shelf.Abstract
import Derived.Deep.LoopGhost

/- The document's numbers, written down; compared. No condition. -/
namespace Go.Proofs.Ytipgjookfdkciaa
open Go.RowKit

theorem byteAt_nought (n i : Nat) (h : dl n ≤ i / 2) : byteAt n i = 0 := by
  rw [byte_dg, dg_nought n _ h]
  simp
theorem textL_skip (n size k : Nat) (h : byteAt n k = 0) : textL n size k = textL n size (k + 1) := by
  unfold textL
  refine List.map_congr_left fun p _ => ?_
  by_cases h1 : size - 1 - p < k
  · rw [if_pos h1, if_pos (by omega)]
  · rw [if_neg h1]
    by_cases h2 : size - 1 - p < k + 1
    · rw [if_pos h2, show size - 1 - p = k by omega, h]; rfl
    · rw [if_neg h2]


set_option maxHeartbeats 1000000 in
theorem refText_any (n size : Nat) (an : Option Addr) (cn : Nat) (hln : dl n ≤ 1048576) (hs : size ≤ 1024) (w : World) (hA : NumAt w an n) :
    Calls Try.prog 70 #[.slice an (dl n) cn, .int .i64 (size : Int)] w fun e w' => e = .returned (.string (textS n size)) ∧ Below w.heap.size w w' := by
  obtain ⟨i0, hi, hz0, hz1, hz2⟩ := info_parts infoByte
  have HA := Lib.hid hA
  clear hA
  go_enter Try.func70, Try.ntmps70
  go_wp2_with (at_make; refine wpList_make_full _ rfl _ _ 189 rfl 0 5 i0 (.int .u8 0) 1 Try.underlying189 hi hz0 hz1 _ _ _ _ size rfl rfl ?c1 ?c2 ?c3 ?c4 ?c5 ?_)
  case c1 => rfl
  case c2 => rfl
  case c3 => rw [hz2]; omega
  case c4 => unfold maxLen; omega
  case c5 => omega
  intro w1 hown hgrow
  have HB1 : Hid (Below w.heap.size w w1) := (Below.refl _ _).grown hgrow (Nat.le_refl _) (by simp)
  have HO1 : Hid (w1.ownsRow 0 5 1 (.slice (some ⟨w.heap.size, 0, none⟩) size size) size ((textL n size 0).map (Value.int .u8))) := by
    have h := hown
    show World.ownsRow _ _ _ _ _ _ _
    rw [textL_zero]
    rw [bytes_made] at h
    exact h
  clear hown hgrow hi hz0 hz1 hz2
  go_wp2_with fail
  go_loopw [6, 7] (fun x _ wr => ∃ k : Nat, k ≤ size ∧ x = .int .i64 k ∧ Hid (wr.ownsRow 0 5 1 (.slice (some ⟨w.heap.size, 0, none⟩) size size) size ((textL n size k).map (Value.int .u8))) ∧ Hid (Below w.heap.size w wr)) (fun x _ _ => size - (intOf x).toNat)
  case atStart => exact ⟨0, Nat.zero_le _, rfl, HO1.out, HB1.out⟩
  case round =>
    clear HO1 HB1
    obtain ⟨k, hk, rfl, HO, HN⟩ := hrel
    by_cases hkl : k < size
    · have hlen : size - 1 - k < ((textL n size k).map (Value.int .u8)).length := by simp [textL_length]; omega
      have hc := HO.out.cellAt (size - 1 - k) (by omega)
      rw [List.getElem?_eq_getElem hlen] at hc
      have hf := HO.out.frozenAt (size - 1 - k)
      generalize ((textL n size k).map (Value.int .u8))[size - 1 - k] = old at hc
      have hidx : (size : Int) - 1 - (k : Int) = ((size - 1 - k : Nat) : Int) := by omega
      clear hlen
      have hk2 : (k : Int) / 2 = ((k / 2 : Nat) : Int) := by omega
      by_cases hd : k / 2 < dl n
      · obtain ⟨b1, o1, rfl, hb1, hcell1⟩ := HA.out.all (by omega)
        have hx1 : wr.cell? ⟨b1, o1 + k / 2, none⟩ = some (.int .i64 (dg DD n (k / 2) : Int)) := by rw [HN.out.cell (p := ⟨b1, o1 + k / 2, none⟩) hb1]; exact hcell1 _ hd
        have hdb : dg DD n (k / 2) < 65536 := dg_lt (B := DD) (by decide) n _
        have hby := byte_dg n k
        clear hcell1 hk2
        generalize dg DD n (k / 2) = d at *
        have hk1 : k % 2 = 0 ∨ k % 2 = 1 := by omega
        rcases hk1 with hk1 | hk1
        · have hodd : ((k : Int) % 2 == 1) = false := by simp; omega
          have hbyte : (d : Int) % 256 = (byteAt n k : Int) := by rw [hby, hk1]; simp
          have HK1 := Lib.hid hk1
          clear hby hk1
          have hst := (HO.out.stored (size - 1 - k) (.int .u8 (byteAt n k : Int))).1
          rw [← List.map_set, textL_set _ _ _ hkl] at hst
          have HS := Lib.hid hst
          have HSB := Lib.hid (HN.out.setCell (p := ⟨w.heap.size, size - 1 - k, none⟩) (Nat.le_refl _) (.int .u8 (byteAt n k : Int)))
          clear hst
          go_wp2_with fail
          go_roundw
          case rel => exact ⟨k + 1, by omega, by go_num, HS.out, HSB.out⟩
          case measure => simp [intOf]; omega
        · have hodd : ((k : Int) % 2 == 1) = true := by simp; omega
          have hbyte : (d : Int) / 256 % 256 = (byteAt n k : Int) := by rw [hby, hk1]; simp
          have HK1 := Lib.hid hk1
          clear hby hk1
          have hst := (HO.out.stored (size - 1 - k) (.int .u8 (byteAt n k : Int))).1
          rw [← List.map_set, textL_set _ _ _ hkl] at hst
          have HS := Lib.hid hst
          have HSB := Lib.hid (HN.out.setCell (p := ⟨w.heap.size, size - 1 - k, none⟩) (Nat.le_refl _) (.int .u8 (byteAt n k : Int)))
          clear hst
          go_wp2_with fail
          go_roundw
          case rel => exact ⟨k + 1, by omega, by go_num, HS.out, HSB.out⟩
          case measure => simp [intOf]; omega
      · have h0 := byteAt_nought n k (by omega)
        have HSK := Lib.hid (textL_skip n size k h0)
        clear h0 hk2
        go_wp2_with fail
        go_roundw
        case rel => exact ⟨k + 1, by omega, by go_num, by rw [← HSK.out]; exact HO.out, HN.out⟩
        case measure => simp [intOf]; omega
    · have hks : k = size := by omega
      subst hks
      have hcv := run_convert_bytes_arg (P := Try.prog) wr 189 5 Try.underlying189 Try.underlying5 w.heap.size 0 k k (textL n k k) (textL_length _ _ _) (fun i hi => by
        have h := HO.out.cellAt i (by omega)
        rw [Nat.zero_add, h, List.getElem?_map, List.getElem?_eq_getElem (by rw [textL_length]; exact hi)]
        simp [List.getD, List.getElem?_eq_getElem (show i < (textL n k k).length by rw [textL_length]; exact hi)]) 9 Try.underlying9
      go_wp2_with fail
      go_ret
      exact ⟨rfl, HN.out⟩

end Go.Proofs.Ytipgjookfdkciaa

/- The package group: with. No condition. -/
namespace Go.Proofs.Ytipgjookfdkciaa
open Go.RowKit

/-- What a face of the group answers: a value and an errno. -/
def Ans (v : Value) (er : Int) (w : World) (e : Ending) (w' : World) : Prop := e = .returned (.tuple #[v, .int .i64 er]) ∧ Below w.heap.size w w'


set_option maxRecDepth 100000 in
set_option maxHeartbeats 1000000 in
theorem withS_none (k : Int) (hk : ¬ (1 ≤ k ∧ k ≤ 3)) (fv : Value) (w : World) : Calls Try.prog 93 #[.int .i64 k, fv] w (Ans (.string ⟨#[]⟩) 1 w) := by
  go_enter Try.func93, Try.ntmps93
  go_wp2_with fail
  refine (of_none k hk w).mono ?_
  rintro e w1 ⟨rfl, rfl⟩
  go_wp2_with fail
  go_ret2
  exact ⟨rfl, Below.refl _ _⟩

set_option maxRecDepth 100000 in
set_option maxHeartbeats 1000000 in
theorem withS_some (k : Nat) (h1 : 1 ≤ k) (h3 : k ≤ 3) (f : FuncId) (caps : Array Value) (v : Value) (er : Int) (hent : Enters Try.prog f) (w : World)
    (hcall : ∀ w1, Below w.heap.size w w1 → GroupAt w1 w.heap.size (grp k) → Calls Try.prog f (#[.pointer (some ⟨w.heap.size, 0, none⟩)] ++ caps) w1 (Ans v er w1)) :
    Calls Try.prog 93 #[.int .i64 (k : Int), .func (.func f) #[] caps] w (Ans v er w) := by
  have HC := Lib.hid hcall
  clear hcall
  have hcf : ∀ (args : Array Value) (w : World), (callFunc f args).run Try.prog w = .ok (.enter f args) w := hent
  clear hent
  go_enter Try.func93, Try.ntmps93
  go_wp2_with fail
  refine (of_some k h1 h3 w).mono ?_
  rintro e w1 ⟨rfl, hg, hb⟩
  have HG := Lib.hid hg
  have HB := Lib.hid hb
  clear hg hb
  go_wp2_with fail
  refine (HC.out w1 HB.out HG.out).mono ?_
  rintro e w2 ⟨rfl, hb2⟩
  have HB2 := Lib.hid (below_up HB.out hb2)
  clear hb2
  go_wp2_with fail
  go_ret2
  exact ⟨rfl, HB2.out⟩

set_option maxRecDepth 100000 in
set_option maxHeartbeats 1000000 in
theorem withI_none (k : Int) (hk : ¬ (1 ≤ k ∧ k ≤ 3)) (fv : Value) (w : World) : Calls Try.prog 187 #[.int .i64 k, fv] w (Ans (.int .i64 0) 1 w) := by
  go_enter Try.func187, Try.ntmps187
  go_wp2_with fail
  refine (of_none k hk w).mono ?_
  rintro e w1 ⟨rfl, rfl⟩
  go_wp2_with fail
  go_ret2
  exact ⟨rfl, Below.refl _ _⟩

set_option maxRecDepth 100000 in
set_option maxHeartbeats 1000000 in
theorem withI_some (k : Nat) (h1 : 1 ≤ k) (h3 : k ≤ 3) (f : FuncId) (caps : Array Value) (v : Value) (er : Int) (hent : Enters Try.prog f) (w : World)
    (hcall : ∀ w1, Below w.heap.size w w1 → GroupAt w1 w.heap.size (grp k) → Calls Try.prog f (#[.pointer (some ⟨w.heap.size, 0, none⟩)] ++ caps) w1 (Ans v er w1)) :
    Calls Try.prog 187 #[.int .i64 (k : Int), .func (.func f) #[] caps] w (Ans v er w) := by
  have HC := Lib.hid hcall
  clear hcall
  have hcf : ∀ (args : Array Value) (w : World), (callFunc f args).run Try.prog w = .ok (.enter f args) w := hent
  clear hent
  go_enter Try.func187, Try.ntmps187
  go_wp2_with fail
  refine (of_some k h1 h3 w).mono ?_
  rintro e w1 ⟨rfl, hg, hb⟩
  have HG := Lib.hid hg
  have HB := Lib.hid hb
  clear hg hb
  go_wp2_with fail
  refine (HC.out w1 HB.out HG.out).mono ?_
  rintro e w2 ⟨rfl, hb2⟩
  have HB2 := Lib.hid (below_up HB.out hb2)
  clear hb2
  go_wp2_with fail
  go_ret2
  exact ⟨rfl, HB2.out⟩

end Go.Proofs.Ytipgjookfdkciaa

/- The package group: what a kind has. No condition. -/
namespace Go.Proofs.Ytipgjookfdkciaa
open Go.RowKit

set_option maxRecDepth 100000 in
set_option maxHeartbeats 1000000 in
theorem fixed1_any (gb b : Nat) (f : FuncId) (caps : Array Value) (s : ByteArray) (hent : Enters Try.prog f) (w : World) (hc : w.cell? ⟨b, 0, none⟩ = some (.func (.func f) #[] caps))
    (hcall : Calls Try.prog f (#[.pointer (some ⟨gb, 0, none⟩)] ++ caps) w fun e w' => e = .returned (.string s) ∧ Below w.heap.size w w') :
    Calls Try.prog 150 #[.pointer (some ⟨gb, 0, none⟩), .pointer (some ⟨b, 0, none⟩)] w (Ans (.string s) 0 w) := by
  have HC := Lib.hid hcall
  clear hcall
  have hcf : ∀ (args : Array Value) (w : World), (callFunc f args).run Try.prog w = .ok (.enter f args) w := hent
  clear hent
  go_enter Try.func150, Try.ntmps150
  go_wp2_with fail
  refine HC.out.mono ?_
  rintro e w2 ⟨rfl, hb2⟩
  have HB2 := Lib.hid hb2
  clear hb2 hc
  go_wp2_with fail
  go_ret2
  exact ⟨rfl, HB2.out⟩

set_option maxRecDepth 100000 in
set_option maxHeartbeats 1000000 in
theorem fixed_some (k : Nat) (h1 : 1 ≤ k) (h3 : k ≤ 3) (f : FuncId) (caps : Array Value) (s : ByteArray) (hent : Enters Try.prog f) (w : World)
    (hcall : ∀ w1 gb, Below w.heap.size w w1 → GroupAt w1 gb (grp k) → Calls Try.prog f (#[.pointer (some ⟨gb, 0, none⟩)] ++ caps) w1 fun e w' => e = .returned (.string s) ∧ Below w1.heap.size w1 w') :
    Calls Try.prog 97 #[.int .i64 (k : Int), .func (.func f) #[] caps] w (Ans (.string s) 0 w) := by
  have HC := Lib.hid hcall
  have HE := Lib.hid hent
  clear hcall hent
  go_enter Try.func97, Try.ntmps97
  go_wp2_with fail
  have hb0 : Below w.heap.size w (w.alloc (.cells #[.func (.func f) #[] caps] 143)) := (Below.refl _ _).alloc (Nat.le_refl _) _
  have hz0 : Bx (w.alloc (.cells #[.func (.func f) #[] caps] 143)) w.heap.size 143 [.func (.func f) #[] caps] := Bx.new w _ _ _ rfl
  obtain ⟨W0, hW0⟩ : ∃ W9 : World, (w.alloc (.cells #[.func (.func f) #[] caps] 143)) = W9 := ⟨_, rfl⟩
  rw [hW0] at hb0 hz0 ⊢
  have HB0 := Lib.hid hb0
  have HZ0 := Lib.hid hz0
  clear hW0 hb0 hz0
  refine (withS_some k h1 h3 150 #[.pointer (some ⟨w.heap.size, 0, none⟩)] (.string s) 0 (enters_of Try.func150 (by kernel_rfl) rfl) W0 (fun w1 hb hg => ?_)).mono ?_
  · exact fixed1_any _ _ f caps s HE.out w1 ((HZ0.out.up hb).cell (i := 0) rfl) (HC.out w1 _ (below_up HB0.out hb) hg)
  · rintro e w2 ⟨rfl, hb2⟩
    have HB2 := Lib.hid (below_up HB0.out hb2)
    clear hb2
    go_wp2_with fail
    go_ret2
    exact ⟨rfl, HB2.out⟩

set_option maxRecDepth 100000 in
set_option maxHeartbeats 1000000 in
theorem fixed_none (k : Int) (hk : ¬ (1 ≤ k ∧ k ≤ 3)) (f : FuncId) (caps : Array Value) (w : World) : Calls Try.prog 97 #[.int .i64 k, .func (.func f) #[] caps] w (Ans (.string ⟨#[]⟩) 1 w) := by
  go_enter Try.func97, Try.ntmps97
  go_wp2_with fail
  refine (withS_none k hk _ _).mono ?_
  rintro e w1 ⟨rfl, hb⟩
  have HB := Lib.hid (((Below.refl w.heap.size w).alloc (Nat.le_refl _) _).trans (hb.mono (by simp)))
  clear hb
  go_wp2_with fail
  go_ret2
  exact ⟨rfl, HB.out⟩


set_option maxHeartbeats 1000000 in
theorem base1_any (G : GP) (ok : G.Ok) (gb : Nat) (w : World) (hG : GroupAt w gb G) : Calls Try.prog 98 #[.pointer (some ⟨gb, 0, none⟩)] w fun e w' => e = .returned (.string (textS (lowN G 2) G.size)) ∧ Below w.heap.size w w' := by
  have HG := Lib.hid hG
  have OK := Lib.hid ok
  clear hG ok
  go_enter Try.func98, Try.ntmps98
  go_wp2_with fail
  refine (gBase_any G OK.out gb w HG.out).mono ?_
  rintro e w1 ⟨rfl, hb1⟩
  have HB1 := Lib.hid hb1
  clear hb1
  go_wp2_with fail
  refine (gText_any G OK.out gb 2 w1 (HG.out.up HB1.out)).mono ?_
  rintro e w2 ⟨rfl, hb2⟩
  have HB2 := Lib.hid (below_up HB1.out hb2)
  clear hb2
  go_wp2_with fail
  go_ret
  exact ⟨rfl, HB2.out⟩

theorem low2 (k : Nat) (h1 : 1 ≤ k) (h3 : k ≤ 3) : lowN (grp k) 2 = 2 := by
  obtain rfl | rfl | rfl : k = 1 ∨ k = 2 ∨ k = 3 := by omega
  all_goals decide

set_option maxRecDepth 100000 in
set_option maxHeartbeats 1000000 in
theorem Base_some (k : Nat) (h1 : 1 ≤ k) (h3 : k ≤ 3) (w : World) : Calls Try.prog 36 #[.int .i64 (k : Int)] w (Ans (.string (textS 2 (grp k).size)) 0 w) := by
  go_enter Try.func36, Try.ntmps36
  go_wp2_with fail
  refine (fixed_some k h1 h3 98 #[] ((textS 2 (grp k).size)) (enters_of Try.func98 (by kernel_rfl) rfl) w (fun w1 gb hb hg => by rw [← low2 k h1 h3]; exact base1_any (grp k) (grp_ok k h1 h3) gb w1 hg)).mono ?_
  rintro e w2 ⟨rfl, hb2⟩
  have HB2 := Lib.hid hb2
  clear hb2
  go_wp2_with fail
  go_ret2
  exact ⟨rfl, HB2.out⟩

set_option maxRecDepth 100000 in
set_option maxHeartbeats 1000000 in
theorem Base_none (k : Int) (hk : ¬ (1 ≤ k ∧ k ≤ 3)) (w : World) : Calls Try.prog 36 #[.int .i64 k] w (Ans (.string ⟨#[]⟩) 1 w) := by
  go_enter Try.func36, Try.ntmps36
  go_wp2_with fail
  refine (fixed_none k hk _ _ w).mono ?_
  rintro e w2 ⟨rfl, hb2⟩
  have HB2 := Lib.hid hb2
  clear hb2
  go_wp2_with fail
  go_ret2
  exact ⟨rfl, HB2.out⟩

set_option maxHeartbeats 1000000 in
theorem sizes1_any (G : GP) (gb : Nat) (w : World) (hG : GroupAt w gb G) : Calls Try.prog 188 #[.pointer (some ⟨gb, 0, none⟩)] w (Ans (.int .i64 (G.size : Int)) 0 w) := by
  have hgs := hG.size
  have hgl := hG.lt
  go_enter Try.func188, Try.ntmps188
  go_wp2_with fail
  go_ret2
  exact ⟨rfl, Below.refl _ _⟩

def Ans3 (a b c : Int) (w : World) (e : Ending) (w' : World) : Prop := e = .returned (.tuple #[.int .i64 a, .int .i64 b, .int .i64 c]) ∧ Below w.heap.size w w'

set_option maxHeartbeats 1000000 in
theorem Sizes_some (k : Nat) (h1 : 1 ≤ k) (h3 : k ≤ 3) (w : World) : Calls Try.prog 165 #[.int .i64 (k : Int)] w (Ans3 (grp k).size (grp k).size 0 w) := by
  go_enter Try.func165, Try.ntmps165
  go_wp2_with fail
  refine (withI_some k h1 h3 188 #[] (.int .i64 ((grp k).size : Int)) 0 (enters_of Try.func188 (by kernel_rfl) rfl) w (fun w1 hb hg => sizes1_any (grp k) _ w1 hg)).mono ?_
  rintro e w2 ⟨rfl, hb2⟩
  have HB2 := Lib.hid hb2
  clear hb2
  go_wp2_with fail
  go_ret3
  exact ⟨rfl, HB2.out⟩

set_option maxHeartbeats 1000000 in
theorem Sizes_none (k : Int) (hk : ¬ (1 ≤ k ∧ k ≤ 3)) (w : World) : Calls Try.prog 165 #[.int .i64 k] w (Ans3 0 0 1 w) := by
  go_enter Try.func165, Try.ntmps165
  go_wp2_with fail
  refine (withI_none k hk _ w).mono ?_
  rintro e w2 ⟨rfl, hb2⟩
  have HB2 := Lib.hid hb2
  clear hb2
  go_wp2_with fail
  go_ret3
  exact ⟨rfl, HB2.out⟩

end Go.Proofs.Ytipgjookfdkciaa

/- The document's numbers: compared, and read. No condition. -/
namespace Go.Proofs.Ytipgjookfdkciaa
open Go.RowKit

set_option maxHeartbeats 1000000 in
theorem refCompare_len (a b : Nat) (aa ab : Option Addr) (ca cb : Nat) (h : dl a ≠ dl b) (w : World) :
    Calls Try.prog 140 #[.slice aa (dl a) ca, .slice ab (dl b) cb] w fun e w' => e = .returned (.int .i64 (cmpI a b)) ∧ Below w.heap.size w w' := by
  rcases Nat.lt_or_ge (dl a) (dl b) with h1 | h1
  · have HC : Hid (cmpI a b = -1) := by show _ = _; unfold cmpI; rw [if_pos (lt_of_dl a b h1)]
    have hne : ((dl a : Int) != (dl b : Int)) = true := by simp; omega
    clear h
    go_enter Try.func140, Try.ntmps140
    go_wp2_with fail
    go_ret
    exact ⟨ret_int HC.out.symm, Below.refl _ _⟩
  · have h2 : dl b < dl a := by omega
    have h3 := lt_of_dl b a h2
    have HC : Hid (cmpI a b = 1) := by show _ = _; unfold cmpI; rw [if_neg (by omega), if_pos h3]
    have hne : ((dl a : Int) != (dl b : Int)) = true := by simp; omega
    have h4 : ¬ dl a < dl b := by omega
    clear h h1 h3
    go_enter Try.func140, Try.ntmps140
    go_wp2_with fail
    go_ret
    exact ⟨ret_int HC.out.symm, Below.refl _ _⟩

set_option maxHeartbeats 1000000 in
theorem refCompare_same (a b : Nat) (aa ab : Option Addr) (ca cb L : Nat) (ha : dl a = L) (hb : dl b = L) (hL : L ≤ 1048576) (w : World) (hA : NumAt w aa a) (hB : NumAt w ab b) :
    Calls Try.prog 140 #[.slice aa L ca, .slice ab L cb] w fun e w' => e = .returned (.int .i64 (cmpI a b)) ∧ Below w.heap.size w w' := by
  have HDA := Lib.hid ha
  have HDB := Lib.hid hb
  have HA := Lib.hid hA
  have HB := Lib.hid hB
  clear ha hb hA hB
  have hne : ((L : Int) != (L : Int)) = false := by simp
  go_enter Try.func140, Try.ntmps140
  go_wp2_with fail
  go_loopw [5] (fun x wr => ∃ j : Nat, j ≤ L ∧ x = .int .i64 ((j : Int) - 1) ∧ Hid (a / DD ^ j = b / DD ^ j) ∧ Hid (Below w.heap.size w wr)) (fun x _ => (intOf x + 1).toNat)
  case atStart => exact ⟨L, Nat.le_refl _, rfl, by
    show _ = _
    have h1 := lt_dl a
    have h2 := lt_dl b
    rw [HDA.out] at h1
    rw [HDB.out] at h2
    rw [Nat.div_eq_of_lt h1, Nat.div_eq_of_lt h2], Below.refl _ _⟩
  case round =>
    obtain ⟨j, hj, hi, HE, HN⟩ := hrel
    rcases Nat.eq_zero_or_pos j with rfl | hjp
    · subst hi
      go_wp2_with fail
      go_ret
      have h := HE.out
      rw [Nat.pow_zero, Nat.div_one, Nat.div_one] at h
      exact ⟨ret_int (by unfold cmpI; rw [if_neg (by omega), if_neg (by omega)]), HN.out⟩
    · obtain ⟨p, rfl⟩ : ∃ p, j = p + 1 := ⟨j - 1, by omega⟩
      have ei : ((p + 1 : Nat) : Int) - 1 = (p : Int) := by omega
      rw [ei] at hi
      subst hi
      clear ei hjp
      obtain ⟨b1, o1, rfl, hb1, hcell1⟩ := HA.out.all (by rw [HDA.out]; omega)
      obtain ⟨b2, o2, rfl, hb2, hcell2⟩ := HB.out.all (by rw [HDB.out]; omega)
      have hx1 : wr.cell? ⟨b1, o1 + p, none⟩ = some (.int .i64 (dg DD a p : Int)) := by rw [HN.out.cell (p := ⟨b1, o1 + p, none⟩) hb1]; exact hcell1 _ (by rw [HDA.out]; omega)
      have hx2 : wr.cell? ⟨b2, o2 + p, none⟩ = some (.int .i64 (dg DD b p : Int)) := by rw [HN.out.cell (p := ⟨b2, o2 + p, none⟩) hb2]; exact hcell2 _ (by rw [HDB.out]; omega)
      clear hcell1 hcell2
      rcases Nat.lt_trichotomy (dg DD a p) (dg DD b p) with hd | hd | hd
      · have hcmp : Hid (a < b) := lt_of_dg a b p HE.out hd
        have hd1 : ((dg DD a p : Int) != (dg DD b p : Int)) = true := by simp; omega
        go_wp2_with fail
        go_quiet (fail)
        go_wp2_with fail
        go_quiet (fail)
        go_wp2_with fail
        go_ret
        exact ⟨ret_int (by unfold cmpI; rw [if_pos hcmp.out]), by first | exact below_drewN (below_drewN HN.out _) _ | exact below_drewN HN.out _⟩
      · have HE2 := Lib.hid (same_of_dg a b p HE.out hd)
        have hd1 : ((dg DD a p : Int) != (dg DD b p : Int)) = false := by simp; omega
        have hd2 : ¬ dg DD a p < dg DD b p := by omega
        have hd3 : ¬ dg DD b p < dg DD a p := by omega
        clear hd
        go_wp2_with fail
        go_quiet (fail)
        go_wp2_with fail
        go_roundw
        case rel => exact ⟨p, by omega, rfl, HE2.out, below_drewN HN.out _⟩
        case measure => first | (simp [intOf]; done) | (simp [intOf]; omega)
      · have hcmp : Hid (b < a) := lt_of_dg b a p HE.out.symm hd
        have hd1 : ((dg DD a p : Int) != (dg DD b p : Int)) = true := by simp; omega
        have hd2 : ¬ dg DD a p < dg DD b p := by omega
        go_wp2_with fail
        go_quiet (fail)
        go_wp2_with fail
        go_quiet (fail)
        go_wp2_with fail
        go_ret
        exact ⟨ret_int (by have := hcmp.out; unfold cmpI; rw [if_neg (by omega), if_pos this]), by first | exact below_drewN (below_drewN HN.out _) _ | exact below_drewN HN.out _⟩

theorem refCompare_any (a b : Nat) (aa ab : Option Addr) (ca cb : Nat) (hla : dl a ≤ 1048576) (w : World) (hA : NumAt w aa a) (hB : NumAt w ab b) :
    Calls Try.prog 140 #[.slice aa (dl a) ca, .slice ab (dl b) cb] w fun e w' => e = .returned (.int .i64 (cmpI a b)) ∧ Below w.heap.size w w' := by
  by_cases h : dl a = dl b
  · have h1 := refCompare_same a b aa ab ca cb (dl a) rfl h.symm hla w hA hB
    rw [← h]
    exact h1
  · exact refCompare_len a b aa ab ca cb h w


set_option maxHeartbeats 1000000 in
theorem refRead_any (s : ByteArray) (hs : s.size ≤ 1048576) (w : World) :
    Calls Try.prog 69 #[.string s] w fun e w' => NumR w e w' (numOf s) := by
  obtain ⟨i0, hi, hz0, hz1, hz2⟩ := info_parts infoInt3
  obtain ⟨K, hK⟩ : ∃ K, (s.size + 1) / 2 = K := ⟨_, rfl⟩
  have hK1 : ((s.size : Int) + 1) / 2 = (K : Int) := by omega
  go_enter Try.func69, Try.ntmps69
  go_wp2_with (at_make; refine wpList_make_full _ rfl _ _ 96 rfl 0 3 i0 (.int .i64 0) 1 Try.underlying96 hi hz0 hz1 _ _ _ _ K rfl rfl ?c1 ?c2 ?c3 ?c4 ?c5 ?_)
  case c1 => exact hK1
  case c2 => exact hK1
  case c3 => rw [hz2]; omega
  case c4 => unfold maxLen; omega
  case c5 => omega
  intro w1 hown hgrow
  have e0 : digsTo 0 K = digsTo (numTo s 0) K := by rw [numTo_zero]
  rw [zeros_made, e0] at hown
  have HO1 := Lib.hid hown
  have HB1 : Hid (Below w.heap.size w w1) := (Below.refl _ _).grown hgrow (Nat.le_refl _) (by simp)
  have HK := Lib.hid hK
  have hKs : K ≤ 1048576 := by omega
  clear hown hgrow hi hz0 hz1 hz2 e0 hK hK1
  go_wp2_with fail
  go_loopw [4, 5] (fun x _ wr => ∃ k : Nat, k ≤ s.size ∧ x = .int .i64 k ∧ Hid (wr.ownsRow 0 3 1 (.slice (some ⟨w.heap.size, 0, none⟩) K K) K ((digsTo (numTo s k) K).map dV)) ∧ Hid (Below w.heap.size w wr)) (fun x _ _ => s.size - (intOf x).toNat)
  case atStart => exact ⟨0, Nat.zero_le _, rfl, HO1.out, HB1.out⟩
  case round =>
    clear HO1 HB1
    obtain ⟨k, hk, rfl, HO, HN⟩ := hrel
    by_cases hkl : k < s.size
    · have hkK : k / 2 < K := by have := HK.out; omega
      have hx := HO.out.cellAt (k / 2) (by omega)
      have hxv : ((digsTo (numTo s k) K).map dV)[k / 2]? = some (.int .i64 (dg DD (numTo s k) (k / 2) : Int)) := by simp [digsTo, hkK, dV]
      rw [hxv] at hx
      have hf := HO.out.frozenAt (k / 2)
      have hidx : (s.size : Int) - 1 - (k : Int) = ((s.size - 1 - k : Nat) : Int) := by omega
      have hlt : s.size - 1 - k < s.size := by omega
      have hc256 := (s[s.size - 1 - k]'hlt).toNat_lt
      have hdlt : dg DD (numTo s k) (k / 2) < 65536 := dg_lt (B := DD) (by decide) _ _
      have HNS := Lib.hid (numTo_succ s k hkl)
      clear hxv
      generalize hcc : (s[s.size - 1 - k]'hlt).toNat = c at *
      have hk1 : k % 2 = 0 ∨ k % 2 = 1 := by omega
      rcases hk1 with hk1 | hk1
      · have hodd : ((k : Int) % 2 == 1) = false := by simp; omega
        have HK1 := Lib.hid hk1
        clear hk1
        have hput := digsTo_put (numTo s k) c k K (numTo_lt s k hk) hc256
        rw [← HNS.out, HK1.out, Nat.pow_zero, Nat.mul_one] at hput
        have hst := (HO.out.stored (k / 2) (.int .i64 ((dg DD (numTo s k) (k / 2) : Int) + (c : Int)))).1
        rw [show (Value.int .i64 ((dg DD (numTo s k) (k / 2) : Int) + (c : Int))) = dV (dg DD (numTo s k) (k / 2) + c) from by unfold dV; congr 1, ← List.map_set, hput] at hst
        have HS := Lib.hid hst
        have HSB := Lib.hid (HN.out.setCell (p := ⟨w.heap.size, k / 2, none⟩) (Nat.le_refl _) (.int .i64 ((dg DD (numTo s k) (k / 2) : Int) + (c : Int))))
        clear hst hput
        go_wp2_with fail
        go_roundw
        case rel => exact ⟨k + 1, by omega, by go_num, HS.out, HSB.out⟩
        case measure => simp [intOf]; omega
      · have hodd : ((k : Int) % 2 == 1) = true := by simp; omega
        have HK1 := Lib.hid hk1
        clear hk1
        have hput := digsTo_put (numTo s k) c k K (numTo_lt s k hk) hc256
        rw [← HNS.out, HK1.out, Nat.pow_one] at hput
        have hst := (HO.out.stored (k / 2) (.int .i64 ((dg DD (numTo s k) (k / 2) : Int) + (c : Int) * 256))).1
        rw [show (Value.int .i64 ((dg DD (numTo s k) (k / 2) : Int) + (c : Int) * 256)) = dV (dg DD (numTo s k) (k / 2) + c * 256) from by unfold dV; congr 1, ← List.map_set, hput] at hst
        have HS := Lib.hid hst
        have HSB := Lib.hid (HN.out.setCell (p := ⟨w.heap.size, k / 2, none⟩) (Nat.le_refl _) (.int .i64 ((dg DD (numTo s k) (k / 2) : Int) + (c : Int) * 256)))
        clear hst hput
        go_wp2_with fail
        go_roundw
        case rel => exact ⟨k + 1, by omega, by go_num, HS.out, HSB.out⟩
        case measure => simp [intOf]; omega
    · have hks : k = s.size := by omega
      subst hks
      rw [numTo_all] at HO
      have hlt : numOf s < DD ^ K := by
        have h := numL_lt s.data.toList
        have e : s.data.toList.length = s.size := rfl
        rw [e] at h
        refine Nat.lt_of_lt_of_le h ?_
        show 256 ^ s.size ≤ (256 ^ 2) ^ K
        rw [← Nat.pow_mul]
        exact Nat.pow_le_pow_right (by omega) (by have := HK.out; omega)
      have HLT := Lib.hid hlt
      clear hlt
      go_wp2_with fail
      refine (trim_own HO.out HLT.out (by omega)).mono ?_
      rintro e w' ⟨a', cap', rfl, hN, _, rfl⟩
      have HNN := Lib.hid hN
      clear hN
      go_wp2_with fail
      go_ret
      exact ⟨a', cap', rfl, HNN.out, HN.out⟩

end Go.Proofs.Ytipgjookfdkciaa

/- The document's numbers: what is taken off; what is left of a modulus. No condition. -/
namespace Go.Proofs.Ytipgjookfdkciaa
open Go.RowKit

/-- A row of K cells of which the first i are written. -/
def rowZ (n i K : Nat) : List Nat := (List.range K).map fun p => if p < i then dg DD n p else 0
theorem rowZ_zero (n K : Nat) : rowZ n 0 K = digsTo 0 K := by
  unfold rowZ digsTo
  refine List.map_congr_left fun p _ => ?_
  simp [dg]
theorem rowZ_at (n i K : Nat) (h : i < K) : ((rowZ n i K).map dV)[i]? = some (.int .i64 0) := by
  simp [rowZ, h, dV]
theorem rowZ_set (n i K : Nat) : ((rowZ n i K).map dV).set i (.int .i64 (dg DD n i : Int)) = (rowZ n (i + 1) K).map dV := by
  rw [show (Value.int .i64 (dg DD n i : Int)) = dV (dg DD n i) from rfl, ← List.map_set]
  congr 1
  refine List.ext_getElem (by simp [rowZ]) (fun p h1 h2 => ?_)
  rw [List.getElem_set]
  simp only [rowZ, List.getElem_map, List.getElem_range]
  by_cases h : i = p
  · subst h; rw [if_pos rfl, if_pos (by omega)]
  · rw [if_neg h]
    by_cases h3 : p < i
    · rw [if_pos h3, if_pos (by omega)]
    · rw [if_neg h3, if_neg (by omega)]
theorem rowZ_end (n K : Nat) : rowZ n K K = digsTo n K := by
  unfold rowZ digsTo
  refine List.map_congr_left fun p hp => ?_
  rw [if_pos (by simpa using hp)]

/-- What stands in a digit when something is taken off. -/
theorem take_digit (r s n i : Nat) : (dg DD (r + n * s) i : Int) - (mcB DD r s n i : Int) - (n : Int) * (dg DD s i : Int) = (dg DD r i : Int) - 65536 * (mcB DD r s n (i + 1) : Int) := by
  have h1 := mcB_dig (B := DD) (by decide) r s n i
  have h2 := mcB_succ (B := DD) (by decide) r s n i
  have h3 := Nat.div_add_mod (dg DD r i + n * dg DD s i + mcB DD r s n i) DD
  rw [h1, h2] at h3
  have h4 : (n : Int) * (dg DD s i : Int) = ((n * dg DD s i : Nat) : Int) := by simp
  rw [h4]
  have h5 : 65536 * mcB DD r s n (i + 1) + dg DD (r + n * s) i = dg DD r i + n * dg DD s i + mcB DD r s n i := h3
  omega


set_option maxHeartbeats 2000000 in
theorem refTake_any (a b n k R : Nat) (aa ab : Option Addr) (ca cb : Nat) (hla : dl a ≤ 1048576) (hlb : dl b ≤ 1048576) (hn : n ≤ 1099511627776) (hk : k ≤ 1048576) (hR : a = R + n * (b * DD ^ k)) (w : World) (hA : NumAt w aa a) (hB : NumAt w ab b) :
    Calls Try.prog 183 #[.slice aa (dl a) ca, .slice ab (dl b) cb, .int .i64 (n : Int), .int .i64 (k : Int)] w fun e w' => NumR w e w' R := by
  obtain ⟨i0, hi, hz0, hz1, hz2⟩ := info_parts infoInt3
  have HA := Lib.hid hA
  have HB := Lib.hid hB
  have HR := Lib.hid hR
  clear hA hB hR
  go_enter Try.func183, Try.ntmps183
  go_wp2_with (at_make; refine wpList_make_full _ rfl _ _ 96 rfl 0 3 i0 (.int .i64 0) 1 Try.underlying96 hi hz0 hz1 _ _ _ _ (dl a) rfl rfl ?c1 ?c2 ?c3 ?c4 ?c5 ?_)
  case c1 => rfl
  case c2 => rfl
  case c3 => rw [hz2]; omega
  case c4 => unfold maxLen; omega
  case c5 => omega
  intro w1 hown hgrow
  rw [zeros_made, ← rowZ_zero R] at hown
  have HO1 := Lib.hid hown
  have HB1 : Hid (Below w.heap.size w w1) := (Below.refl _ _).grown hgrow (Nat.le_refl _) (by simp)
  clear hown hgrow hi hz0 hz1 hz2
  go_wp2_with fail
  go_loopw [10, 11, 12] (fun c x _ wr => ∃ i : Nat, i ≤ dl a ∧ x = .int .i64 i ∧ c = .int .i64 (mcB DD R (b * DD ^ k) n i : Nat) ∧ Hid (wr.ownsRow 0 3 1 (.slice (some ⟨w.heap.size, 0, none⟩) (dl a) (dl a)) (dl a) ((rowZ R i (dl a)).map dV)) ∧ Hid (Below w.heap.size w wr)) (fun _ x _ _ => dl a - (intOf x).toNat)
  case atStart => exact ⟨0, Nat.zero_le _, rfl, by rw [mcB_zero]; rfl, HO1.out, HB1.out⟩
  case round =>
    clear HO1 HB1
    obtain ⟨i, hi, rfl, rfl, HO, HN⟩ := hrel
    by_cases hil : i < dl a
    · obtain ⟨b1, o1, rfl, hb1, hcell1⟩ := HA.out.all (by omega)
      have hx1 : wr.cell? ⟨b1, o1 + i, none⟩ = some (.int .i64 (dg DD a i : Int)) := by rw [HN.out.cell (p := ⟨b1, o1 + i, none⟩) hb1]; exact hcell1 _ hil
      have hda : dg DD a i < 65536 := dg_lt (B := DD) (by decide) _ _
      have hdr : dg DD R i < 65536 := dg_lt (B := DD) (by decide) _ _
      have hc1 := mcB_le (B := DD) (by decide) R (b * DD ^ k) n i
      have hc2 := mcB_le (B := DD) (by decide) R (b * DD ^ k) n (i + 1)
      have htd := take_digit R (b * DD ^ k) n i
      rw [← HR.out] at htd
      have hx3 := HO.out.cellAt i (by omega)
      rw [rowZ_at R i (dl a) hil] at hx3
      have hf3 := HO.out.frozenAt i
      generalize mcB DD R (b * DD ^ k) n i = c at *
      generalize hcc : mcB DD R (b * DD ^ k) n (i + 1) = c2 at *
      have HC2 : Hid (mcB DD R (b * DD ^ k) n (i + 1) = c2) := hcc
      clear hcell1 hcc
      by_cases hik : k ≤ i ∧ i - k < dl b
      · obtain ⟨hik1, hik2⟩ := hik
        obtain ⟨b2, o2, rfl, hb2, hcell2⟩ := HB.out.all (by omega)
        have hx2 : wr.cell? ⟨b2, o2 + (i - k), none⟩ = some (.int .i64 (dg DD b (i - k) : Int)) := by rw [HN.out.cell (p := ⟨b2, o2 + (i - k), none⟩) hb2]; exact hcell2 _ hik2
        have hdb : dg DD b (i - k) < 65536 := dg_lt (B := DD) (by decide) _ _
        have hsh := dg_shift b k (i - k)
        rw [show k + (i - k) = i by omega] at hsh
        rw [hsh] at htd
        have hidx : (i : Int) - (k : Int) = ((i - k : Nat) : Int) := by omega
        clear hcell2 hsh
        generalize dg DD b (i - k) = db at *
        generalize hda' : dg DD a i = da at *
        have hprod : n * db ≤ 1099511627776 * 65535 := Nat.mul_le_mul hn (by omega)
        have hpi : (n : Int) * (db : Int) = ((n * db : Nat) : Int) := by simp
        rw [hpi] at htd
        generalize hpr : n * db = pr at *
        have HDA := Lib.hid hda'
        have HPR := Lib.hid hpr
        clear hda' hpr
        have hkI : (k : Int) ≤ (i : Int) := by omega
        have hst := (HO.out.stored i (.int .i64 (dg DD R i : Int))).1
        rw [rowZ_set] at hst
        have HS := Lib.hid hst
        have HSB := Lib.hid (HN.out.setCell (p := ⟨w.heap.size, i, none⟩) (Nat.le_refl _) (.int .i64 (dg DD R i : Int)))
        clear hst
        obtain ⟨d, hd⟩ : ∃ d : Int, (da : Int) - (c : Int) - (pr : Int) = d := ⟨_, rfl⟩
        rw [hd] at htd
        have hdlo : -72057594037927936 ≤ d := by omega
        have hdhi : d ≤ 65535 := by omega
        by_cases hneg : 0 < c2
        · have hd2 : d < 0 := by omega
          have hdn : (65535 - d) / 65536 = (c2 : Int) := by omega
          have hds : d + (c2 : Int) * 65536 = (dg DD R i : Int) := by omega
          have HTD := Lib.hid htd
          clear htd
          go_wp2_with fail
          go_roundw
          case rel => exact ⟨i + 1, by omega, by go_num, by first | rw [hdn, HC2.out] | rw [HC2.out], HS.out, HSB.out⟩
          case measure => simp [intOf]; omega
        · have hc0 : c2 = 0 := by omega
          have hd2 : ¬ d < 0 := by omega
          have hds : d = (dg DD R i : Int) := by omega
          have HC0 := Lib.hid hc0
          have HDS := Lib.hid hds
          have HTD := Lib.hid htd
          rw [← hds] at HS HSB
          clear hc0 hds htd
          go_wp2_with fail
          go_roundw
          case rel => exact ⟨i + 1, by omega, by go_num, by rw [HC2.out, HC0.out]; rfl, HS.out, HSB.out⟩
          case measure => simp [intOf]; omega
      · have h0 : dg DD (b * DD ^ k) i = 0 := by
          rcases Nat.lt_or_ge i k with h | h
          · unfold dg
            have e : DD ^ k = DD ^ i * (DD * DD ^ (k - i - 1)) := by rw [← Nat.pow_succ', ← Nat.pow_add]; congr 1; omega
            rw [e, Nat.mul_left_comm, Nat.mul_div_cancel_left _ (Nat.pow_pos (by decide)), Nat.mul_left_comm, Nat.mul_mod_right]
          · have hsh := dg_shift b k (i - k)
            rw [show k + (i - k) = i by omega] at hsh
            rw [hsh]
            exact dg_nought b _ (by omega)
        rw [h0] at htd
        have htd2 : (dg DD a i : Int) - (c : Int) = (dg DD R i : Int) - 65536 * (c2 : Int) := by simpa using htd
        clear h0 htd
        have htd := htd2
        clear htd2
        generalize hda' : dg DD a i = da at *
        have HDA := Lib.hid hda'
        clear hda'
        by_cases hik1 : k ≤ i
        · have hik2 : ¬ i - k < dl b := fun h => hik ⟨hik1, h⟩
          have hidx : (i : Int) - (k : Int) = ((i - k : Nat) : Int) := by omega
          clear hik
          have hst := (HO.out.stored i (.int .i64 (dg DD R i : Int))).1
          rw [rowZ_set] at hst
          have HS := Lib.hid hst
          have HSB := Lib.hid (HN.out.setCell (p := ⟨w.heap.size, i, none⟩) (Nat.le_refl _) (.int .i64 (dg DD R i : Int)))
          clear hst
          obtain ⟨d, hd⟩ : ∃ d : Int, (da : Int) - (c : Int) = d := ⟨_, rfl⟩
          rw [hd] at htd
          have hdlo : -72057594037927936 ≤ d := by omega
          have hdhi : d ≤ 65535 := by omega
          by_cases hneg : 0 < c2
          · have hd2 : d < 0 := by omega
            have hdn : (65535 - d) / 65536 = (c2 : Int) := by omega
            have hds : d + (c2 : Int) * 65536 = (dg DD R i : Int) := by omega
            have HTD := Lib.hid htd
            clear htd
            go_wp2_with fail
            go_roundw
            case rel => exact ⟨i + 1, by omega, by go_num, by first | rw [hdn, HC2.out] | rw [HC2.out], HS.out, HSB.out⟩
            case measure => simp [intOf]; omega
          · have hc0 : c2 = 0 := by omega
            have hd2 : ¬ d < 0 := by omega
            have hds : d = (dg DD R i : Int) := by omega
            have HC0 := Lib.hid hc0
            have HDS := Lib.hid hds
            have HTD := Lib.hid htd
            rw [← hds] at HS HSB
            clear hc0 hds htd
            go_wp2_with fail
            go_roundw
            case rel => exact ⟨i + 1, by omega, by go_num, by rw [HC2.out, HC0.out]; rfl, HS.out, HSB.out⟩
            case measure => simp [intOf]; omega
        · clear hik
          have hst := (HO.out.stored i (.int .i64 (dg DD R i : Int))).1
          rw [rowZ_set] at hst
          have HS := Lib.hid hst
          have HSB := Lib.hid (HN.out.setCell (p := ⟨w.heap.size, i, none⟩) (Nat.le_refl _) (.int .i64 (dg DD R i : Int)))
          clear hst
          obtain ⟨d, hd⟩ : ∃ d : Int, (da : Int) - (c : Int) = d := ⟨_, rfl⟩
          rw [hd] at htd
          have hdlo : -72057594037927936 ≤ d := by omega
          have hdhi : d ≤ 65535 := by omega
          by_cases hneg : 0 < c2
          · have hd2 : d < 0 := by omega
            have hdn : (65535 - d) / 65536 = (c2 : Int) := by omega
            have hds : d + (c2 : Int) * 65536 = (dg DD R i : Int) := by omega
            have HTD := Lib.hid htd
            clear htd
            go_wp2_with fail
            go_roundw
            case rel => exact ⟨i + 1, by omega, by go_num, by first | rw [hdn, HC2.out] | rw [HC2.out], HS.out, HSB.out⟩
            case measure => simp [intOf]; omega
          · have hc0 : c2 = 0 := by omega
            have hd2 : ¬ d < 0 := by omega
            have hds : d = (dg DD R i : Int) := by omega
            have HC0 := Lib.hid hc0
            have HDS := Lib.hid hds
            have HTD := Lib.hid htd
            rw [← hds] at HS HSB
            clear hc0 hds htd
            go_wp2_with fail
            go_roundw
            case rel => exact ⟨i + 1, by omega, by go_num, by rw [HC2.out, HC0.out]; rfl, HS.out, HSB.out⟩
            case measure => simp [intOf]; omega
    · have hia : i = dl a := by omega
      subst hia
      rw [rowZ_end] at HO
      have hlt : R < DD ^ dl a := Nat.lt_of_le_of_lt (by have := HR.out; omega) (lt_dl a)
      have HLT := Lib.hid hlt
      clear hlt
      go_wp2_with fail
      refine (trim_own HO.out HLT.out (by omega)).mono ?_
      rintro e w' ⟨a', cap', rfl, hN, _, rfl⟩
      have HNN := Lib.hid hN
      clear hN
      go_wp2_with fail
      go_ret
      exact ⟨a', cap', rfl, HNN.out, HN.out⟩

end Go.Proofs.Ytipgjookfdkciaa

/- The document's numbers: what is left of a modulus. No condition. -/
namespace Go.Proofs.Ytipgjookfdkciaa
open Go.RowKit

theorem top_div (n : Nat) (h : n ≠ 0) : n / DD ^ (dl n - 1) = dg DD n (dl n - 1) := by
  have h2 := lt_dl n
  have hp := dl_pos n h
  have e : DD ^ dl n = DD ^ (dl n - 1) * DD := by rw [← Nat.pow_succ]; congr 1; omega
  unfold dg
  rw [Nat.mod_eq_of_lt (Nat.div_lt_of_lt_mul (by rw [← e]; exact h2))]

theorem top_lt (m : Nat) (h : m ≠ 0) : m < (dg DD m (dl m - 1) + 1) * DD ^ (dl m - 1) := by
  have h1 := top_div m h
  have h2 := Nat.div_add_mod m (DD ^ (dl m - 1))
  have h3 := Nat.mod_lt m (Nat.pow_pos (n := dl m - 1) (show 0 < DD by decide))
  rw [h1] at h2
  rw [Nat.add_mul, Nat.one_mul, Nat.mul_comm (dg DD m (dl m - 1))]
  omega

theorem quo_step (A m x q e : Nat) (hm : m ≠ 0) (hx : x * DD ^ e ≤ A) (hq : q = x / (dg DD m (dl m - 1) + 1)) (he : dl m - 1 ≤ e) : q * (m * DD ^ (e - (dl m - 1))) ≤ A := by
  have h1 := top_lt m hm
  have h2 : q * (dg DD m (dl m - 1) + 1) ≤ x := by rw [hq]; exact Nat.div_mul_le_self _ _
  have h3 : DD ^ e = DD ^ (dl m - 1) * DD ^ (e - (dl m - 1)) := by rw [← Nat.pow_add]; congr 1; omega
  generalize dg DD m (dl m - 1) + 1 = t at *
  generalize DD ^ (dl m - 1) = P at *
  generalize DD ^ (e - (dl m - 1)) = S at *
  calc q * (m * S) ≤ q * (t * P * S) := Nat.mul_le_mul_left _ (Nat.mul_le_mul_right _ (Nat.le_of_lt h1))
    _ = q * t * (P * S) := by rw [Nat.mul_assoc t, Nat.mul_assoc q]
    _ ≤ x * (P * S) := Nat.mul_le_mul_right _ h2
    _ = x * DD ^ e := by rw [h3]
    _ ≤ A := hx

theorem mod_one (A m : Nat) (hA : A ≠ 0) (hm : m ≠ 0) (hle : dl m ≤ dl A) : dg DD A (dl A - 1) / (dg DD m (dl m - 1) + 1) * (m * DD ^ (dl A - dl m)) ≤ A := by
  have h := quo_step A m (dg DD A (dl A - 1)) _ (dl A - 1) hm (by rw [← top_div A hA]; exact Nat.div_mul_le_self _ _) rfl (by omega)
  have := dl_pos m hm
  rwa [show dl A - 1 - (dl m - 1) = dl A - dl m by omega] at h
theorem mod_two (A m : Nat) (hA : A ≠ 0) (hm : m ≠ 0) (hle : dl m < dl A) : (dg DD A (dl A - 1) * DD + dg DD A (dl A - 2)) / (dg DD m (dl m - 1) + 1) * (m * DD ^ (dl A - dl m - 1)) ≤ A := by
  have hp := dl_pos m hm
  have h2 := dg_div (B := DD) A (dl A - 2)
  rw [show dl A - 2 + 1 = dl A - 1 by omega, top_div A hA, Nat.mul_comm] at h2
  have h := quo_step A m (dg DD A (dl A - 1) * DD + dg DD A (dl A - 2)) _ (dl A - 2) hm (by rw [← h2]; exact Nat.div_mul_le_self _ _) rfl (by omega)
  rwa [show dl A - 2 - (dl m - 1) = dl A - dl m - 1 by omega] at h

theorem take_mod (A m n s : Nat) (h : n * (m * s) ≤ A) : (A - n * (m * s)) % m = A % m := by
  have e : A = (A - n * (m * s)) + m * (n * s) := by rw [show m * (n * s) = n * (m * s) by rw [Nat.mul_left_comm]]; omega
  rw [← Nat.add_mul_mod_self_left (A - n * (m * s)) m (n * s), ← e]


set_option maxHeartbeats 2000000 in
theorem refMod_any (a m : Nat) (aa am : Option Addr) (ca cm : Nat) (hla : dl a ≤ 1048576) (hm0 : 0 < m) (w : World) (hA : NumAt w aa a) (hM : NumAt w am m) :
    Calls Try.prog 143 #[.slice aa (dl a) ca, .slice am (dl m) cm] w fun e w' => NumR w e w' (a % m) := by
  have HA := Lib.hid hA
  have HMM := Lib.hid hM
  clear hA hM
  go_enter Try.func143, Try.ntmps143
  go_wp2_with fail
  go_loopg [0, 5, 6] a (fun g v _ _ wr => ∃ (A : Nat) (a1 : Option Addr) (c1 : Nat), g = A ∧ v = .slice a1 (dl A) c1 ∧ Hid (A % m = a % m) ∧ A ≤ a ∧ Hid (NumAt wr a1 A) ∧ Hid (Below w.heap.size w wr))
  case atStart => exact ⟨a, aa, ca, rfl, rfl, rfl, Nat.le_refl _, HA.out, Below.refl _ _⟩
  case round =>
    obtain ⟨A, a1, c1, hg, rfl, HM, hAa, HN, HB⟩ := hrel
    obtain ⟨G9, hG9⟩ : ∃ G9, gk = G9 := ⟨_, rfl⟩
    rw [hG9] at hg
    subst hg
    subst hG9
    obtain ⟨A, rfl⟩ : ∃ A, A = gk := ⟨_, rfl⟩
    clear HA
    have hdA := dl_mono _ _ hAa
    go_wp2_with fail
    refine (refCompare_any A m a1 am c1 cm (by omega) wr HN.out (HMM.out.up HB.out)).mono ?_
    rintro e w2 ⟨rfl, hb2⟩
    have HB2 := Lib.hid (below_up HB.out hb2)
    have HN2 := Lib.hid (HN.out.up hb2)
    have HMM2 := Lib.hid (HMM.out.up HB2.out)
    clear hb2 HN HB
    by_cases hlt : A < m
    · have hc : cmpI A m = -1 := by unfold cmpI; rw [if_pos hlt]
      rw [hc]
      clear hc
      have HRES : Hid (A = a % m) := by show _ = _; rw [← HM.out, Nat.mod_eq_of_lt hlt]
      go_wp2_with fail
      go_ret
      exact ⟨a1, c1, by rw [← HRES.out]; rfl, by rw [← HRES.out]; exact HN2.out, HB2.out⟩
    · have hle : m ≤ A := by omega
      have HLEM := Lib.hid hle
      obtain ⟨c, hc, hc0⟩ : ∃ c, cmpI A m = c ∧ 0 ≤ c := ⟨_, rfl, by unfold cmpI; rw [if_neg hlt]; split <;> omega⟩
      rw [hc]
      clear hc hlt hle
      have hA0 : A ≠ 0 := by have := HLEM.out; omega
      have hm1 : m ≠ 0 := by omega
      have hlm := dl_mono _ _ HLEM.out
      have hpA := dl_pos A hA0
      have hpm := dl_pos m hm1
      have htA := dl_top A hA0
      have h1 := mod_one A m hA0 hm1 hlm
      have hdA : dg DD A (dl A - 1) < 65536 := dg_lt (B := DD) (by decide) _ _
      have hdA2 : dg DD A (dl A - 2) < 65536 := dg_lt (B := DD) (by decide) _ _
      have hdm : dg DD m (dl m - 1) < 65536 := dg_lt (B := DD) (by decide) _ _
      have H2 : Hid (dl m < dl A → (dg DD A (dl A - 1) * DD + dg DD A (dl A - 2)) / (dg DD m (dl m - 1) + 1) * (m * DD ^ (dl A - dl m - 1)) ≤ A) := fun h => mod_two A m hA0 hm1 h
      obtain ⟨b1, o1, rfl, hb1, hcell1⟩ := HN2.out.all hpA
      obtain ⟨b2, o2, rfl, hb2, hcell2⟩ := HMM2.out.all hpm
      have hx1 := hcell1 (dl A - 1) (by omega)
      have hx2 := hcell2 (dl m - 1) (by omega)
      have hx3 : dl m < dl A → w2.cell? ⟨b1, o1 + (dl A - 2), none⟩ = some (.int .i64 (dg DD A (dl A - 2) : Int)) := fun h => hcell1 (dl A - 2) (by omega)
      have HX3 := Lib.hid hx3
      have hi1 : (dl A : Int) - 1 = ((dl A - 1 : Nat) : Int) := by omega
      have hi2 : (dl m : Int) - 1 = ((dl m - 1 : Nat) : Int) := by omega
      have hi3 : (dl A : Int) - (dl m : Int) = ((dl A - dl m : Nat) : Int) := by omega
      have H1 := Lib.hid h1
      clear hcell1 hcell2 hx3 h1
      generalize hat : dg DD A (dl A - 1) = at1 at *
      generalize han : dg DD A (dl A - 2) = an1 at *
      generalize hmt : dg DD m (dl m - 1) = mt1 at *
      have HAT := Lib.hid hat
      have HAN := Lib.hid han
      have HMT := Lib.hid hmt
      clear hat han hmt
      obtain ⟨q, hq⟩ : ∃ q, at1 / (mt1 + 1) = q := ⟨_, rfl⟩
      have hqI : (at1 : Int) / ((mt1 : Int) + 1) = (q : Int) := by rw [← hq]; simp
      have hq9 : q ≤ 65535 := by rw [← hq]; exact Nat.le_trans (Nat.div_le_self _ _) (by omega)
      have H1' := H1.out
      rw [hq] at H1'
      have HLE1 := Lib.hid H1'
      clear H1' H1 hq
      go_wp2_with fail
      go_quiet (fail)
      have HN3 := Lib.hid (HN2.out.up (below_drewN (Below.refl _ w2) nq))
      have HMM3 := Lib.hid (HMM2.out.up (below_drewN (Below.refl _ w2) nq))
      have HB3 := Lib.hid (below_drewN HB2.out nq)
      by_cases hq0 : q = 0
      · subst hq0
        by_cases hk0 : dl m < dl A
        · have hx3 := HX3.out hk0
          have h2 := H2.out hk0
          have hkp : 0 < dl A - dl m := by omega
          have hi4 : (dl A : Int) - 2 = ((dl A - 2 : Nat) : Int) := by omega
          have hi5 : ((dl A - dl m : Nat) : Int) - 1 = ((dl A - dl m - 1 : Nat) : Int) := by omega
          obtain ⟨q2, hq2⟩ : ∃ q2, (at1 * DD + an1) / (mt1 + 1) = q2 := ⟨_, rfl⟩
          rw [hq2] at h2
          have hqI2 : ((at1 : Int) * 65536 + (an1 : Int)) / ((mt1 : Int) + 1) = (q2 : Int) := by rw [← hq2]; simp
          have hq29 : q2 ≤ 4294967295 := by rw [← hq2]; exact Nat.le_trans (Nat.div_le_self _ _) (by show at1 * 65536 + an1 ≤ _; omega)
          have hq21 : 1 ≤ q2 := by rw [← hq2]; exact (Nat.le_div_iff_mul_le (by omega)).2 (by show 1 * (mt1 + 1) ≤ at1 * 65536 + an1; omega)
          have hq20 : ((q2 : Int) == 0) = false := by simp; omega
          have HLE := Lib.hid h2
          clear h2 hq2 HLE1
          go_wp2_with fail
          go_quiet (fail)
          have hsub : A - q2 * (m * DD ^ (dl A - dl m - 1)) < A := by
            have h1 : 0 < q2 * (m * DD ^ (dl A - dl m - 1)) := Nat.mul_pos (by omega) (Nat.mul_pos (by omega) (Nat.pow_pos (by decide)))
            omega
          have HSUB := Lib.hid hsub
          have HTM := Lib.hid (take_mod A m (q2) (DD ^ (dl A - dl m - 1)) HLE.out)
          clear hsub
          go_wp2_with fail
          refine (refTake_any A m (q2) (dl A - dl m - 1) (A - q2 * (m * DD ^ (dl A - dl m - 1))) _ _ _ _ (by omega) (by omega) (by omega) (by omega) (by have := HLE.out; omega) _ (NumAt.up HN2.out (below_drewN (Below.refl _ w2) _)) (NumAt.up HMM2.out (below_drewN (Below.refl _ w2) _))).mono ?_
          rintro e w4 ⟨a4, c4, rfl, hn4, hb4⟩
          have HN4 := Lib.hid hn4
          have HB4 := Lib.hid (below_up (below_drewN HB2.out _) hb4)
          clear hn4 hb4
          go_wp2_with fail
          go_roundg (A - q2 * (m * DD ^ (dl A - dl m - 1)))
          case measure => exact HSUB.out
          case rel => exact ⟨_, a4, c4, rfl, by first | rfl | rw [Nat.one_mul], by rw [HTM.out]; exact HM.out, Nat.le_trans (Nat.le_of_lt HSUB.out) hAa, HN4.out, HB4.out⟩
        · have hk00 : dl A - dl m = 0 := by omega
          have hkp : ¬ 0 < dl A - dl m := by omega
          have HLE : Hid (1 * (m * DD ^ (dl A - dl m)) ≤ A) := by
            show _ ≤ _
            rw [hk00, Nat.pow_zero, Nat.mul_one, Nat.one_mul]
            exact HLEM.out
          have hkI : ¬ (0 : Int) < ((dl A - dl m : Nat) : Int) := by omega
          clear hk00 HLE1
          have hsub : A - 1 * (m * DD ^ (dl A - dl m)) < A := by
            have h1 : 0 < 1 * (m * DD ^ (dl A - dl m)) := Nat.mul_pos (by omega) (Nat.mul_pos (by omega) (Nat.pow_pos (by decide)))
            omega
          have HSUB := Lib.hid hsub
          have HTM := Lib.hid (take_mod A m (1) (DD ^ (dl A - dl m)) HLE.out)
          clear hsub
          go_wp2_with fail
          refine (refTake_any A m (1) (dl A - dl m) (A - 1 * (m * DD ^ (dl A - dl m))) _ _ _ _ (by omega) (by omega) (by omega) (by omega) (by have := HLE.out; omega) _ HN3.out HMM3.out).mono ?_
          rintro e w4 ⟨a4, c4, rfl, hn4, hb4⟩
          have HN4 := Lib.hid hn4
          have HB4 := Lib.hid (below_up HB3.out hb4)
          clear hn4 hb4
          go_wp2_with fail
          go_roundg (A - 1 * (m * DD ^ (dl A - dl m)))
          case measure => exact HSUB.out
          case rel => exact ⟨_, a4, c4, rfl, by first | rfl | rw [Nat.one_mul], by rw [HTM.out]; exact HM.out, Nat.le_trans (Nat.le_of_lt HSUB.out) hAa, HN4.out, HB4.out⟩
      · have hq1 : ((q : Int) == 0) = false := by simp; omega
        have HLE := HLE1
        clear HLE1
        have hsub : A - q * (m * DD ^ (dl A - dl m)) < A := by
          have h1 : 0 < q * (m * DD ^ (dl A - dl m)) := Nat.mul_pos (by omega) (Nat.mul_pos (by omega) (Nat.pow_pos (by decide)))
          omega
        have HSUB := Lib.hid hsub
        have HTM := Lib.hid (take_mod A m (q) (DD ^ (dl A - dl m)) HLE.out)
        clear hsub
        go_wp2_with fail
        refine (refTake_any A m (q) (dl A - dl m) (A - q * (m * DD ^ (dl A - dl m))) _ _ _ _ (by omega) (by omega) (by omega) (by omega) (by have := HLE.out; omega) _ HN3.out HMM3.out).mono ?_
        rintro e w4 ⟨a4, c4, rfl, hn4, hb4⟩
        have HN4 := Lib.hid hn4
        have HB4 := Lib.hid (below_up HB3.out hb4)
        clear hn4 hb4
        go_wp2_with fail
        go_roundg (A - q * (m * DD ^ (dl A - dl m)))
        case measure => exact HSUB.out
        case rel => exact ⟨_, a4, c4, rfl, by first | rfl | rw [Nat.one_mul], by rw [HTM.out]; exact HM.out, Nat.le_trans (Nat.le_of_lt HSUB.out) hAa, HN4.out, HB4.out⟩

end Go.Proofs.Ytipgjookfdkciaa

/- The document's powers. No condition. -/
namespace Go.Proofs.Ytipgjookfdkciaa
open Go.RowKit

def bitAt (n k : Nat) : Nat := n / 2 ^ k % 2
/-- The highest t of L bits, the highest first. -/
def bitsTo (n L t : Nat) : List Nat := (List.range t).map fun s => bitAt n (L - 1 - s)
theorem bitsTo_succ (n L t : Nat) : bitsTo n L (t + 1) = bitsTo n L t ++ [bitAt n (L - 1 - t)] := by simp [bitsTo, List.range_succ]
theorem bitsTo_at (n L t s : Nat) (h : s < t) : (bitsTo n L t)[s]? = some (bitAt n (L - 1 - s)) := by simp [bitsTo, h]

theorem bit_dg (n i j : Nat) (hj : j ≤ 15) : dg DD n i / 2 ^ (15 - j) % 2 = bitAt n (16 * i + (15 - j)) := by
  unfold dg bitAt
  have hb : DD = 2 ^ 16 := rfl
  rw [hb, ← Nat.pow_mul]
  have e : (2 : Nat) ^ 16 = 2 ^ (15 - j) * (2 * 2 ^ j) := by
    rw [← Nat.pow_succ', ← Nat.pow_add]; congr 1; omega
  rw [e, Nat.mod_mul_right_div_self, Nat.mod_mul_right_mod, Nat.div_div_eq_div_mul, ← Nat.pow_add]

structure OwnB (W w : World) (v : Value) (n L t : Nat) : Prop where
  own : w.ownsRow 0 3 1 v t ((bitsTo n L t).map dV)
  new_ : ∀ q, v.ownBlock = some q → W.heap.size ≤ q
  below : Below W.heap.size W w
theorem OwnB.nil (W : World) (n L : Nat) : OwnB W W (.slice none 0 0) n L 0 := ⟨World.ownsRow_nil _ _ _ _, fun q h => by simp [Value.ownBlock] at h, Below.refl _ _⟩
theorem OwnB.push {W w w1 : World} {v : Value} {n L k g c : Nat} (h : OwnB W w v n L k) (hown : w1.ownsRow 0 3 1 (.slice (some ⟨g, 0, none⟩) (k + 1) c) (k + 1) ((bitsTo n L k).map dV ++ [.int .i64 (bitAt n (L - 1 - k) : Int)])) (hp : Pushed w w1 v g) : OwnB W w1 (.slice (some ⟨g, 0, none⟩) (k + 1) c) n L (k + 1) :=
  ⟨by rw [bitsTo_succ, List.map_append]; exact hown, hp.from_ h.below.size h.new_, hp.below h.below h.below.size h.new_⟩

def BitsR (n : Nat) (w : World) (e : Ending) (w' : World) : Prop := ∃ a cap, e = .returned (.slice a (16 * dl n) cap) ∧ Sl w' w'.heap.size a ((bitsTo n (16 * dl n) (16 * dl n)).map dV) ∧ Below w.heap.size w w'


set_option maxHeartbeats 2000000 in
theorem refBits_any (n : Nat) (an : Option Addr) (cn : Nat) (hln : dl n ≤ 65536) (w : World) (hA : NumAt w an n) :
    Calls Try.prog 182 #[.slice an (dl n) cn] w (BitsR n w) := by
  obtain ⟨i0, hi, hz0, hz1, hz2⟩ := info_parts infoInt3
  have HA := Lib.hid hA
  clear hA
  go_enter Try.func182, Try.ntmps182
  go_wp2_with fail
  go_loopw [3, 4, 5] (fun u x _ wr => ∃ i : Nat, i ≤ dl n ∧ x = .int .i64 ((i : Int) - 1) ∧ Hid (OwnB w wr u n (16 * dl n) (16 * (dl n - i)))) (fun _ x _ _ => (intOf x + 1).toNat)
  case atStart => exact ⟨dl n, Nat.le_refl _, rfl, by rw [Nat.sub_self]; exact OwnB.nil w _ _⟩
  case round =>
    obtain ⟨i, hin, hxi, HO⟩ := hrel
    rcases Nat.eq_zero_or_pos i with rfl | hip
    · subst hxi
      rw [Nat.sub_zero] at HO
      go_wp2_with fail
      go_ret
      obtain ⟨a, c, rfl, _⟩ := own_form3 HO.out.own
      exact ⟨a, c, rfl, sl_of_own HO.out.own, HO.out.below⟩
    · obtain ⟨p, rfl⟩ : ∃ p, i = p + 1 := ⟨i - 1, by omega⟩
      have ei : ((p + 1 : Nat) : Int) - 1 = (p : Int) := by omega
      rw [ei] at hxi
      subst hxi
      clear ei hip
      obtain ⟨b1, o1, rfl, hb1, hcell1⟩ := HA.out.all (by omega)
      have hx1 := hcell1 p (by omega)
      have HX1 := Lib.hid hx1
      have hdp : dg DD n p < 65536 := dg_lt (B := DD) (by decide) _ _
      clear hcell1 hx1
      obtain ⟨W2, rfl⟩ : ∃ W2 : World, W2 = wr := ⟨_, rfl⟩
      go_wp2_with fail
      go_loopw [3, 5] (fun u x wr => ∃ j : Nat, j ≤ 16 ∧ x = .int .i64 (32768 / 2 ^ j : Nat) ∧ Hid (OwnB w wr u n (16 * dl n) (16 * (dl n - (p + 1)) + j))) (fun _ x _ => (intOf x).toNat)
      case atStart => exact ⟨0, Nat.zero_le _, rfl, HO.out⟩
      case round =>
        clear HO
        obtain ⟨j, hj, rfl, HO⟩ := hrel
        by_cases hjl : j < 16
        · have hP : 32768 / 2 ^ j = 2 ^ (15 - j) := by
            show 2 ^ 15 / 2 ^ j = _
            exact Nat.pow_div (by omega) (by omega)
          have hP2 : ((32768 / 2 ^ j : Nat) : Int) / 2 = ((32768 / 2 ^ (j + 1) : Nat) : Int) := by
            rw [Nat.pow_succ, ← Nat.div_div_eq_div_mul]; omega
          have hbit := bit_dg n p j (by omega)
          have hpos : 0 < 32768 / 2 ^ j := by rw [hP]; exact Nat.pow_pos (by omega)
          have hle : 32768 / 2 ^ j ≤ 32768 := Nat.div_le_self _ _
          have hdec : 32768 / 2 ^ (j + 1) < 32768 / 2 ^ j := by
            rw [Nat.pow_succ, ← Nat.div_div_eq_div_mul]; exact Nat.div_lt_self hpos (by decide)
          rw [← hP, show 16 * p + (15 - j) = 16 * dl n - 1 - (16 * (dl n - (p + 1)) + j) by omega] at hbit
          have hx1 : wr.cell? ⟨b1, o1 + p, none⟩ = some (.int .i64 (dg DD n p : Int)) := by rw [HO.out.below.cell (p := ⟨b1, o1 + p, none⟩) hb1]; exact HX1.out
          generalize dg DD n p = d at *
          generalize 32768 / 2 ^ j = P at *
          generalize hP1 : 32768 / 2 ^ (j + 1) = P1 at *
          have hq9 : (d : Int) / (P : Int) = ((d / P : Nat) : Int) := by simp
          have hx9l : d / P ≤ d := Nat.div_le_self _ _
          generalize hx9 : d / P = x9 at *
          have HX9 := Lib.hid hx9
          have hbI : (x9 : Int) % 2 = (bitAt n (16 * dl n - 1 - (16 * (dl n - (p + 1)) + j)) : Int) := by omega
          clear hx9
          have hHP := Lib.hid hP
          have HP1 := Lib.hid hP1
          generalize hT : 16 * (dl n - (p + 1)) + j = T at *
          have hTl : T ≤ 1048576 := by omega
          have HT := Lib.hid hT
          generalize hB : bitAt n (16 * dl n - 1 - T) = bb at *
          have HBB := Lib.hid hB
          clear hP hP1 hbit hT hB
          go_wp2_with (at_builtin; refine wpList_push wr rfl _ _ 35 rfl 3 i0 _ 1 8 Try.underlying35 hi hz0 hz1 hz2 rfl (by omega) u3 T ((bitsTo n (16 * dl n) T).map dV) rfl HO.out.own _ _ _ rfl rfl rfl (by simp [Value.oneCell']) (by omega) (by unfold maxLen; omega) ?_)
          intro g gc w1 hown hp
          have HO1 := Lib.hid (HO.out.push (by rw [HBB.out]; exact hown) hp)
          clear hown hp
          go_wp2_with fail
          go_roundw
          case rel => exact ⟨j + 1, by omega, by first | rw [hP2, HP1.out] | rw [HP1.out], by rw [← Nat.add_assoc, HT.out]; exact HO1.out⟩
          case measure => simp [intOf]; omega
        · have hj16 : j = 16 := by omega
          subst hj16
          have h0 : ((32768 / 2 ^ 16 : Nat) : Int) = 0 := by decide
          rw [h0]
          clear h0
          go_wp2_with fail
          go_roundw
          case rel => exact ⟨p, by omega, rfl, by rw [show 16 * (dl n - p) = 16 * (dl n - (p + 1)) + 16 by omega]; exact HO.out⟩
          case measure => first | (simp [intOf]; done) | (simp [intOf]; omega)

theorem lt32 (x y : Nat) (hx : x < DD ^ 16) (hy : y < DD ^ 16) : dl (x * y) ≤ 1048576 := by
  refine Nat.le_trans (dl_of_lt (x * y) 32 ?_) (by decide)
  have e : DD ^ 32 = DD ^ 16 * DD ^ 16 := by rw [← Nat.pow_add]
  rw [e]
  exact Nat.lt_of_le_of_lt (Nat.mul_le_mul_left _ (Nat.le_of_lt hy)) (Nat.mul_lt_mul_of_pos_right hx (Nat.pow_pos (by decide)))
theorem lt16 (x : Nat) (hx : x < DD ^ 16) : dl x ≤ 1048576 := small_dl x hx

theorem pow_sq (a e m : Nat) : (a ^ e % m * (a ^ e % m)) % m = a ^ (2 * e) % m := by
  rw [← Nat.mul_mod, ← Nat.pow_add, Nat.two_mul]
theorem pow_one_more (a e m : Nat) : (a ^ (2 * e) % m * a) % m = a ^ (2 * e + 1) % m := by
  rw [Nat.mod_mul_mod, ← Nat.pow_succ]
theorem dl_one_of (v : Nat) (h : dl v = 1) : dg DD v 0 = v := by
  have := lt_dl v
  rw [h, Nat.pow_one] at this
  unfold dg
  rw [Nat.pow_zero, Nat.div_one, Nat.mod_eq_of_lt this]



set_option maxHeartbeats 2000000 in
theorem refPower_any (a n m : Nat) (aa an am : Option Addr) (ca cn cm : Nat) (ha : a < DD ^ 16) (hn : dl n ≤ 65536) (hm1 : 1 < m) (hm2 : m < DD ^ 16) (w : World) (hA : NumAt w aa a) (hN : NumAt w an n) (hM : NumAt w am m) :
    Calls Try.prog 141 #[.slice aa (dl a) ca, .slice an (dl n) cn, .slice am (dl m) cm] w fun e w' => NumR w e w' (a ^ n % m) := by
  have HA := Lib.hid hA
  have HNN := Lib.hid hN
  have HMM := Lib.hid hM
  have HA16 := Lib.hid ha
  have HM16 := Lib.hid hm2
  have hmp : 0 < m := by omega
  clear hA hN hM ha hm2
  go_enter Try.func141, Try.ntmps141
  go_wp2_with fail
  refine (refOf_any 1 (by omega) w).mono ?_
  rintro e9 w1 ⟨a1, c1, rfl, hn1, hb1⟩
  have HN1 := Lib.hid hn1
  have HB1 := Lib.hid hb1
  clear hn1 hb1
  go_wp2_with fail
  refine (refBits_any n an cn hn w1 (HNN.out.up HB1.out)).mono ?_
  rintro e9 w2 ⟨ab, cb, rfl, hs2, hb2⟩
  have HS := Lib.hid hs2
  have HBS := Lib.hid hb2
  have HN2 := Lib.hid (HN1.out.up hb2)
  have HB2 := Lib.hid (below_up HB1.out hb2)
  have hL : 16 * dl n ≤ 1048576 := by omega
  have HL0 : Hid (n / 2 ^ (16 * dl n) = 0) := by
    have h := lt_dl n
    have hb : DD = 2 ^ 16 := rfl
    rw [hb, ← Nat.pow_mul] at h
    exact Nat.div_eq_of_lt h
  clear hs2 hb2 HN1 HB1
  have HA := Lib.hid (HA.out.up HB2.out)
  have HMM := Lib.hid (HMM.out.up HB2.out)
  generalize hLL : 16 * dl n = L at *
  clear hLL
  have hzw2 := HB2.out.size
  go_wp2_with fail
  go_loopw [7, 9, 14] (fun u _ x wr => ∃ (t v : Nat) (a1 : Option Addr) (c1 : Nat), t ≤ L ∧ x = .int .i64 t ∧ u = .slice a1 (dl v) c1 ∧ Hid (v = a ^ (n / 2 ^ (L - t)) % m) ∧ Hid (NumAt wr a1 v) ∧ Hid (Below w2.heap.size w2 wr)) (fun _ _ x _ => L - (intOf x).toNat)
  case atStart => exact ⟨0, 1, a1, c1, Nat.zero_le _, rfl, rfl, by show _ = _; rw [Nat.sub_zero, HL0.out, Nat.pow_zero, Nat.mod_eq_of_lt hm1], HN2.out, Below.refl _ _⟩
  case round =>
    clear HN2
    obtain ⟨t, v, a1, c1, ht, rfl, rfl, HV, HN, HBW⟩ := hrel
    have HB := HBW
    by_cases htl : t < L
    · obtain ⟨b3, o3, rfl, hb3, hc3⟩ := (HS.out.up HBW.out).at t (by simp [bitsTo]; omega)
      have hcell : wr.cell? ⟨b3, o3 + t, none⟩ = some (.int .i64 (bitAt n (L - 1 - t) : Int)) := by
        rw [hc3]
        simp [bitsTo, dV]
      have hbb : bitAt n (L - 1 - t) = 0 ∨ bitAt n (L - 1 - t) = 1 := by unfold bitAt; omega
      have he1 : n / 2 ^ (L - (t + 1)) = 2 * (n / 2 ^ (L - t)) + bitAt n (L - 1 - t) := by
        unfold bitAt
        rw [show L - t = L - 1 - t + 1 by omega, show L - (t + 1) = L - 1 - t by omega, Nat.pow_succ, ← Nat.div_div_eq_div_mul]
        omega
      have HE1 := Lib.hid he1
      clear hc3 he1
      generalize bitAt n (L - 1 - t) = bb at *
      generalize n / 2 ^ (L - t) = e at *
      obtain rfl := HV.out
      clear HV
      by_cases hv1 : a ^ e % m = 1
      · have hd1 : dl (a ^ e % m) = 1 := by rw [hv1]; rfl
        obtain ⟨b4, o4, rfl, hb4, hcell4⟩ := HN.out.all (by omega)
        have hx4 := hcell4 0 (by omega)
        rw [dl_one_of _ hd1, hv1, Nat.add_zero] at hx4
        have hne : ((dl (a ^ e % m) : Int) != 1) = false := by rw [hd1]; rfl
        have hdpos : (0 : Int) < (dl (a ^ e % m) : Int) := by omega
        have HNq : Hid (NumAt wr (some ⟨b4, o4, none⟩) (a ^ (2 * e) % m)) := by
          show NumAt _ _ _
          rw [← pow_sq, hv1, Nat.mul_one, Nat.mod_eq_of_lt hm1, ← hv1]
          exact HN.out
        have HDq : Hid (dl (a ^ e % m) = dl (a ^ (2 * e) % m)) := by
          show _ = _
          rw [← pow_sq, hv1, Nat.mul_one, Nat.mod_eq_of_lt hm1]
        clear hv1 hd1 hcell4
        rw [HDq.out] at hne hdpos ⊢
        clear HDq HN
        have HN := HNq
        clear HNq
        rcases hbb with hb0 | hb0
        · have hbf : ((bb : Int) == 1) = false := by rw [hb0]; rfl
          have HRES : Hid (a ^ (2 * e) % m = a ^ (2 * e + bb) % m) := by show _ = _; rw [hb0]; rfl
          clear hb0
          go_wp2_with fail
          go_roundw
          case rel => exact ⟨t + 1, a ^ (2 * e) % m, (some ⟨b4, o4, none⟩), c1, by omega, by go_num, rfl, by rw [HE1.out]; exact HRES.out, HN.out, HB.out⟩
          case measure => simp [intOf]; omega
        · have hbf : ((bb : Int) == 1) = true := by rw [hb0]; rfl
          have HRES : Hid (a ^ (2 * e + 1) % m = a ^ (2 * e + bb) % m) := by show _ = _; rw [hb0]
          clear hb0
          go_wp2_with fail
          refine (refTimes_any (a ^ (2 * e) % m) a (some ⟨b4, o4, none⟩) aa c1 ca (lt16 _ (Nat.lt_trans (Nat.mod_lt _ hmp) HM16.out)) (lt16 _ HA16.out) wr HN.out (HA.out.up HB.out)).mono ?_
          rintro e9 w7 ⟨a7, c7, rfl, hn7, hb7⟩
          have HN7 := Lib.hid hn7
          have HB7 := Lib.hid (below_up HB.out hb7)
          clear hn7 hb7
          go_wp2_with fail
          refine (refMod_any (a ^ (2 * e) % m * a) m a7 am c7 cm (lt32 _ _ (Nat.lt_trans (Nat.mod_lt _ hmp) HM16.out) HA16.out) hmp w7 HN7.out (HMM.out.up HB7.out)).mono ?_
          rintro e9 w8 ⟨a8, c8, rfl, hn8, hb8⟩
          rw [pow_one_more] at hn8 ⊢
          have HN8 := Lib.hid hn8
          have HB8 := Lib.hid (below_up HB7.out hb8)
          clear hn8 hb8
          go_wp2_with fail
          go_roundw
          case rel => exact ⟨t + 1, _, a8, c8, by omega, by go_num, rfl, by rw [HE1.out]; exact HRES.out, HN8.out, HB8.out⟩
          case measure => simp [intOf]; omega
      · by_cases hd1 : dl (a ^ e % m) = 1
        · obtain ⟨b4, o4, rfl, hb4, hcell4⟩ := HN.out.all (by omega)
          have hx4 := hcell4 0 (by omega)
          rw [dl_one_of _ hd1, Nat.add_zero] at hx4
          have hne : ((dl (a ^ e % m) : Int) != 1) = false := by rw [hd1]; rfl
          have hdpos : (0 : Int) < (dl (a ^ e % m) : Int) := by omega
          have hv2 : ((a : Int) ^ e % (m : Int) != 1) = true := by rw [bne_iff_ne]; intro h; apply hv1; exact_mod_cast h
          clear hcell4 hv1 hd1
          go_wp2_with fail
          refine (refTimes_any (a ^ e % m) (a ^ e % m) (some ⟨b4, o4, none⟩) (some ⟨b4, o4, none⟩) c1 c1 (lt16 _ (Nat.lt_trans (Nat.mod_lt _ hmp) HM16.out)) (lt16 _ (Nat.lt_trans (Nat.mod_lt _ hmp) HM16.out)) wr HN.out HN.out).mono ?_
          rintro e9 w4 ⟨a4, c4, rfl, hn4, hb4⟩
          have HN4 := Lib.hid hn4
          have HB4 := Lib.hid (below_up HB.out hb4)
          clear hn4 hb4
          go_wp2_with fail
          refine (refMod_any (a ^ e % m * (a ^ e % m)) m a4 am c4 cm (lt32 _ _ (Nat.lt_trans (Nat.mod_lt _ hmp) HM16.out) (Nat.lt_trans (Nat.mod_lt _ hmp) HM16.out)) hmp w4 HN4.out (HMM.out.up HB4.out)).mono ?_
          rintro e9 w5 ⟨a5, c5, rfl, hn5, hb5⟩
          rw [pow_sq] at hn5 ⊢
          have HN5 := Lib.hid hn5
          have HB5 := Lib.hid (below_up HB4.out hb5)
          clear hn5 hb5
          rcases hbb with hb0 | hb0
          · have hbf : ((bb : Int) == 1) = false := by rw [hb0]; rfl
            have HRES : Hid (a ^ (2 * e) % m = a ^ (2 * e + bb) % m) := by show _ = _; rw [hb0]; rfl
            clear hb0
            go_wp2_with fail
            go_roundw
            case rel => exact ⟨t + 1, a ^ (2 * e) % m, a5, c5, by omega, by go_num, rfl, by rw [HE1.out]; exact HRES.out, HN5.out, HB5.out⟩
            case measure => simp [intOf]; omega
          · have hbf : ((bb : Int) == 1) = true := by rw [hb0]; rfl
            have HRES : Hid (a ^ (2 * e + 1) % m = a ^ (2 * e + bb) % m) := by show _ = _; rw [hb0]
            clear hb0
            go_wp2_with fail
            refine (refTimes_any (a ^ (2 * e) % m) a a5 aa c5 ca (lt16 _ (Nat.lt_trans (Nat.mod_lt _ hmp) HM16.out)) (lt16 _ HA16.out) w5 HN5.out (HA.out.up HB5.out)).mono ?_
            rintro e9 w7 ⟨a7, c7, rfl, hn7, hb7⟩
            have HN7 := Lib.hid hn7
            have HB7 := Lib.hid (below_up HB5.out hb7)
            clear hn7 hb7
            go_wp2_with fail
            refine (refMod_any (a ^ (2 * e) % m * a) m a7 am c7 cm (lt32 _ _ (Nat.lt_trans (Nat.mod_lt _ hmp) HM16.out) HA16.out) hmp w7 HN7.out (HMM.out.up HB7.out)).mono ?_
            rintro e9 w8 ⟨a8, c8, rfl, hn8, hb8⟩
            rw [pow_one_more] at hn8 ⊢
            have HN8 := Lib.hid hn8
            have HB8 := Lib.hid (below_up HB7.out hb8)
            clear hn8 hb8
            go_wp2_with fail
            go_roundw
            case rel => exact ⟨t + 1, _, a8, c8, by omega, by go_num, rfl, by rw [HE1.out]; exact HRES.out, HN8.out, HB8.out⟩
            case measure => simp [intOf]; omega
        · have hne : ((dl (a ^ e % m) : Int) != 1) = true := by simp; omega
          clear hd1 hv1
          go_wp2_with fail
          refine (refTimes_any (a ^ e % m) (a ^ e % m) a1 a1 c1 c1 (lt16 _ (Nat.lt_trans (Nat.mod_lt _ hmp) HM16.out)) (lt16 _ (Nat.lt_trans (Nat.mod_lt _ hmp) HM16.out)) wr HN.out HN.out).mono ?_
          rintro e9 w4 ⟨a4, c4, rfl, hn4, hb4⟩
          have HN4 := Lib.hid hn4
          have HB4 := Lib.hid (below_up HB.out hb4)
          clear hn4 hb4
          go_wp2_with fail
          refine (refMod_any (a ^ e % m * (a ^ e % m)) m a4 am c4 cm (lt32 _ _ (Nat.lt_trans (Nat.mod_lt _ hmp) HM16.out) (Nat.lt_trans (Nat.mod_lt _ hmp) HM16.out)) hmp w4 HN4.out (HMM.out.up HB4.out)).mono ?_
          rintro e9 w5 ⟨a5, c5, rfl, hn5, hb5⟩
          rw [pow_sq] at hn5 ⊢
          have HN5 := Lib.hid hn5
          have HB5 := Lib.hid (below_up HB4.out hb5)
          clear hn5 hb5
          rcases hbb with hb0 | hb0
          · have hbf : ((bb : Int) == 1) = false := by rw [hb0]; rfl
            have HRES : Hid (a ^ (2 * e) % m = a ^ (2 * e + bb) % m) := by show _ = _; rw [hb0]; rfl
            clear hb0
            go_wp2_with fail
            go_roundw
            case rel => exact ⟨t + 1, a ^ (2 * e) % m, a5, c5, by omega, by go_num, rfl, by rw [HE1.out]; exact HRES.out, HN5.out, HB5.out⟩
            case measure => simp [intOf]; omega
          · have hbf : ((bb : Int) == 1) = true := by rw [hb0]; rfl
            have HRES : Hid (a ^ (2 * e + 1) % m = a ^ (2 * e + bb) % m) := by show _ = _; rw [hb0]
            clear hb0
            go_wp2_with fail
            refine (refTimes_any (a ^ (2 * e) % m) a a5 aa c5 ca (lt16 _ (Nat.lt_trans (Nat.mod_lt _ hmp) HM16.out)) (lt16 _ HA16.out) w5 HN5.out (HA.out.up HB5.out)).mono ?_
            rintro e9 w7 ⟨a7, c7, rfl, hn7, hb7⟩
            have HN7 := Lib.hid hn7
            have HB7 := Lib.hid (below_up HB5.out hb7)
            clear hn7 hb7
            go_wp2_with fail
            refine (refMod_any (a ^ (2 * e) % m * a) m a7 am c7 cm (lt32 _ _ (Nat.lt_trans (Nat.mod_lt _ hmp) HM16.out) HA16.out) hmp w7 HN7.out (HMM.out.up HB7.out)).mono ?_
            rintro e9 w8 ⟨a8, c8, rfl, hn8, hb8⟩
            rw [pow_one_more] at hn8 ⊢
            have HN8 := Lib.hid hn8
            have HB8 := Lib.hid (below_up HB7.out hb8)
            clear hn8 hb8
            go_wp2_with fail
            go_roundw
            case rel => exact ⟨t + 1, _, a8, c8, by omega, by go_num, rfl, by rw [HE1.out]; exact HRES.out, HN8.out, HB8.out⟩
            case measure => simp [intOf]; omega
    · have htL : t = L := by omega
      subst htL
      rw [Nat.sub_self, Nat.pow_zero, Nat.div_one] at HV
      obtain rfl := HV.out
      go_wp2_with fail
      go_ret
      exact ⟨a1, c1, rfl, HN.out, below_up HB2.out HBW.out⟩

end Go.Proofs.Ytipgjookfdkciaa

/- The document's scalars: Minus, Add, Sub, Mul. No condition. -/
namespace Go.Proofs.Ytipgjookfdkciaa
open Go.RowKit

/-- The document's group, as a value. -/
def gR (sz q p : Nat) (aq ap : Option Addr) (cq cp : Nat) : List Value := [.int .i64 (sz : Int), .slice aq (dl q) cq, .slice ap (dl p) cp]

theorem take_minus (a b R : Nat) (h : a = R + b) : a = R + 1 * (b * DD ^ 0) := by rw [Nat.pow_zero, Nat.mul_one, Nat.one_mul]; exact h

set_option maxRecDepth 100000 in
set_option maxHeartbeats 1000000 in
theorem refMinus_any (a b R : Nat) (aa ab : Option Addr) (ca cb : Nat) (hla : dl a ≤ 1048576) (hlb : dl b ≤ 1048576) (hR : a = R + b) (w : World) (hA : NumAt w aa a) (hB : NumAt w ab b) :
    Calls Try.prog 142 #[.slice aa (dl a) ca, .slice ab (dl b) cb] w fun e w' => NumR w e w' R := by
  have hT : Calls Try.prog 183 #[.slice aa (dl a) ca, .slice ab (dl b) cb, .int .i64 1, .int .i64 0] w fun e w' => NumR w e w' R := refTake_any a b 1 0 R aa ab ca cb hla hlb (by omega) (by omega) (take_minus a b R hR) w hA hB
  have HT := Lib.hid hT
  clear hT hR
  clear hA hB
  go_enter Try.func142, Try.ntmps142
  go_wp2_with fail
  refine HT.out.mono ?_
  rintro e w1 ⟨a1, c1, rfl, hn1, hb1⟩
  have HN1 := Lib.hid hn1
  have HB1 := Lib.hid hb1
  clear hn1 hb1
  go_wp2_with fail
  go_ret
  exact ⟨a1, c1, rfl, HN1.out, HB1.out⟩





theorem plus_dl (a b : Nat) (ha : a < DD ^ 16) (hb : b < DD ^ 16) : dl (a + b) ≤ 1048576 := by
  refine Nat.le_trans (dl_of_lt (a + b) 17 ?_) (by decide)
  have : DD ^ 17 = DD ^ 16 * 65536 := Nat.pow_succ ..
  omega

set_option maxRecDepth 100000 in
set_option maxHeartbeats 2000000 in
theorem refAdd_any (a b sz q p : Nat) (aa ab aq ap : Option Addr) (ca cb cq cp : Nat) (ha : a < DD ^ 16) (hb : b < DD ^ 16) (hq : 0 < q) (w : World) (hA : NumAt w aa a) (hB : NumAt w ab b) (hQ : NumAt w aq q) :
    Calls Try.prog 152 #[.agg #[.int .i64 (sz : Int), .slice aq (dl q) cq, .slice ap (dl p) cp], .slice aa (dl a) ca, .slice ab (dl b) cb] w fun e w' => NumR w e w' ((a + b) % q) := by
  have HA := Lib.hid hA
  have HBB := Lib.hid hB
  have HQ := Lib.hid hQ
  clear hA hB hQ
  go_enter Try.func152, Try.ntmps152
  have hzz : Bx (w.alloc (.cells #[.int .i64 (sz : Int), .slice aq (dl q) cq, .slice ap (dl p) cp] 98)) w.heap.size 98 (gR sz q p aq ap cq cp) := Bx.new w _ _ _ rfl
  have hbz : Below w.heap.size w (w.alloc (.cells #[.int .i64 (sz : Int), .slice aq (dl q) cq, .slice ap (dl p) cp] 98)) := (Below.refl w.heap.size w).alloc (Nat.le_refl _) _
  obtain ⟨W2, hW2⟩ : ∃ W9 : World, (w.alloc (.cells #[.int .i64 (sz : Int), .slice aq (dl q) cq, .slice ap (dl p) cp] 98)) = W9 := ⟨_, rfl⟩
  rw [hW2] at hzz hbz
  have HZ := Lib.hid hzz
  have HBZ := Lib.hid hbz
  have hz_0 := HZ.out.cell (i := 0) rfl
  have hz_1 := HZ.out.cell (i := 1) rfl
  have hz_2 := HZ.out.cell (i := 2) rfl
  have hzl := HZ.out.lt
  clear hzz hbz
  go_wp2_with fail
  have HW0 : Hid (Below W2.heap.size W2 W2.drew) := (Below.refl _ _).drew
  refine wp_region_tree (fun w' => ∃ E : Over W2, w' = E.w) (.qs [0, 1, 3, 4] (.a 2 (.a 5 (.q 6 .done)))) (by kernel_rfl) (by kernel_rfl) (fun _ _ d _ _ h => by cases d <;> exact h) ⟨⟨_, HW0.out⟩, rfl⟩ ?_
  have hov := fun (E : Over W2) o => E.cell (b := w.heap.size) o hzl
  simp only [Tree.qs]
  repeat (refine tree_q rfl rfl ?_; go_big_quiet_step (fail); refine wpQuiet_nil ?_)
  refine tree_a rfl (fun K hK => ?_)
  go_simp
  refine (refPlus_any a b aa ab ca cb (small_dl a ha) (small_dl b hb) _ (HA.out.up (below_up HBZ.out HW0.out)) (HBB.out.up (below_up HBZ.out HW0.out))).mono ?_
  rintro e w4 ⟨a4, c4, rfl, hn9, hb9⟩
  have HN4 := Lib.hid hn9
  have HW4 := Lib.hid (below_up HW0.out hb9)
  clear hn9 hb9
  refine hK _ _ ⟨⟨⟨w4, HW4.out⟩, rfl⟩, ?_⟩
  clear hK K
  refine tree_a rfl (fun K hK => ?_)
  go_simp
  refine (refMod_any (a + b) q a4 aq c4 cq (plus_dl a b ha hb) hq w4 HN4.out (HQ.out.up (below_up HBZ.out HW4.out))).mono ?_
  rintro e w5 ⟨a5, c5, rfl, hn9, hb9⟩
  have HN5 := Lib.hid hn9
  have HW5 := Lib.hid (below_up HW4.out hb9)
  clear hn9 hb9
  refine hK _ _ ⟨⟨⟨w5, HW5.out⟩, rfl⟩, ?_⟩
  clear hK K
  refine tree_q rfl rfl ?_
  go_big_quiet_step (fail)
  refine wpQuiet_nil ?_
  refine tree_end ?_
  have HF := Lib.hid (below_up HBZ.out HW5.out)
  clear hov
  go_wp2_with fail
  go_ret
  exact ⟨a5, c5, rfl, HN5.out, HF.out⟩

set_option maxRecDepth 100000 in
set_option maxHeartbeats 2000000 in
theorem refMul_any (a b sz q p : Nat) (aa ab aq ap : Option Addr) (ca cb cq cp : Nat) (ha : a < DD ^ 16) (hb : b < DD ^ 16) (hq : 0 < q) (w : World) (hA : NumAt w aa a) (hB : NumAt w ab b) (hQ : NumAt w aq q) :
    Calls Try.prog 71 #[.agg #[.int .i64 (sz : Int), .slice aq (dl q) cq, .slice ap (dl p) cp], .slice aa (dl a) ca, .slice ab (dl b) cb] w fun e w' => NumR w e w' (a * b % q) := by
  have HA := Lib.hid hA
  have HBB := Lib.hid hB
  have HQ := Lib.hid hQ
  clear hA hB hQ
  go_enter Try.func71, Try.ntmps71
  have hzz : Bx (w.alloc (.cells #[.int .i64 (sz : Int), .slice aq (dl q) cq, .slice ap (dl p) cp] 98)) w.heap.size 98 (gR sz q p aq ap cq cp) := Bx.new w _ _ _ rfl
  have hbz : Below w.heap.size w (w.alloc (.cells #[.int .i64 (sz : Int), .slice aq (dl q) cq, .slice ap (dl p) cp] 98)) := (Below.refl w.heap.size w).alloc (Nat.le_refl _) _
  obtain ⟨W2, hW2⟩ : ∃ W9 : World, (w.alloc (.cells #[.int .i64 (sz : Int), .slice aq (dl q) cq, .slice ap (dl p) cp] 98)) = W9 := ⟨_, rfl⟩
  rw [hW2] at hzz hbz
  have HZ := Lib.hid hzz
  have HBZ := Lib.hid hbz
  have hz_0 := HZ.out.cell (i := 0) rfl
  have hz_1 := HZ.out.cell (i := 1) rfl
  have hz_2 := HZ.out.cell (i := 2) rfl
  have hzl := HZ.out.lt
  clear hzz hbz
  go_wp2_with fail
  have HW0 : Hid (Below W2.heap.size W2 W2.drew) := (Below.refl _ _).drew
  refine wp_region_tree (fun w' => ∃ E : Over W2, w' = E.w) (.qs [0, 1, 3, 4] (.a 2 (.a 5 (.q 6 .done)))) (by kernel_rfl) (by kernel_rfl) (fun _ _ d _ _ h => by cases d <;> exact h) ⟨⟨_, HW0.out⟩, rfl⟩ ?_
  have hov := fun (E : Over W2) o => E.cell (b := w.heap.size) o hzl
  simp only [Tree.qs]
  repeat (refine tree_q rfl rfl ?_; go_big_quiet_step (fail); refine wpQuiet_nil ?_)
  refine tree_a rfl (fun K hK => ?_)
  go_simp
  refine (refTimes_any a b aa ab ca cb (small_dl a ha) (small_dl b hb) _ (HA.out.up (below_up HBZ.out HW0.out)) (HBB.out.up (below_up HBZ.out HW0.out))).mono ?_
  rintro e w4 ⟨a4, c4, rfl, hn9, hb9⟩
  have HN4 := Lib.hid hn9
  have HW4 := Lib.hid (below_up HW0.out hb9)
  clear hn9 hb9
  refine hK _ _ ⟨⟨⟨w4, HW4.out⟩, rfl⟩, ?_⟩
  clear hK K
  refine tree_a rfl (fun K hK => ?_)
  go_simp
  refine (refMod_any (a * b) q a4 aq c4 cq (lt32 a b ha hb) hq w4 HN4.out (HQ.out.up (below_up HBZ.out HW4.out))).mono ?_
  rintro e w5 ⟨a5, c5, rfl, hn9, hb9⟩
  have HN5 := Lib.hid hn9
  have HW5 := Lib.hid (below_up HW4.out hb9)
  clear hn9 hb9
  refine hK _ _ ⟨⟨⟨w5, HW5.out⟩, rfl⟩, ?_⟩
  clear hK K
  refine tree_q rfl rfl ?_
  go_big_quiet_step (fail)
  refine wpQuiet_nil ?_
  refine tree_end ?_
  have HF := Lib.hid (below_up HBZ.out HW5.out)
  clear hov
  go_wp2_with fail
  go_ret
  exact ⟨a5, c5, rfl, HN5.out, HF.out⟩

set_option maxRecDepth 100000 in
set_option maxHeartbeats 2000000 in
theorem refSub_any (a b sz q p : Nat) (aa ab aq ap : Option Addr) (ca cb cq cp : Nat) (ha : a < DD ^ 16) (hb : b ≤ q) (hq : 0 < q) (hq2 : q < DD ^ 16) (w : World) (hA : NumAt w aa a) (hB : NumAt w ab b) (hQ : NumAt w aq q) :
    Calls Try.prog 68 #[.agg #[.int .i64 (sz : Int), .slice aq (dl q) cq, .slice ap (dl p) cp], .slice aa (dl a) ca, .slice ab (dl b) cb] w fun e w' => NumR w e w' ((a + q - b) % q) := by
  have hb2 : b < DD ^ 16 := Nat.lt_of_le_of_lt hb hq2
  have HA := Lib.hid hA
  have HBB := Lib.hid hB
  have HQ := Lib.hid hQ
  clear hA hB hQ
  go_enter Try.func68, Try.ntmps68
  have hzz : Bx (w.alloc (.cells #[.int .i64 (sz : Int), .slice aq (dl q) cq, .slice ap (dl p) cp] 98)) w.heap.size 98 (gR sz q p aq ap cq cp) := Bx.new w _ _ _ rfl
  have hbz : Below w.heap.size w (w.alloc (.cells #[.int .i64 (sz : Int), .slice aq (dl q) cq, .slice ap (dl p) cp] 98)) := (Below.refl w.heap.size w).alloc (Nat.le_refl _) _
  obtain ⟨W2, hW2⟩ : ∃ W9 : World, (w.alloc (.cells #[.int .i64 (sz : Int), .slice aq (dl q) cq, .slice ap (dl p) cp] 98)) = W9 := ⟨_, rfl⟩
  rw [hW2] at hzz hbz
  have HZ := Lib.hid hzz
  have HBZ := Lib.hid hbz
  have hz_0 := HZ.out.cell (i := 0) rfl
  have hz_1 := HZ.out.cell (i := 1) rfl
  have hz_2 := HZ.out.cell (i := 2) rfl
  have hzl := HZ.out.lt
  clear hzz hbz
  go_wp2_with fail
  have HW0 : Hid (Below W2.heap.size W2 W2.drew) := (Below.refl _ _).drew
  refine wp_region_tree (fun w' => ∃ E : Over W2, w' = E.w) (.qs [0, 1, 2, 4, 6, 7] (.a 3 (.a 5 (.a 8 (.q 9 .done))))) (by kernel_rfl) (by kernel_rfl) (fun _ _ d _ _ h => by cases d <;> exact h) ⟨⟨_, HW0.out⟩, rfl⟩ ?_
  have hov := fun (E : Over W2) o => E.cell (b := w.heap.size) o hzl
  simp only [Tree.qs]
  repeat (refine tree_q rfl rfl ?_; go_big_quiet_step (fail); refine wpQuiet_nil ?_)
  refine tree_a rfl (fun K hK => ?_)
  go_simp
  refine (refPlus_any a q aa aq ca cq (small_dl a ha) (small_dl q hq2) _ (HA.out.up (below_up HBZ.out HW0.out)) (HQ.out.up (below_up HBZ.out HW0.out))).mono ?_
  rintro e w4 ⟨a4, c4, rfl, hn9, hb9⟩
  have HN4 := Lib.hid hn9
  have HW4 := Lib.hid (below_up HW0.out hb9)
  clear hn9 hb9
  refine hK _ _ ⟨⟨⟨w4, HW4.out⟩, rfl⟩, ?_⟩
  clear hK K
  refine tree_a rfl (fun K hK => ?_)
  go_simp
  refine (refMinus_any (a + q) b (a + q - b) a4 ab c4 cb (plus_dl a q ha hq2) (small_dl b hb2) (by omega) w4 HN4.out (HBB.out.up (below_up HBZ.out HW4.out))).mono ?_
  rintro e w5 ⟨a5, c5, rfl, hn9, hb9⟩
  have HN5 := Lib.hid hn9
  have HW5 := Lib.hid (below_up HW4.out hb9)
  clear hn9 hb9
  refine hK _ _ ⟨⟨⟨w5, HW5.out⟩, rfl⟩, ?_⟩
  clear hK K
  refine tree_a rfl (fun K hK => ?_)
  go_simp
  refine (refMod_any (a + q - b) q a5 aq c5 cq (Nat.le_trans (dl_mono _ _ (Nat.sub_le _ _)) (plus_dl a q ha hq2)) hq w5 HN5.out (HQ.out.up (below_up HBZ.out HW5.out))).mono ?_
  rintro e w6 ⟨a6, c6, rfl, hn9, hb9⟩
  have HN6 := Lib.hid hn9
  have HW6 := Lib.hid (below_up HW5.out hb9)
  clear hn9 hb9
  refine hK _ _ ⟨⟨⟨w6, HW6.out⟩, rfl⟩, ?_⟩
  clear hK K
  refine tree_q rfl rfl ?_
  go_big_quiet_step (fail)
  refine wpQuiet_nil ?_
  refine tree_end ?_
  have HF := Lib.hid (below_up HBZ.out HW6.out)
  clear hov
  go_wp2_with fail
  go_ret
  exact ⟨a6, c6, rfl, HN6.out, HF.out⟩

end Go.Proofs.Ytipgjookfdkciaa

/- The document's elements: low, Product, Power, Under, Inv. No condition. -/
namespace Go.Proofs.Ytipgjookfdkciaa
open Go.RowKit

def lowR (q p x : Nat) : Nat := if q < x then p - x else x





set_option maxRecDepth 100000 in
set_option maxHeartbeats 2000000 in
theorem refLow_any (x sz q p : Nat) (ax aq ap : Option Addr) (cx cq cp : Nat) (hx : x ≤ p) (hp : p < DD ^ 16) (w : World) (hX : NumAt w ax x) (hQ : NumAt w aq q) (hP : NumAt w ap p) :
    Calls Try.prog 153 #[.agg #[.int .i64 (sz : Int), .slice aq (dl q) cq, .slice ap (dl p) cp], .slice ax (dl x) cx] w fun e w' => NumR w e w' (lowR q p x) := by
  have hx2 : x < DD ^ 16 := Nat.lt_of_le_of_lt hx hp
  have HX := Lib.hid hX
  have HQ := Lib.hid hQ
  have HP := Lib.hid hP
  clear hX hQ hP
  go_enter Try.func153, Try.ntmps153
  have hzz : Bx (w.alloc (.cells #[.int .i64 (sz : Int), .slice aq (dl q) cq, .slice ap (dl p) cp] 98)) w.heap.size 98 (gR sz q p aq ap cq cp) := Bx.new w _ _ _ rfl
  have hbz : Below w.heap.size w (w.alloc (.cells #[.int .i64 (sz : Int), .slice aq (dl q) cq, .slice ap (dl p) cp] 98)) := (Below.refl w.heap.size w).alloc (Nat.le_refl _) _
  obtain ⟨W2, hW2⟩ : ∃ W9 : World, (w.alloc (.cells #[.int .i64 (sz : Int), .slice aq (dl q) cq, .slice ap (dl p) cp] 98)) = W9 := ⟨_, rfl⟩
  rw [hW2] at hzz hbz
  have HZ := Lib.hid hzz
  have HBZ := Lib.hid hbz
  have hz_0 := HZ.out.cell (i := 0) rfl
  have hz_1 := HZ.out.cell (i := 1) rfl
  have hz_2 := HZ.out.cell (i := 2) rfl
  have hzl := HZ.out.lt
  clear hzz hbz
  go_wp2_with fail
  refine (refCompare_any x q ax aq cx cq (small_dl x hx2) W2 (HX.out.up HBZ.out) (HQ.out.up HBZ.out)).mono ?_
  rintro e w3 ⟨rfl, hb3⟩
  have HB3 := Lib.hid (below_up HBZ.out hb3)
  have HZ3 := Lib.hid (HZ.out.up hb3)
  clear hb3 hz_0 hz_1 hz_2 hzl HZ
  have hz_2 := HZ3.out.cell (i := 2) rfl
  by_cases hlow : q < x
  · have HCI : Hid (cmpI x q = 1) := by show _ = _; unfold cmpI; rw [if_neg (by omega), if_pos hlow]
    have HL : Hid (p - x = lowR q p x) := by show _ = _; unfold lowR; rw [if_pos hlow]
    rw [HCI.out]
    go_wp2_with fail
    refine (refMinus_any p x (p - x) ap ax cp cx (small_dl p hp) (small_dl x hx2) (by omega) w3 (HP.out.up HB3.out) (HX.out.up HB3.out)).mono ?_
    rintro e w4 ⟨a4, c4, rfl, hn4, hb4⟩
    rw [HL.out] at hn4 ⊢
    have HN4 := Lib.hid hn4
    have HB4 := Lib.hid (below_up HB3.out hb4)
    clear hn4 hb4
    go_wp2_with fail
    go_ret
    exact ⟨a4, c4, rfl, HN4.out, HB4.out⟩
  · have HL : Hid (x = lowR q p x) := by show _ = _; unfold lowR; rw [if_neg hlow]
    have hci : (decide (cmpI x q > 0)) = false := by unfold cmpI; simp only [decide_eq_false_iff_not]; split <;> simp <;> omega
    generalize cmpI x q = ci at *
    go_wp2_with fail
    go_ret
    exact ⟨ax, cx, by rw [← HL.out]; rfl, by rw [← HL.out]; exact HX.out.up HB3.out, HB3.out⟩

theorem lowR_le (q p x : Nat) (h : x ≤ p) : lowR q p x ≤ p := by unfold lowR; split <;> omega

set_option maxRecDepth 100000 in
set_option maxHeartbeats 2000000 in
theorem refProduct_any (a b sz q p : Nat) (aa ab aq ap : Option Addr) (ca cb cq cp : Nat) (ha : a < DD ^ 16) (hb : b < DD ^ 16) (hp0 : 0 < p) (hp : p < DD ^ 16) (w : World) (hA : NumAt w aa a) (hB : NumAt w ab b) (hQ : NumAt w aq q) (hP : NumAt w ap p) :
    Calls Try.prog 110 #[.agg #[.int .i64 (sz : Int), .slice aq (dl q) cq, .slice ap (dl p) cp], .slice aa (dl a) ca, .slice ab (dl b) cb] w fun e w' => NumR w e w' (lowR q p (a * b % p)) := by
  have HA := Lib.hid hA
  have HBB := Lib.hid hB
  have HQ := Lib.hid hQ
  have HP := Lib.hid hP
  clear hA hB hQ hP
  go_enter Try.func110, Try.ntmps110
  have hzz : Bx (w.alloc (.cells #[.int .i64 (sz : Int), .slice aq (dl q) cq, .slice ap (dl p) cp] 98)) w.heap.size 98 (gR sz q p aq ap cq cp) := Bx.new w _ _ _ rfl
  have hbz : Below w.heap.size w (w.alloc (.cells #[.int .i64 (sz : Int), .slice aq (dl q) cq, .slice ap (dl p) cp] 98)) := (Below.refl w.heap.size w).alloc (Nat.le_refl _) _
  obtain ⟨W2, hW2⟩ : ∃ W9 : World, (w.alloc (.cells #[.int .i64 (sz : Int), .slice aq (dl q) cq, .slice ap (dl p) cp] 98)) = W9 := ⟨_, rfl⟩
  rw [hW2] at hzz hbz
  have HZ := Lib.hid hzz
  have HBZ := Lib.hid hbz
  have hz_0 := HZ.out.cell (i := 0) rfl
  have hz_1 := HZ.out.cell (i := 1) rfl
  have hz_2 := HZ.out.cell (i := 2) rfl
  have hzl := HZ.out.lt
  clear hzz hbz
  go_wp2_with fail
  have HW0 : Hid (Below W2.heap.size W2 W2.drew) := (Below.refl _ _).drew
  refine wp_region_tree (fun w' => ∃ E : Over W2, w' = E.w) (.qs [0, 1, 2, 4, 5] (.a 3 (.a 6 (.a 7 (.q 8 .done))))) (by kernel_rfl) (by kernel_rfl) (fun _ _ d _ _ h => by cases d <;> exact h) ⟨⟨_, HW0.out⟩, rfl⟩ ?_
  have hov := fun (E : Over W2) o => E.cell (b := w.heap.size) o hzl
  simp only [Tree.qs]
  repeat (refine tree_q rfl rfl ?_; go_big_quiet_step (fail); refine wpQuiet_nil ?_)
  refine tree_a rfl (fun K hK => ?_)
  go_simp
  refine (refTimes_any a b aa ab ca cb (small_dl a ha) (small_dl b hb) _ (HA.out.up (below_up HBZ.out HW0.out)) (HBB.out.up (below_up HBZ.out HW0.out))).mono ?_
  rintro e w4 ⟨a4, c4, rfl, hn9, hb9⟩
  have HN4 := Lib.hid hn9
  have HW4 := Lib.hid (below_up HW0.out hb9)
  clear hn9 hb9
  refine hK _ _ ⟨⟨⟨w4, HW4.out⟩, rfl⟩, ?_⟩
  clear hK K
  refine tree_a rfl (fun K hK => ?_)
  go_simp
  refine (refMod_any (a * b) p a4 ap c4 cp (lt32 a b ha hb) hp0 w4 HN4.out (HP.out.up (below_up HBZ.out HW4.out))).mono ?_
  rintro e w5 ⟨a5, c5, rfl, hn9, hb9⟩
  have HN5 := Lib.hid hn9
  have HW5 := Lib.hid (below_up HW4.out hb9)
  clear hn9 hb9
  refine hK _ _ ⟨⟨⟨w5, HW5.out⟩, rfl⟩, ?_⟩
  clear hK K
  refine tree_a rfl (fun K hK => ?_)
  go_simp
  refine (refLow_any (a * b % p) sz q p a5 aq ap c5 cq cp (Nat.le_of_lt (Nat.mod_lt _ hp0)) hp w5 HN5.out (HQ.out.up (below_up HBZ.out HW5.out)) (HP.out.up (below_up HBZ.out HW5.out))).mono ?_
  rintro e w6 ⟨a6, c6, rfl, hn9, hb9⟩
  have HN6 := Lib.hid hn9
  have HW6 := Lib.hid (below_up HW5.out hb9)
  clear hn9 hb9
  refine hK _ _ ⟨⟨⟨w6, HW6.out⟩, rfl⟩, ?_⟩
  clear hK K
  refine tree_q rfl rfl ?_
  go_big_quiet_step (fail)
  refine wpQuiet_nil ?_
  refine tree_end ?_
  have HF := Lib.hid (below_up HBZ.out HW6.out)
  clear hov
  go_wp2_with fail
  go_ret
  exact ⟨a6, c6, rfl, HN6.out, HF.out⟩

set_option maxRecDepth 100000 in
set_option maxHeartbeats 2000000 in
theorem refPow_any (a n sz q p : Nat) (aa an aq ap : Option Addr) (ca cn cq cp : Nat) (ha : a < DD ^ 16) (hn : dl n ≤ 65536) (hp0 : 1 < p) (hp : p < DD ^ 16) (w : World) (hA : NumAt w aa a) (hN : NumAt w an n) (hQ : NumAt w aq q) (hP : NumAt w ap p) :
    Calls Try.prog 111 #[.agg #[.int .i64 (sz : Int), .slice aq (dl q) cq, .slice ap (dl p) cp], .slice aa (dl a) ca, .slice an (dl n) cn] w fun e w' => NumR w e w' (lowR q p (a ^ n % p)) := by
  have HA := Lib.hid hA
  have HNN := Lib.hid hN
  have HQ := Lib.hid hQ
  have HP := Lib.hid hP
  clear hA hN hQ hP
  go_enter Try.func111, Try.ntmps111
  have hzz : Bx (w.alloc (.cells #[.int .i64 (sz : Int), .slice aq (dl q) cq, .slice ap (dl p) cp] 98)) w.heap.size 98 (gR sz q p aq ap cq cp) := Bx.new w _ _ _ rfl
  have hbz : Below w.heap.size w (w.alloc (.cells #[.int .i64 (sz : Int), .slice aq (dl q) cq, .slice ap (dl p) cp] 98)) := (Below.refl w.heap.size w).alloc (Nat.le_refl _) _
  obtain ⟨W2, hW2⟩ : ∃ W9 : World, (w.alloc (.cells #[.int .i64 (sz : Int), .slice aq (dl q) cq, .slice ap (dl p) cp] 98)) = W9 := ⟨_, rfl⟩
  rw [hW2] at hzz hbz
  have HZ := Lib.hid hzz
  have HBZ := Lib.hid hbz
  have hz_0 := HZ.out.cell (i := 0) rfl
  have hz_1 := HZ.out.cell (i := 1) rfl
  have hz_2 := HZ.out.cell (i := 2) rfl
  have hzl := HZ.out.lt
  clear hzz hbz
  go_wp2_with fail
  have HW0 : Hid (Below W2.heap.size W2 W2.drew) := (Below.refl _ _).drew
  refine wp_region_tree (fun w' => ∃ E : Over W2, w' = E.w) (.qs [0, 1, 2, 3, 4] (.a 5 (.a 6 (.q 7 .done)))) (by kernel_rfl) (by kernel_rfl) (fun _ _ d _ _ h => by cases d <;> exact h) ⟨⟨_, HW0.out⟩, rfl⟩ ?_
  have hov := fun (E : Over W2) o => E.cell (b := w.heap.size) o hzl
  simp only [Tree.qs]
  repeat (refine tree_q rfl rfl ?_; go_big_quiet_step (fail); refine wpQuiet_nil ?_)
  refine tree_a rfl (fun K hK => ?_)
  go_simp
  refine (refPower_any a n p aa an ap ca cn cp ha hn hp0 hp _ (HA.out.up (below_up HBZ.out HW0.out)) (HNN.out.up (below_up HBZ.out HW0.out)) (HP.out.up (below_up HBZ.out HW0.out))).mono ?_
  rintro e w4 ⟨a4, c4, rfl, hn9, hb9⟩
  have HN4 := Lib.hid hn9
  have HW4 := Lib.hid (below_up HW0.out hb9)
  clear hn9 hb9
  refine hK _ _ ⟨⟨⟨w4, HW4.out⟩, rfl⟩, ?_⟩
  clear hK K
  refine tree_a rfl (fun K hK => ?_)
  go_simp
  refine (refLow_any (a ^ n % p) sz q p a4 aq ap c4 cq cp (Nat.le_of_lt (Nat.mod_lt _ (by omega))) hp w4 HN4.out (HQ.out.up (below_up HBZ.out HW4.out)) (HP.out.up (below_up HBZ.out HW4.out))).mono ?_
  rintro e w5 ⟨a5, c5, rfl, hn9, hb9⟩
  have HN5 := Lib.hid hn9
  have HW5 := Lib.hid (below_up HW4.out hb9)
  clear hn9 hb9
  refine hK _ _ ⟨⟨⟨w5, HW5.out⟩, rfl⟩, ?_⟩
  clear hK K
  refine tree_q rfl rfl ?_
  go_big_quiet_step (fail)
  refine wpQuiet_nil ?_
  refine tree_end ?_
  have HF := Lib.hid (below_up HBZ.out HW5.out)
  clear hov
  go_wp2_with fail
  go_ret
  exact ⟨a5, c5, rfl, HN5.out, HF.out⟩

set_option maxRecDepth 100000 in
set_option maxHeartbeats 2000000 in
theorem refUnder_any (a sz q p : Nat) (aa aq ap : Option Addr) (ca cq cp : Nat) (ha : a < DD ^ 16) (hq1 : 1 ≤ q) (hq : q < DD ^ 16) (hp0 : 1 < p) (hp : p < DD ^ 16) (w : World) (hA : NumAt w aa a) (hQ : NumAt w aq q) (hP : NumAt w ap p) :
    Calls Try.prog 148 #[.agg #[.int .i64 (sz : Int), .slice aq (dl q) cq, .slice ap (dl p) cp], .slice aa (dl a) ca] w fun e w' => NumR w e w' (lowR q p (a ^ (q - 1) % p)) := by
  have HA := Lib.hid hA
  have HQ := Lib.hid hQ
  have HP := Lib.hid hP
  clear hA hQ hP
  go_enter Try.func148, Try.ntmps148
  have hzz : Bx (w.alloc (.cells #[.int .i64 (sz : Int), .slice aq (dl q) cq, .slice ap (dl p) cp] 98)) w.heap.size 98 (gR sz q p aq ap cq cp) := Bx.new w _ _ _ rfl
  have hbz : Below w.heap.size w (w.alloc (.cells #[.int .i64 (sz : Int), .slice aq (dl q) cq, .slice ap (dl p) cp] 98)) := (Below.refl w.heap.size w).alloc (Nat.le_refl _) _
  obtain ⟨W2, hW2⟩ : ∃ W9 : World, (w.alloc (.cells #[.int .i64 (sz : Int), .slice aq (dl q) cq, .slice ap (dl p) cp] 98)) = W9 := ⟨_, rfl⟩
  rw [hW2] at hzz hbz
  have HZ := Lib.hid hzz
  have HBZ := Lib.hid hbz
  have hz_0 := HZ.out.cell (i := 0) rfl
  have hz_1 := HZ.out.cell (i := 1) rfl
  have hz_2 := HZ.out.cell (i := 2) rfl
  have hzl := HZ.out.lt
  clear hzz hbz
  go_wp2_with fail
  have HW0 : Hid (Below W2.heap.size W2 W2.drew) := (Below.refl _ _).drew
  refine wp_region_tree (fun w' => ∃ E : Over W2, w' = E.w) (.qs [0, 1, 2, 3] (.a 4 (.a 5 (.a 6 (.q 7 .done))))) (by kernel_rfl) (by kernel_rfl) (fun _ _ d _ _ h => by cases d <;> exact h) ⟨⟨_, HW0.out⟩, rfl⟩ ?_
  have hov := fun (E : Over W2) o => E.cell (b := w.heap.size) o hzl
  simp only [Tree.qs]
  repeat (refine tree_q rfl rfl ?_; go_big_quiet_step (fail); refine wpQuiet_nil ?_)
  refine tree_a rfl (fun K hK => ?_)
  go_simp
  refine (refOf_any 1 (by omega) _).mono ?_
  rintro e w4 ⟨a4, c4, rfl, hn9, hb9⟩
  have HN4 := Lib.hid hn9
  have HW4 := Lib.hid (below_up HW0.out hb9)
  clear hn9 hb9
  refine hK _ _ ⟨⟨⟨w4, HW4.out⟩, rfl⟩, ?_⟩
  clear hK K
  refine tree_a rfl (fun K hK => ?_)
  go_simp
  refine (refMinus_any q 1 (q - 1) aq a4 cq c4 (small_dl q hq) (by decide) (by omega) w4 (HQ.out.up (below_up HBZ.out HW4.out)) HN4.out).mono ?_
  rintro e w5 ⟨a5, c5, rfl, hn9, hb9⟩
  have HN5 := Lib.hid hn9
  have HW5 := Lib.hid (below_up HW4.out hb9)
  clear hn9 hb9
  refine hK _ _ ⟨⟨⟨w5, HW5.out⟩, rfl⟩, ?_⟩
  clear hK K
  refine tree_a rfl (fun K hK => ?_)
  go_simp
  refine (refPow_any a (q - 1) sz q p aa a5 aq ap ca c5 cq cp ha (Nat.le_trans (dl_of_lt (q - 1) 16 (by omega)) (by decide)) hp0 hp w5 (HA.out.up (below_up HBZ.out HW5.out)) HN5.out (HQ.out.up (below_up HBZ.out HW5.out)) (HP.out.up (below_up HBZ.out HW5.out))).mono ?_
  rintro e w6 ⟨a6, c6, rfl, hn9, hb9⟩
  have HN6 := Lib.hid hn9
  have HW6 := Lib.hid (below_up HW5.out hb9)
  clear hn9 hb9
  refine hK _ _ ⟨⟨⟨w6, HW6.out⟩, rfl⟩, ?_⟩
  clear hK K
  refine tree_q rfl rfl ?_
  go_big_quiet_step (fail)
  refine wpQuiet_nil ?_
  refine tree_end ?_
  have HF := Lib.hid (below_up HBZ.out HW6.out)
  clear hov
  go_wp2_with fail
  go_ret
  exact ⟨a6, c6, rfl, HN6.out, HF.out⟩

set_option maxRecDepth 100000 in
set_option maxHeartbeats 2000000 in
theorem refInv_any (a sz q p : Nat) (aa aq ap : Option Addr) (ca cq cp : Nat) (ha : a < DD ^ 16) (hq1 : 2 ≤ q) (hq : q < DD ^ 16) (w : World) (hA : NumAt w aa a) (hQ : NumAt w aq q) :
    Calls Try.prog 67 #[.agg #[.int .i64 (sz : Int), .slice aq (dl q) cq, .slice ap (dl p) cp], .slice aa (dl a) ca] w fun e w' => NumR w e w' (a ^ (q - 2) % q) := by
  have HA := Lib.hid hA
  have HQ := Lib.hid hQ
  clear hA hQ
  go_enter Try.func67, Try.ntmps67
  have hzz : Bx (w.alloc (.cells #[.int .i64 (sz : Int), .slice aq (dl q) cq, .slice ap (dl p) cp] 98)) w.heap.size 98 (gR sz q p aq ap cq cp) := Bx.new w _ _ _ rfl
  have hbz : Below w.heap.size w (w.alloc (.cells #[.int .i64 (sz : Int), .slice aq (dl q) cq, .slice ap (dl p) cp] 98)) := (Below.refl w.heap.size w).alloc (Nat.le_refl _) _
  obtain ⟨W2, hW2⟩ : ∃ W9 : World, (w.alloc (.cells #[.int .i64 (sz : Int), .slice aq (dl q) cq, .slice ap (dl p) cp] 98)) = W9 := ⟨_, rfl⟩
  rw [hW2] at hzz hbz
  have HZ := Lib.hid hzz
  have HBZ := Lib.hid hbz
  have hz_0 := HZ.out.cell (i := 0) rfl
  have hz_1 := HZ.out.cell (i := 1) rfl
  have hz_2 := HZ.out.cell (i := 2) rfl
  have hzl := HZ.out.lt
  clear hzz hbz
  go_wp2_with fail
  have HW0 : Hid (Below W2.heap.size W2 W2.drew) := (Below.refl _ _).drew
  refine wp_region_tree (fun w' => ∃ E : Over W2, w' = E.w) (.qs [0, 1, 2, 5, 6] (.a 3 (.a 4 (.a 7 (.q 8 .done))))) (by kernel_rfl) (by kernel_rfl) (fun _ _ d _ _ h => by cases d <;> exact h) ⟨⟨_, HW0.out⟩, rfl⟩ ?_
  have hov := fun (E : Over W2) o => E.cell (b := w.heap.size) o hzl
  simp only [Tree.qs]
  repeat (refine tree_q rfl rfl ?_; go_big_quiet_step (fail); refine wpQuiet_nil ?_)
  refine tree_a rfl (fun K hK => ?_)
  go_simp
  refine (refOf_any 2 (by omega) _).mono ?_
  rintro e w4 ⟨a4, c4, rfl, hn9, hb9⟩
  have HN4 := Lib.hid hn9
  have HW4 := Lib.hid (below_up HW0.out hb9)
  clear hn9 hb9
  refine hK _ _ ⟨⟨⟨w4, HW4.out⟩, rfl⟩, ?_⟩
  clear hK K
  refine tree_a rfl (fun K hK => ?_)
  go_simp
  refine (refMinus_any q 2 (q - 2) aq a4 cq c4 (small_dl q hq) (by decide) (by omega) w4 (HQ.out.up (below_up HBZ.out HW4.out)) HN4.out).mono ?_
  rintro e w5 ⟨a5, c5, rfl, hn9, hb9⟩
  have HN5 := Lib.hid hn9
  have HW5 := Lib.hid (below_up HW4.out hb9)
  clear hn9 hb9
  refine hK _ _ ⟨⟨⟨w5, HW5.out⟩, rfl⟩, ?_⟩
  clear hK K
  refine tree_a rfl (fun K hK => ?_)
  go_simp
  refine (refPower_any a (q - 2) q aa a5 aq ca c5 cq ha (Nat.le_trans (dl_of_lt (q - 2) 16 (by omega)) (by decide)) (by omega) hq w5 (HA.out.up (below_up HBZ.out HW5.out)) HN5.out (HQ.out.up (below_up HBZ.out HW5.out))).mono ?_
  rintro e w6 ⟨a6, c6, rfl, hn9, hb9⟩
  have HN6 := Lib.hid hn9
  have HW6 := Lib.hid (below_up HW5.out hb9)
  clear hn9 hb9
  refine hK _ _ ⟨⟨⟨w6, HW6.out⟩, rfl⟩, ?_⟩
  clear hK K
  refine tree_q rfl rfl ?_
  go_big_quiet_step (fail)
  refine wpQuiet_nil ?_
  refine tree_end ?_
  have HF := Lib.hid (below_up HBZ.out HW6.out)
  clear hov
  go_wp2_with fail
  go_ret
  exact ⟨a6, c6, rfl, HN6.out, HF.out⟩

end Go.Proofs.Ytipgjookfdkciaa

/- The document's IsScalar, IsElem, Number. No condition. -/
namespace Go.Proofs.Ytipgjookfdkciaa
open Go.RowKit






def isSc (q sz : Nat) (s : ByteArray) : Bool := decide (s.size = sz) && decide (numOf s < q)
def isEl (q sz : Nat) (s : ByteArray) : Bool := decide (s.size = sz) && decide (0 < numOf s) && decide (numOf s ≤ q)

theorem cmpI_lt (a b : Nat) : decide (cmpI a b < 0) = decide (a < b) := by unfold cmpI; split; · simp [*]
                                                                           · split <;> simp <;> omega
theorem cmpI_le (a b : Nat) : decide (cmpI a b ≤ 0) = decide (a ≤ b) := by
  unfold cmpI
  split
  · simp; omega
  · split <;> simp <;> omega
theorem numOf_16 (s : ByteArray) (hs : s.size ≤ 32) : numOf s < DD ^ 16 := numOf_lt s hs

set_option maxRecDepth 100000 in
set_option maxHeartbeats 2000000 in
theorem refIsScalar_any (s : ByteArray) (sz q p : Nat) (aq ap : Option Addr) (cq cp : Nat) (hsz : sz ≤ 32) (w : World) (hQ : NumAt w aq q) :
    Calls Try.prog 66 #[.agg #[.int .i64 (sz : Int), .slice aq (dl q) cq, .slice ap (dl p) cp], .string s] w fun e w' => e = .returned (.bool (isSc q sz s)) ∧ Below w.heap.size w w' := by
  have HQ := Lib.hid hQ
  clear hQ
  by_cases hl : s.size = sz
  · have HR : Hid (isSc q sz s = decide (numOf s < q)) := by show _ = _; unfold isSc; simp [hl]
    have hn := numOf_16 s (by omega)
    have hd : ((s.size : Int) == (sz : Int)) = true := by rw [hl]; simp
    have hss : s.size ≤ 1048576 := by omega
    clear hl
    go_enter Try.func66, Try.ntmps66
    have hzz : Bx (w.alloc (.cells #[.int .i64 (sz : Int), .slice aq (dl q) cq, .slice ap (dl p) cp] 98)) w.heap.size 98 (gR sz q p aq ap cq cp) := Bx.new w _ _ _ rfl
    have hbz : Below w.heap.size w (w.alloc (.cells #[.int .i64 (sz : Int), .slice aq (dl q) cq, .slice ap (dl p) cp] 98)) := (Below.refl w.heap.size w).alloc (Nat.le_refl _) _
    obtain ⟨W2, hW2⟩ : ∃ W9 : World, (w.alloc (.cells #[.int .i64 (sz : Int), .slice aq (dl q) cq, .slice ap (dl p) cp] 98)) = W9 := ⟨_, rfl⟩
    rw [hW2] at hzz hbz
    have HZ := Lib.hid hzz
    have HBZ := Lib.hid hbz
    have hz_0 := HZ.out.cell (i := 0) rfl
    have hz_1 := HZ.out.cell (i := 1) rfl
    have hz_2 := HZ.out.cell (i := 2) rfl
    have hzl := HZ.out.lt
    clear hzz hbz
    go_wp2_with fail
    have HW0 : Hid (Below W2.heap.size W2 W2.drew) := (Below.refl _ _).drew
    refine wp_region_tree (fun w' => ∃ E : Over W2, w' = E.w) (.qs [0, 1, 2, 3, 4, 5, 6, 8, 9] (.a 7 (.a 10 (.q 11 (.q 12 (.q 13 .done)))))) (by kernel_rfl) (by kernel_rfl) (fun _ _ d _ _ h => by cases d <;> exact h) ⟨⟨_, HW0.out⟩, rfl⟩ ?_
    have hov := fun (E : Over W2) o => E.cell (b := w.heap.size) o hzl
    simp only [Tree.qs]
    repeat (refine tree_q rfl rfl ?_; go_big_quiet_step (fail); refine wpQuiet_nil ?_)
    refine tree_a rfl (fun K hK => ?_)
    go_simp
    refine (refRead_any s hss _).mono ?_
    rintro e w4 ⟨a4, c4, rfl, hn9, hb9⟩
    have HN4 := Lib.hid hn9
    have HW4 := Lib.hid (below_up HW0.out hb9)
    clear hn9 hb9
    refine hK _ _ ⟨⟨⟨w4, HW4.out⟩, rfl⟩, ?_⟩
    clear hK K
    refine tree_a rfl (fun K hK => ?_)
    go_simp
    refine (refCompare_any (numOf s) q a4 aq c4 cq (small_dl _ hn) w4 HN4.out (HQ.out.up (below_up HBZ.out HW4.out))).mono ?_
    rintro e w5 ⟨rfl, hb9⟩
    have HW5 := Lib.hid (below_up HW4.out hb9)
    clear hb9
    refine hK _ _ ⟨⟨⟨w5, HW5.out⟩, rfl⟩, ?_⟩
    clear hK K
    repeat (refine tree_q rfl rfl ?_; go_big_quiet_step (fail); refine wpQuiet_nil ?_)
    refine tree_end ?_
    have HF := Lib.hid (below_up HBZ.out HW5.out)
    clear hov
    go_wp2_with fail
    go_ret
    exact ⟨by rw [HR.out, ← cmpI_lt]; rfl, HF.out⟩
  · have HR : Hid (isSc q sz s = false) := by show _ = _; unfold isSc; simp [hl]
    have hd : ((s.size : Int) == (sz : Int)) = false := by simp; omega
    clear hl
    go_enter Try.func66, Try.ntmps66
    have hzz : Bx (w.alloc (.cells #[.int .i64 (sz : Int), .slice aq (dl q) cq, .slice ap (dl p) cp] 98)) w.heap.size 98 (gR sz q p aq ap cq cp) := Bx.new w _ _ _ rfl
    have hbz : Below w.heap.size w (w.alloc (.cells #[.int .i64 (sz : Int), .slice aq (dl q) cq, .slice ap (dl p) cp] 98)) := (Below.refl w.heap.size w).alloc (Nat.le_refl _) _
    obtain ⟨W2, hW2⟩ : ∃ W9 : World, (w.alloc (.cells #[.int .i64 (sz : Int), .slice aq (dl q) cq, .slice ap (dl p) cp] 98)) = W9 := ⟨_, rfl⟩
    rw [hW2] at hzz hbz
    have HZ := Lib.hid hzz
    have HBZ := Lib.hid hbz
    have hz_0 := HZ.out.cell (i := 0) rfl
    have hz_1 := HZ.out.cell (i := 1) rfl
    have hz_2 := HZ.out.cell (i := 2) rfl
    have hzl := HZ.out.lt
    clear hzz hbz
    go_wp2_with fail
    go_quiet (fail)
    go_wp2_with fail
    go_ret
    exact ⟨by rw [HR.out]; rfl, below_up HBZ.out (below_drewN (Below.refl _ _) _)⟩


set_option maxRecDepth 100000 in
set_option maxHeartbeats 2000000 in
theorem refIsElem_any (s : ByteArray) (sz q p : Nat) (aq ap : Option Addr) (cq cp : Nat) (hsz : sz ≤ 32) (w : World) (hQ : NumAt w aq q) :
    Calls Try.prog 79 #[.agg #[.int .i64 (sz : Int), .slice aq (dl q) cq, .slice ap (dl p) cp], .string s] w fun e w' => e = .returned (.bool (isEl q sz s)) ∧ Below w.heap.size w w' := by
  have HQ := Lib.hid hQ
  clear hQ
  by_cases hl : s.size = sz
  · have hn := numOf_16 s (by omega)
    have hd : ((s.size : Int) == (sz : Int)) = true := by rw [hl]; simp
    have hss : s.size ≤ 1048576 := by omega
    by_cases h0 : 0 < numOf s
    · have HR : Hid (isEl q sz s = decide (numOf s ≤ q)) := by show _ = _; unfold isEl; simp [hl, h0]
      have hdl := dl_pos _ (Nat.ne_of_gt h0)
      have hdd : decide ((dl (numOf s) : Int) > 0) = true := by simp; omega
      clear hl h0
      go_enter Try.func79, Try.ntmps79
      have hzz : Bx (w.alloc (.cells #[.int .i64 (sz : Int), .slice aq (dl q) cq, .slice ap (dl p) cp] 98)) w.heap.size 98 (gR sz q p aq ap cq cp) := Bx.new w _ _ _ rfl
      have hbz : Below w.heap.size w (w.alloc (.cells #[.int .i64 (sz : Int), .slice aq (dl q) cq, .slice ap (dl p) cp] 98)) := (Below.refl w.heap.size w).alloc (Nat.le_refl _) _
      obtain ⟨W2, hW2⟩ : ∃ W9 : World, (w.alloc (.cells #[.int .i64 (sz : Int), .slice aq (dl q) cq, .slice ap (dl p) cp] 98)) = W9 := ⟨_, rfl⟩
      rw [hW2] at hzz hbz
      have HZ := Lib.hid hzz
      have HBZ := Lib.hid hbz
      have hz_0 := HZ.out.cell (i := 0) rfl
      have hz_1 := HZ.out.cell (i := 1) rfl
      have hz_2 := HZ.out.cell (i := 2) rfl
      have hzl := HZ.out.lt
      clear hzz hbz
      go_wp2_with fail
      have HW0 : Hid (Below W2.heap.size W2 W2.drew) := (Below.refl _ _).drew
      refine wp_region_tree (fun w' => ∃ E : Over W2, w' = E.w) (.qs [0, 1, 2, 3, 4, 5, 6] (.a 7 (.q 8 (.q 9 (.q 10 (.q 11 (.q 12 (.q 14 (.q 15 (.a 13 (.a 16 (.q 17 (.q 18 (.q 19 .done)))))))))))))) (by kernel_rfl) (by kernel_rfl) (fun _ _ d _ _ h => by cases d <;> exact h) ⟨⟨_, HW0.out⟩, rfl⟩ ?_
      have hov := fun (E : Over W2) o => E.cell (b := w.heap.size) o hzl
      simp only [Tree.qs]
      repeat (refine tree_q rfl rfl ?_; go_big_quiet_step (fail); refine wpQuiet_nil ?_)
      refine tree_a rfl (fun K hK => ?_)
      go_simp
      refine (refRead_any s hss _).mono ?_
      rintro e w4 ⟨a4, c4, rfl, hn9, hb9⟩
      have HN4 := Lib.hid hn9
      have HW4 := Lib.hid (below_up HW0.out hb9)
      clear hn9 hb9
      refine hK _ _ ⟨⟨⟨w4, HW4.out⟩, rfl⟩, ?_⟩
      clear hK K
      repeat (refine tree_q rfl rfl ?_; go_big_quiet_step (fail); refine wpQuiet_nil ?_)
      refine tree_a rfl (fun K hK => ?_)
      go_simp
      refine (refRead_any s hss _).mono ?_
      rintro e w5 ⟨a5, c5, rfl, hn9, hb9⟩
      have HN5 := Lib.hid hn9
      have HW5 := Lib.hid (below_up HW4.out hb9)
      clear hn9 hb9
      refine hK _ _ ⟨⟨⟨w5, HW5.out⟩, rfl⟩, ?_⟩
      clear hK K
      refine tree_a rfl (fun K hK => ?_)
      go_simp
      refine (refCompare_any (numOf s) q a5 aq c5 cq (small_dl _ hn) w5 HN5.out (HQ.out.up (below_up HBZ.out HW5.out))).mono ?_
      rintro e w6 ⟨rfl, hb9⟩
      have HW6 := Lib.hid (below_up HW5.out hb9)
      clear hb9
      refine hK _ _ ⟨⟨⟨w6, HW6.out⟩, rfl⟩, ?_⟩
      clear hK K
      repeat (refine tree_q rfl rfl ?_; go_big_quiet_step (fail); refine wpQuiet_nil ?_)
      refine tree_end ?_
      have HF := Lib.hid (below_up HBZ.out HW6.out)
      clear hov
      go_wp2_with fail
      go_ret
      exact ⟨by rw [HR.out, ← cmpI_le]; rfl, HF.out⟩
    · have HR : Hid (isEl q sz s = false) := by show _ = _; unfold isEl; simp [h0]
      have h00 : numOf s = 0 := by omega
      have hdl : dl (numOf s) = 0 := by rw [h00]; rfl
      clear hl h0 h00
      go_enter Try.func79, Try.ntmps79
      have hzz : Bx (w.alloc (.cells #[.int .i64 (sz : Int), .slice aq (dl q) cq, .slice ap (dl p) cp] 98)) w.heap.size 98 (gR sz q p aq ap cq cp) := Bx.new w _ _ _ rfl
      have hbz : Below w.heap.size w (w.alloc (.cells #[.int .i64 (sz : Int), .slice aq (dl q) cq, .slice ap (dl p) cp] 98)) := (Below.refl w.heap.size w).alloc (Nat.le_refl _) _
      obtain ⟨W2, hW2⟩ : ∃ W9 : World, (w.alloc (.cells #[.int .i64 (sz : Int), .slice aq (dl q) cq, .slice ap (dl p) cp] 98)) = W9 := ⟨_, rfl⟩
      rw [hW2] at hzz hbz
      have HZ := Lib.hid hzz
      have HBZ := Lib.hid hbz
      have hz_0 := HZ.out.cell (i := 0) rfl
      have hz_1 := HZ.out.cell (i := 1) rfl
      have hz_2 := HZ.out.cell (i := 2) rfl
      have hzl := HZ.out.lt
      clear hzz hbz
      go_wp2_with fail
      have HW0 : Hid (Below W2.heap.size W2 W2.drew) := (Below.refl _ _).drew
      refine wp_region_tree (fun w' => ∃ E : Over W2, w' = E.w) (.qs [0, 1, 2, 3, 4, 5, 6] (.a 7 (.q 8 (.q 9 (.q 10 (.q 11 (.q 12 (.q 14 (.q 15 (.a 13 (.a 16 (.q 17 (.q 18 (.q 19 .done)))))))))))))) (by kernel_rfl) (by kernel_rfl) (fun _ _ d _ _ h => by cases d <;> exact h) ⟨⟨_, HW0.out⟩, rfl⟩ ?_
      have hov := fun (E : Over W2) o => E.cell (b := w.heap.size) o hzl
      simp only [Tree.qs]
      repeat (refine tree_q rfl rfl ?_; go_big_quiet_step (fail); refine wpQuiet_nil ?_)
      refine tree_a rfl (fun K hK => ?_)
      go_simp
      refine (refRead_any s hss _).mono ?_
      rintro e w4 ⟨a4, c4, rfl, hn9, hb9⟩
      have HN4 := Lib.hid hn9
      have HW4 := Lib.hid (below_up HW0.out hb9)
      clear hn9 hb9
      refine hK _ _ ⟨⟨⟨w4, HW4.out⟩, rfl⟩, ?_⟩
      clear hK K
      repeat (refine tree_q rfl rfl ?_; go_big_quiet_step (fail); refine wpQuiet_nil ?_)
      refine tree_a rfl (fun K hK => ?_)
      go_simp
      refine hK _ _ ⟨⟨⟨w4, HW4.out⟩, rfl⟩, ?_⟩
      clear hK K
      refine tree_a rfl (fun K hK => ?_)
      go_simp
      refine hK _ _ ⟨⟨⟨w4, HW4.out⟩, rfl⟩, ?_⟩
      clear hK K
      repeat (refine tree_q rfl rfl ?_; go_big_quiet_step (fail); refine wpQuiet_nil ?_)
      refine tree_end ?_
      have HF := Lib.hid (below_up HBZ.out HW4.out)
      clear hov
      go_wp2_with fail
      go_ret
      exact ⟨by rw [HR.out]; rfl, HF.out⟩
  · have HR : Hid (isEl q sz s = false) := by show _ = _; unfold isEl; simp [hl]
    have hd : ((s.size : Int) == (sz : Int)) = false := by simp; omega
    clear hl
    go_enter Try.func79, Try.ntmps79
    have hzz : Bx (w.alloc (.cells #[.int .i64 (sz : Int), .slice aq (dl q) cq, .slice ap (dl p) cp] 98)) w.heap.size 98 (gR sz q p aq ap cq cp) := Bx.new w _ _ _ rfl
    have hbz : Below w.heap.size w (w.alloc (.cells #[.int .i64 (sz : Int), .slice aq (dl q) cq, .slice ap (dl p) cp] 98)) := (Below.refl w.heap.size w).alloc (Nat.le_refl _) _
    obtain ⟨W2, hW2⟩ : ∃ W9 : World, (w.alloc (.cells #[.int .i64 (sz : Int), .slice aq (dl q) cq, .slice ap (dl p) cp] 98)) = W9 := ⟨_, rfl⟩
    rw [hW2] at hzz hbz
    have HZ := Lib.hid hzz
    have HBZ := Lib.hid hbz
    have hz_0 := HZ.out.cell (i := 0) rfl
    have hz_1 := HZ.out.cell (i := 1) rfl
    have hz_2 := HZ.out.cell (i := 2) rfl
    have hzl := HZ.out.lt
    clear hzz hbz
    go_wp2_with fail
    go_quiet (fail)
    go_wp2_with fail
    go_ret
    exact ⟨by rw [HR.out]; rfl, below_up HBZ.out (below_drewN (Below.refl _ _) _)⟩

end Go.Proofs.Ytipgjookfdkciaa

/- The package group: Scalar, Member. No condition. -/
namespace Go.Proofs.Ytipgjookfdkciaa
open Go.RowKit

/-- What a reading of bytes answers: limbs, and whether it was good. -/
def ReadR (ok : Bool) (v : Value) (w : World) (e : Ending) (w' : World) : Prop := ∃ x : Nat, e = .returned (.tuple #[limbV x, .bool ok]) ∧ Below w.heap.size w w' ∧ (ok = true → limbV x = v)

theorem gScalar_any (G : GP) (ok : G.Ok) (gb : Nat) (s : ByteArray) (w : World) (hG : GroupAt w gb G) :
    Calls Try.prog 59 #[.pointer (some ⟨gb, 0, none⟩), .string s] w (ReadR (isSc G.q.m G.size s) (scV G (numOf s)) w) := by
  have no : isSc G.q.m G.size s = false → ∀ e w', (e = .returned (.tuple #[limbV 0, .bool false]) ∧ Below w.heap.size w w') → ReadR (isSc G.q.m G.size s) (scV G (numOf s)) w e w' := fun h e w' ⟨h1, h2⟩ => ⟨0, by rw [h]; exact h1, h2, fun hc => by rw [h] at hc; cases hc⟩
  by_cases h32 : 32 < s.size
  · exact (gScalar_long G ok gb s h32 w hG).mono (no (by have := ok.size_le; unfold isSc; simp; omega))
  by_cases hl : s.size = G.size
  · rcases Nat.lt_trichotomy (numOf s) G.q.m with hc | hc | hc
    · refine (gScalar_yes G ok gb s hl hc w hG).mono ?_
      rintro e w' ⟨h1, h2⟩
      exact ⟨mont G.q.m (numOf s), by rw [show isSc G.q.m G.size s = true by unfold isSc; simp [hl, hc]]; exact h1, h2, fun _ => rfl⟩
    · exact (gScalar_eq G ok gb s hl hc w hG).mono (no (by unfold isSc; simp; omega))
    · exact (gScalar_gt G ok gb s hl hc w hG).mono (no (by unfold isSc; simp; omega))
  · exact (gScalar_len G ok gb s (by omega) hl w hG).mono (no (by unfold isSc; simp [hl]))

theorem gElem_any (G : GP) (ok : G.Ok) (gb : Nat) (s : ByteArray) (w : World) (hG : GroupAt w gb G) :
    Calls Try.prog 106 #[.pointer (some ⟨gb, 0, none⟩), .string s] w (ReadR (isEl G.q.m G.size s) (elV G (numOf s)) w) := by
  have no : isEl G.q.m G.size s = false → ∀ e w', (e = .returned (.tuple #[limbV 0, .bool false]) ∧ Below w.heap.size w w') → ReadR (isEl G.q.m G.size s) (elV G (numOf s)) w e w' := fun h e w' ⟨h1, h2⟩ => ⟨0, by rw [h]; exact h1, h2, fun hc => by rw [h] at hc; cases hc⟩
  by_cases h32 : 32 < s.size
  · exact (gElem_long G ok gb s h32 w hG).mono (no (by have := ok.size_le; unfold isEl; simp; omega))
  by_cases hl : s.size = G.size
  · by_cases h0 : numOf s = 0
    · exact (gElem_zero G ok gb s hl h0 w hG).mono (no (by unfold isEl; simp [h0]))
    rcases Nat.lt_trichotomy (numOf s) G.q.m with hc | hc | hc
    · refine (gElem_lt G ok gb s hl (by omega) hc w hG).mono ?_
      rintro e w' ⟨h1, h2⟩
      exact ⟨mont G.p.m (numOf s), by rw [show isEl G.q.m G.size s = true by unfold isEl; simp [hl]; omega]; exact h1, h2, fun _ => rfl⟩
    · refine (gElem_eq G ok gb s hl (by omega) hc w hG).mono ?_
      rintro e w' ⟨h1, h2⟩
      exact ⟨mont G.p.m (numOf s), by rw [show isEl G.q.m G.size s = true by unfold isEl; simp [hl]; omega]; exact h1, h2, fun _ => rfl⟩
    · exact (gElem_gt G ok gb s hl hc w hG).mono (no (by unfold isEl; simp; omega))
  · exact (gElem_len G ok gb s (by omega) hl w hG).mono (no (by unfold isEl; simp [hl]))


set_option maxRecDepth 100000 in
set_option maxHeartbeats 1000000 in
theorem Scalar_none (k : Int) (hk : ¬ (1 ≤ k ∧ k ≤ 3)) (s : ByteArray) (w : World) : Calls Try.prog 32 #[.int .i64 k, .string s] w fun e w' => e = .returned (.bool false) ∧ Below w.heap.size w w' := by
  go_enter Try.func32, Try.ntmps32
  go_wp2_with fail
  refine (of_none k hk w).mono ?_
  rintro e w1 ⟨rfl, rfl⟩
  go_wp2_with fail
  go_ret
  exact ⟨rfl, Below.refl _ _⟩

set_option maxRecDepth 100000 in
set_option maxHeartbeats 1000000 in
theorem Scalar_some (k : Nat) (h1 : 1 ≤ k) (h3 : k ≤ 3) (s : ByteArray) (w : World) : Calls Try.prog 32 #[.int .i64 (k : Int), .string s] w fun e w' => e = .returned (.bool (isSc (grp k).q.m (grp k).size s)) ∧ Below w.heap.size w w' := by
  have OK := Lib.hid (grp_ok k h1 h3)
  go_enter Try.func32, Try.ntmps32
  go_wp2_with fail
  refine (of_some k h1 h3 w).mono ?_
  rintro e w1 ⟨rfl, hg, hb⟩
  have HG := Lib.hid hg
  have HB := Lib.hid hb
  clear hg hb
  go_wp2_with fail
  refine (gScalar_any (grp k) OK.out w.heap.size s w1 HG.out).mono ?_
  rintro e w2 ⟨x, rfl, hb2, -⟩
  have HB2 := Lib.hid (below_up HB.out hb2)
  clear hb2
  obtain ⟨b, hbb⟩ : ∃ b, isSc (grp k).q.m (grp k).size s = b := ⟨_, rfl⟩
  rw [hbb]
  have HBB := Lib.hid hbb
  clear hbb
  unfold limbV
  go_wp2_with fail
  go_ret
  exact ⟨by rw [HBB.out]; rfl, HB2.out.alloc HB2.out.size _⟩

set_option maxRecDepth 100000 in
set_option maxHeartbeats 1000000 in
theorem Member_none (k : Int) (hk : ¬ (1 ≤ k ∧ k ≤ 3)) (s : ByteArray) (w : World) : Calls Try.prog 122 #[.int .i64 k, .string s] w fun e w' => e = .returned (.bool false) ∧ Below w.heap.size w w' := by
  go_enter Try.func122, Try.ntmps122
  go_wp2_with fail
  refine (of_none k hk w).mono ?_
  rintro e w1 ⟨rfl, rfl⟩
  go_wp2_with fail
  go_ret
  exact ⟨rfl, Below.refl _ _⟩

set_option maxRecDepth 100000 in
set_option maxHeartbeats 1000000 in
theorem Member_some (k : Nat) (h1 : 1 ≤ k) (h3 : k ≤ 3) (s : ByteArray) (w : World) : Calls Try.prog 122 #[.int .i64 (k : Int), .string s] w fun e w' => e = .returned (.bool (isEl (grp k).q.m (grp k).size s)) ∧ Below w.heap.size w w' := by
  have OK := Lib.hid (grp_ok k h1 h3)
  go_enter Try.func122, Try.ntmps122
  go_wp2_with fail
  refine (of_some k h1 h3 w).mono ?_
  rintro e w1 ⟨rfl, hg, hb⟩
  have HG := Lib.hid hg
  have HB := Lib.hid hb
  clear hg hb
  go_wp2_with fail
  refine (gElem_any (grp k) OK.out w.heap.size s w1 HG.out).mono ?_
  rintro e w2 ⟨x, rfl, hb2, -⟩
  have HB2 := Lib.hid (below_up HB.out hb2)
  clear hb2
  obtain ⟨b, hbb⟩ : ∃ b, isEl (grp k).q.m (grp k).size s = b := ⟨_, rfl⟩
  rw [hbb]
  have HBB := Lib.hid hbb
  clear hbb
  unfold limbV
  go_wp2_with fail
  go_ret
  exact ⟨by rw [HBB.out]; rfl, HB2.out.alloc HB2.out.size _⟩


/-- Number's closure: it puts the number. -/
theorem number1_any (G : GP) (ok : G.Ok) (gb b : Nat) (n : Int) (h1 : -9223372036854775808 ≤ n) (h2 : n ≤ 9223372036854775807) (w : World) (hG : GroupAt w gb G) (hc : w.cell? ⟨b, 0, none⟩ = some (.int .i64 n)) :
    Calls Try.prog 120 #[.pointer (some ⟨gb, 0, none⟩), .pointer (some ⟨b, 0, none⟩)] w fun e w' => e = .returned (.string (textS (modI G.q.m n) G.size)) ∧ Below w.heap.size w w' := by
  have HG := Lib.hid hG
  have OK := Lib.hid ok
  have HL : Hid (modI G.q.m n % G.q.m = modI G.q.m n) := Nat.mod_eq_of_lt (modI_lt _ ok.q.pos n)
  clear hG ok
  go_enter Try.func120, Try.ntmps120
  go_wp2_with fail
  refine (gNumber_any G OK.out gb n h1 h2 w HG.out).mono ?_
  rintro e w1 ⟨rfl, hb1⟩
  have HB1 := Lib.hid hb1
  clear hb1
  go_wp2_with fail
  refine (gPut_any G OK.out gb (modI G.q.m n) w1 (HG.out.up HB1.out)).mono ?_
  rintro e w2 ⟨rfl, hb2⟩
  have HB2 := Lib.hid (below_up HB1.out hb2)
  clear hb2
  rw [HL.out]
  go_wp2_with fail
  go_ret
  exact ⟨rfl, HB2.out⟩

set_option maxRecDepth 100000 in
set_option maxHeartbeats 1000000 in
theorem Number_some (k : Nat) (h1 : 1 ≤ k) (h3 : k ≤ 3) (n : Int) (hn1 : -9223372036854775808 ≤ n) (hn2 : n ≤ 9223372036854775807) (w : World) : Calls Try.prog 53 #[.int .i64 (k : Int), .int .i64 n] w (Ans (.string (textS (modI (grp k).q.m n) (grp k).size)) 0 w) := by
  have hok := grp_ok k h1 h3
  have OK := Lib.hid hok
  clear hok
  have HN1 := Lib.hid hn1
  have HN2 := Lib.hid hn2
  go_enter Try.func53, Try.ntmps53
  go_wp2_with fail
  have hb0 : Below w.heap.size w (w.alloc (.cells #[.int .i64 n] 3)) := (Below.refl _ _).alloc (Nat.le_refl _) _
  have hz0 : Bx (w.alloc (.cells #[.int .i64 n] 3)) w.heap.size 3 [.int .i64 n] := Bx.new w _ _ _ rfl
  obtain ⟨W0, hW0⟩ : ∃ W9 : World, (w.alloc (.cells #[.int .i64 n] 3)) = W9 := ⟨_, rfl⟩
  rw [hW0] at hb0 hz0 ⊢
  have HB0 := Lib.hid hb0
  have HZ0 := Lib.hid hz0
  clear hW0 hb0 hz0
  refine (fixed_some k h1 h3 120 #[.pointer (some ⟨w.heap.size, 0, none⟩)] (textS (modI (grp k).q.m n) (grp k).size) (enters_of Try.func120 (by kernel_rfl) rfl) W0 (fun w1 gb hb hg => ?_)).mono ?_
  · exact number1_any (grp k) OK.out gb _ n HN1.out HN2.out w1 hg ((HZ0.out.up hb).cell (i := 0) rfl)
  · rintro e w2 ⟨rfl, hb2⟩
    have HB2 := Lib.hid (below_up HB0.out hb2)
    clear hb2
    go_wp2_with fail
    go_ret2
    exact ⟨rfl, HB2.out⟩

set_option maxRecDepth 100000 in
set_option maxHeartbeats 1000000 in
theorem Number_none (k : Int) (hk : ¬ (1 ≤ k ∧ k ≤ 3)) (n : Int) (w : World) : Calls Try.prog 53 #[.int .i64 k, .int .i64 n] w (Ans (.string ⟨#[]⟩) 1 w) := by
  go_enter Try.func53, Try.ntmps53
  go_wp2_with fail
  refine (fixed_none k hk _ _ _).mono ?_
  rintro e w1 ⟨rfl, hb⟩
  have HB := Lib.hid (((Below.refl w.heap.size w).alloc (Nat.le_refl _) _).trans (hb.mono (by simp)))
  clear hb
  go_wp2_with fail
  go_ret2
  exact ⟨rfl, HB.out⟩

def redV (G : GP) (s : ByteArray) : ByteArray := if 1024 < s.size then ⟨#[]⟩ else textS (numOf s % G.q.m) G.size
def redE (s : ByteArray) : Int := if 1024 < s.size then 3 else 0

end Go.Proofs.Ytipgjookfdkciaa

/- The package group: Add, Sub, Mul, Inv, Times, Under. No condition. -/
namespace Go.Proofs.Ytipgjookfdkciaa
open Go.RowKit

/-- What a reading answers, its limbs told when it is good. -/
def ReadM (b : Bool) (m : Nat) (w : World) (e : Ending) (w' : World) : Prop := ∃ x : Nat, e = .returned (.tuple #[limbV x, .bool b]) ∧ Below w.heap.size w w' ∧ (b = true → x = m)

theorem ReadR.m {b : Bool} {m : Nat} {w w' : World} {e : Ending} (h : ReadR b (limbV m) w e w') : ReadM b m w e w' := by
  obtain ⟨x, h1, h2, h3⟩ := h
  cases b with
  | true => exact ⟨m, by rw [h1, h3 rfl], h2, fun _ => rfl⟩
  | false => exact ⟨x, h1, h2, fun h => by cases h⟩

theorem gScalar_m (G : GP) (ok : G.Ok) (gb : Nat) (s : ByteArray) (b : Bool) (hb : isSc G.q.m G.size s = b) (w : World) (hG : GroupAt w gb G) :
    Calls Try.prog 59 #[.pointer (some ⟨gb, 0, none⟩), .string s] w (ReadM b (mont G.q.m (numOf s)) w) := by
  subst hb
  exact (gScalar_any G ok gb s w hG).mono fun e w' h => ReadR.m h
theorem gElem_m (G : GP) (ok : G.Ok) (gb : Nat) (s : ByteArray) (b : Bool) (hb : isEl G.q.m G.size s = b) (w : World) (hG : GroupAt w gb G) :
    Calls Try.prog 106 #[.pointer (some ⟨gb, 0, none⟩), .string s] w (ReadM b (mont G.p.m (numOf s)) w) := by
  subst hb
  exact (gElem_any G ok gb s w hG).mono fun e w' h => ReadR.m h


set_option maxRecDepth 100000 in
set_option maxHeartbeats 400000 in
theorem reckon1_no (G : GP) (ok : G.Ok) (gb b1 b2 b3 : Nat) (a b : ByteArray) (ba bb : Bool) (hba : isSc G.q.m G.size a = ba) (hbb : isSc G.q.m G.size b = bb) (hno : (ba && bb) = false) (w : World) (hG : GroupAt w gb G)
    (hc1 : Bx w b1 9 [.string a]) (hc2 : Bx w b2 9 [.string b]) :
    Calls Try.prog 149 #[.pointer (some ⟨gb, 0, none⟩), .pointer (some ⟨b1, 0, none⟩), .pointer (some ⟨b2, 0, none⟩), .pointer (some ⟨b3, 0, none⟩)] w (Ans (.string ⟨#[]⟩) 6 w) := by
  have HA := Lib.hid hba
  have HBB := Lib.hid hbb
  have HC2 := Lib.hid hc2
  have hk1 := hc1.cell (i := 0) rfl
  clear hba hbb hc1 hc2
  have HG := Lib.hid hG
  have OK := Lib.hid ok
  clear hG ok
  go_enter Try.func149, Try.ntmps149
  go_wp2_with fail
  refine (gScalar_m G OK.out gb a ba HA.out w HG.out).mono ?_
  rintro e w1 ⟨x, rfl, hb1, hx⟩
  have HB1 := Lib.hid hb1
  have HX := Lib.hid hx
  clear hb1 hx
  unfold limbV
  have hlb : Below w1.heap.size w1 (w1.alloc (.cells #[.int .u64 (dig x 0 : Int), .int .u64 (dig x 1 : Int), .int .u64 (dig x 2 : Int), .int .u64 (dig x 3 : Int)] 91)) := (Below.refl _ _).alloc (Nat.le_refl _) _
  have hlz : Blk (w1.alloc (.cells #[.int .u64 (dig x 0 : Int), .int .u64 (dig x 1 : Int), .int .u64 (dig x 2 : Int), .int .u64 (dig x 3 : Int)] 91)) w1.heap.size 91 (lim x) := Blk.new _ _ _ _ rfl
  obtain ⟨w2, hlw⟩ : ∃ W9 : World, (w1.alloc (.cells #[.int .u64 (dig x 0 : Int), .int .u64 (dig x 1 : Int), .int .u64 (dig x 2 : Int), .int .u64 (dig x 3 : Int)] 91)) = W9 := ⟨_, rfl⟩
  rw [hlw] at hlb hlz
  have HLw2 := Lib.hid hlb
  have HXw2 := Lib.hid hlz
  clear hlb hlz
  have HB2 := Lib.hid (below_up HB1.out HLw2.out)
  have hk2 := (HC2.out.up HB2.out).cell (i := 0) rfl
  go_wp2_with fail
  refine (gScalar_m G OK.out gb b bb HBB.out w2 (HG.out.up HB2.out)).mono ?_
  rintro e w3 ⟨y, rfl, hb3, hy⟩
  have HB3 := Lib.hid (below_up HB2.out hb3)
  have HX3 := Lib.hid (HXw2.out.below hb3 HXw2.out.lt)
  have HY := Lib.hid hy
  clear hb3 hy hk1 hk2 hlw
  unfold limbV
  have hlb : Below w3.heap.size w3 (w3.alloc (.cells #[.int .u64 (dig y 0 : Int), .int .u64 (dig y 1 : Int), .int .u64 (dig y 2 : Int), .int .u64 (dig y 3 : Int)] 91)) := (Below.refl _ _).alloc (Nat.le_refl _) _
  have hlz : Blk (w3.alloc (.cells #[.int .u64 (dig y 0 : Int), .int .u64 (dig y 1 : Int), .int .u64 (dig y 2 : Int), .int .u64 (dig y 3 : Int)] 91)) w3.heap.size 91 (lim y) := Blk.new _ _ _ _ rfl
  obtain ⟨w4, hlw⟩ : ∃ W9 : World, (w3.alloc (.cells #[.int .u64 (dig y 0 : Int), .int .u64 (dig y 1 : Int), .int .u64 (dig y 2 : Int), .int .u64 (dig y 3 : Int)] 91)) = W9 := ⟨_, rfl⟩
  rw [hlw] at hlb hlz
  have HLw4 := Lib.hid hlb
  have HXw4 := Lib.hid hlz
  clear hlb hlz
  have HB4 := Lib.hid (below_up HB3.out HLw4.out)
  have HX4 := Lib.hid (HX3.out.below HLw4.out HX3.out.lt)
  cases ba
  · go_wp2_with fail
    go_ret2
    exact ⟨rfl, HB4.out⟩
  · cases bb
    · go_wp2_with fail
      go_ret2
      exact ⟨rfl, HB4.out⟩
    · cases hno

set_option maxRecDepth 100000 in
set_option maxHeartbeats 400000 in
theorem reckon1_yes (G : GP) (ok : G.Ok) (gb b1 b2 b3 : Nat) (f : FuncId) (a b : ByteArray) (z : Nat) (hba : isSc G.q.m G.size a = true) (hbb : isSc G.q.m G.size b = true) (hent : Enters Try.prog f) (w : World) (hG : GroupAt w gb G)
    (hc1 : Bx w b1 9 [.string a]) (hc2 : Bx w b2 9 [.string b]) (hc3 : Bx w b3 140 [.func (.func f) #[] #[]])
    (hcall : ∀ w1, GroupAt w1 gb G → Calls Try.prog f #[.pointer (some ⟨gb, 0, none⟩), scV G (numOf a), scV G (numOf b)] w1 fun e w' => e = .returned (scV G z) ∧ Below w1.heap.size w1 w') :
    Calls Try.prog 149 #[.pointer (some ⟨gb, 0, none⟩), .pointer (some ⟨b1, 0, none⟩), .pointer (some ⟨b2, 0, none⟩), .pointer (some ⟨b3, 0, none⟩)] w (Ans (.string (textS (z % G.q.m) G.size)) 0 w) := by
  have HCALL := Lib.hid hcall
  clear hcall
  have hcf : ∀ (args : Array Value) (w : World), (callFunc f args).run Try.prog w = .ok (.enter f args) w := hent
  clear hent
  have HC3 := Lib.hid hc3
  clear hc3
  obtain ⟨ba, hba'⟩ : ∃ b, b = true := ⟨true, rfl⟩
  obtain ⟨bb, hbb'⟩ : ∃ b, b = true := ⟨true, rfl⟩
  have HT1 := Lib.hid hba'
  have HT2 := Lib.hid hbb'
  rw [← hba'] at hba
  rw [← hbb'] at hbb
  clear hba' hbb'
  have HA := Lib.hid hba
  have HBB := Lib.hid hbb
  have HC2 := Lib.hid hc2
  have hk1 := hc1.cell (i := 0) rfl
  clear hba hbb hc1 hc2
  have HG := Lib.hid hG
  have OK := Lib.hid ok
  clear hG ok
  go_enter Try.func149, Try.ntmps149
  go_wp2_with fail
  refine (gScalar_m G OK.out gb a ba HA.out w HG.out).mono ?_
  rintro e w1 ⟨x, rfl, hb1, hx⟩
  have HB1 := Lib.hid hb1
  have HX := Lib.hid hx
  clear hb1 hx
  unfold limbV
  have hlb : Below w1.heap.size w1 (w1.alloc (.cells #[.int .u64 (dig x 0 : Int), .int .u64 (dig x 1 : Int), .int .u64 (dig x 2 : Int), .int .u64 (dig x 3 : Int)] 91)) := (Below.refl _ _).alloc (Nat.le_refl _) _
  have hlz : Blk (w1.alloc (.cells #[.int .u64 (dig x 0 : Int), .int .u64 (dig x 1 : Int), .int .u64 (dig x 2 : Int), .int .u64 (dig x 3 : Int)] 91)) w1.heap.size 91 (lim x) := Blk.new _ _ _ _ rfl
  obtain ⟨w2, hlw⟩ : ∃ W9 : World, (w1.alloc (.cells #[.int .u64 (dig x 0 : Int), .int .u64 (dig x 1 : Int), .int .u64 (dig x 2 : Int), .int .u64 (dig x 3 : Int)] 91)) = W9 := ⟨_, rfl⟩
  rw [hlw] at hlb hlz
  have HLw2 := Lib.hid hlb
  have HXw2 := Lib.hid hlz
  clear hlb hlz
  have HB2 := Lib.hid (below_up HB1.out HLw2.out)
  have hk2 := (HC2.out.up HB2.out).cell (i := 0) rfl
  go_wp2_with fail
  refine (gScalar_m G OK.out gb b bb HBB.out w2 (HG.out.up HB2.out)).mono ?_
  rintro e w3 ⟨y, rfl, hb3, hy⟩
  have HB3 := Lib.hid (below_up HB2.out hb3)
  have HX3 := Lib.hid (HXw2.out.below hb3 HXw2.out.lt)
  have HY := Lib.hid hy
  clear hb3 hy hk1 hk2 hlw
  unfold limbV
  have hlb : Below w3.heap.size w3 (w3.alloc (.cells #[.int .u64 (dig y 0 : Int), .int .u64 (dig y 1 : Int), .int .u64 (dig y 2 : Int), .int .u64 (dig y 3 : Int)] 91)) := (Below.refl _ _).alloc (Nat.le_refl _) _
  have hlz : Blk (w3.alloc (.cells #[.int .u64 (dig y 0 : Int), .int .u64 (dig y 1 : Int), .int .u64 (dig y 2 : Int), .int .u64 (dig y 3 : Int)] 91)) w3.heap.size 91 (lim y) := Blk.new _ _ _ _ rfl
  obtain ⟨w4, hlw⟩ : ∃ W9 : World, (w3.alloc (.cells #[.int .u64 (dig y 0 : Int), .int .u64 (dig y 1 : Int), .int .u64 (dig y 2 : Int), .int .u64 (dig y 3 : Int)] 91)) = W9 := ⟨_, rfl⟩
  rw [hlw] at hlb hlz
  have HLw4 := Lib.hid hlb
  have HXw4 := Lib.hid hlz
  clear hlb hlz
  have HB4 := Lib.hid (below_up HB3.out HLw4.out)
  have HX4 := Lib.hid (HX3.out.below HLw4.out HX3.out.lt)
  obtain rfl := HT1.out
  obtain rfl := HT2.out
  have hk3 := (HC3.out.up HB4.out).cell (i := 0) rfl
  obtain rfl : x = mont G.q.m (numOf a) := HX.out rfl
  obtain rfl : y = mont G.q.m (numOf b) := HY.out rfl
  have hx_0 := HX4.out.cell (i := 0) (x := (dig (mont G.q.m (numOf a)) 0 : Int)) rfl
  have hx_1 := HX4.out.cell (i := 1) (x := (dig (mont G.q.m (numOf a)) 1 : Int)) rfl
  have hx_2 := HX4.out.cell (i := 2) (x := (dig (mont G.q.m (numOf a)) 2 : Int)) rfl
  have hx_3 := HX4.out.cell (i := 3) (x := (dig (mont G.q.m (numOf a)) 3 : Int)) rfl
  have hy_0 := HXw4.out.cell (i := 0) (x := (dig (mont G.q.m (numOf b)) 0 : Int)) rfl
  have hy_1 := HXw4.out.cell (i := 1) (x := (dig (mont G.q.m (numOf b)) 1 : Int)) rfl
  have hy_2 := HXw4.out.cell (i := 2) (x := (dig (mont G.q.m (numOf b)) 2 : Int)) rfl
  have hy_3 := HXw4.out.cell (i := 3) (x := (dig (mont G.q.m (numOf b)) 3 : Int)) rfl
  go_wp2_with fail
  refine (HCALL.out w4 (HG.out.up HB4.out)).mono ?_
  rintro e w5 ⟨rfl, hb5⟩
  have HB5 := Lib.hid (below_up HB4.out hb5)
  clear hb5
  go_wp2_with fail
  refine (gPut_any G OK.out gb z w5 (HG.out.up HB5.out)).mono ?_
  rintro e w6 ⟨rfl, hb6⟩
  have HB6 := Lib.hid (below_up HB5.out hb6)
  clear hb6
  go_wp2_with fail
  go_ret2
  exact ⟨rfl, HB6.out⟩

set_option maxRecDepth 100000 in
set_option maxHeartbeats 400000 in
theorem inv1_no (G : GP) (ok : G.Ok) (gb b1 : Nat) (a : ByteArray) (hba : isSc G.q.m G.size a = false) (w : World) (hG : GroupAt w gb G)
    (hc1 : Bx w b1 9 [.string a]) :
    Calls Try.prog 94 #[.pointer (some ⟨gb, 0, none⟩), .pointer (some ⟨b1, 0, none⟩)] w (Ans (.string ⟨#[]⟩) 6 w) := by
  have HA := Lib.hid hba
  have hk1 := hc1.cell (i := 0) rfl
  clear hba hc1
  have HG := Lib.hid hG
  have OK := Lib.hid ok
  clear hG ok
  go_enter Try.func94, Try.ntmps94
  go_wp2_with fail
  refine (gScalar_m G OK.out gb a _ HA.out w HG.out).mono ?_
  rintro e w1 ⟨x, rfl, hb1, hx⟩
  have HB1 := Lib.hid hb1
  have HX := Lib.hid hx
  clear hb1 hx
  unfold limbV
  have hlb : Below w1.heap.size w1 (w1.alloc (.cells #[.int .u64 (dig x 0 : Int), .int .u64 (dig x 1 : Int), .int .u64 (dig x 2 : Int), .int .u64 (dig x 3 : Int)] 91)) := (Below.refl _ _).alloc (Nat.le_refl _) _
  have hlz : Blk (w1.alloc (.cells #[.int .u64 (dig x 0 : Int), .int .u64 (dig x 1 : Int), .int .u64 (dig x 2 : Int), .int .u64 (dig x 3 : Int)] 91)) w1.heap.size 91 (lim x) := Blk.new _ _ _ _ rfl
  obtain ⟨w2, hlw⟩ : ∃ W9 : World, (w1.alloc (.cells #[.int .u64 (dig x 0 : Int), .int .u64 (dig x 1 : Int), .int .u64 (dig x 2 : Int), .int .u64 (dig x 3 : Int)] 91)) = W9 := ⟨_, rfl⟩
  rw [hlw] at hlb hlz
  have HLw2 := Lib.hid hlb
  have HXw2 := Lib.hid hlz
  clear hlb hlz
  have HB2 := Lib.hid (below_up HB1.out HLw2.out)
  go_wp2_with fail
  go_ret2
  exact ⟨rfl, HB2.out⟩

set_option maxRecDepth 100000 in
set_option maxHeartbeats 400000 in
theorem inv1_zero (G : GP) (ok : G.Ok) (gb b1 : Nat) (a : ByteArray) (hba : isSc G.q.m G.size a = true) (h0 : numOf a % G.q.m = 0) (w : World) (hG : GroupAt w gb G)
    (hc1 : Bx w b1 9 [.string a]) :
    Calls Try.prog 94 #[.pointer (some ⟨gb, 0, none⟩), .pointer (some ⟨b1, 0, none⟩)] w (Ans (.string ⟨#[]⟩) 5 w) := by
  have HD : Hid (decide (numOf a % G.q.m = 0) = true) := by show _ = _; simp [h0]
  clear h0
  have HA := Lib.hid hba
  have hk1 := hc1.cell (i := 0) rfl
  clear hba hc1
  have HG := Lib.hid hG
  have OK := Lib.hid ok
  clear hG ok
  go_enter Try.func94, Try.ntmps94
  go_wp2_with fail
  refine (gScalar_m G OK.out gb a _ HA.out w HG.out).mono ?_
  rintro e w1 ⟨x, rfl, hb1, hx⟩
  have HB1 := Lib.hid hb1
  have HX := Lib.hid hx
  clear hb1 hx
  unfold limbV
  have hlb : Below w1.heap.size w1 (w1.alloc (.cells #[.int .u64 (dig x 0 : Int), .int .u64 (dig x 1 : Int), .int .u64 (dig x 2 : Int), .int .u64 (dig x 3 : Int)] 91)) := (Below.refl _ _).alloc (Nat.le_refl _) _
  have hlz : Blk (w1.alloc (.cells #[.int .u64 (dig x 0 : Int), .int .u64 (dig x 1 : Int), .int .u64 (dig x 2 : Int), .int .u64 (dig x 3 : Int)] 91)) w1.heap.size 91 (lim x) := Blk.new _ _ _ _ rfl
  obtain ⟨w2, hlw⟩ : ∃ W9 : World, (w1.alloc (.cells #[.int .u64 (dig x 0 : Int), .int .u64 (dig x 1 : Int), .int .u64 (dig x 2 : Int), .int .u64 (dig x 3 : Int)] 91)) = W9 := ⟨_, rfl⟩
  rw [hlw] at hlb hlz
  have HLw2 := Lib.hid hlb
  have HXw2 := Lib.hid hlz
  clear hlb hlz
  have HB2 := Lib.hid (below_up HB1.out HLw2.out)
  obtain rfl : x = mont G.q.m (numOf a) := HX.out rfl
  have hx_0 := HXw2.out.cell (i := 0) (x := (dig (mont G.q.m (numOf a)) 0 : Int)) rfl
  have hx_1 := HXw2.out.cell (i := 1) (x := (dig (mont G.q.m (numOf a)) 1 : Int)) rfl
  have hx_2 := HXw2.out.cell (i := 2) (x := (dig (mont G.q.m (numOf a)) 2 : Int)) rfl
  have hx_3 := HXw2.out.cell (i := 3) (x := (dig (mont G.q.m (numOf a)) 3 : Int)) rfl
  go_wp2_with fail
  refine (gZero_any G OK.out (numOf a) w2).mono ?_
  rintro e w3 ⟨rfl, hb3⟩
  have HB3 := Lib.hid (below_up HB2.out hb3)
  rw [HD.out]
  go_wp2_with fail
  go_ret2
  exact ⟨rfl, HB3.out⟩

set_option maxRecDepth 100000 in
set_option maxHeartbeats 400000 in
theorem inv1_yes (G : GP) (ok : G.Ok) (gb b1 : Nat) (a : ByteArray) (hba : isSc G.q.m G.size a = true) (h0 : numOf a % G.q.m ≠ 0) (w : World) (hG : GroupAt w gb G)
    (hc1 : Bx w b1 9 [.string a]) :
    Calls Try.prog 94 #[.pointer (some ⟨gb, 0, none⟩), .pointer (some ⟨b1, 0, none⟩)] w (Ans (.string (textS (numOf a ^ (G.q.m - 2) % G.q.m) G.size)) 0 w) := by
  have HD : Hid (decide (numOf a % G.q.m = 0) = false) := by show _ = _; simp [h0]
  clear h0
  have HA := Lib.hid hba
  have hk1 := hc1.cell (i := 0) rfl
  clear hba hc1
  have HG := Lib.hid hG
  have OK := Lib.hid ok
  clear hG ok
  go_enter Try.func94, Try.ntmps94
  go_wp2_with fail
  refine (gScalar_m G OK.out gb a _ HA.out w HG.out).mono ?_
  rintro e w1 ⟨x, rfl, hb1, hx⟩
  have HB1 := Lib.hid hb1
  have HX := Lib.hid hx
  clear hb1 hx
  unfold limbV
  have hlb : Below w1.heap.size w1 (w1.alloc (.cells #[.int .u64 (dig x 0 : Int), .int .u64 (dig x 1 : Int), .int .u64 (dig x 2 : Int), .int .u64 (dig x 3 : Int)] 91)) := (Below.refl _ _).alloc (Nat.le_refl _) _
  have hlz : Blk (w1.alloc (.cells #[.int .u64 (dig x 0 : Int), .int .u64 (dig x 1 : Int), .int .u64 (dig x 2 : Int), .int .u64 (dig x 3 : Int)] 91)) w1.heap.size 91 (lim x) := Blk.new _ _ _ _ rfl
  obtain ⟨w2, hlw⟩ : ∃ W9 : World, (w1.alloc (.cells #[.int .u64 (dig x 0 : Int), .int .u64 (dig x 1 : Int), .int .u64 (dig x 2 : Int), .int .u64 (dig x 3 : Int)] 91)) = W9 := ⟨_, rfl⟩
  rw [hlw] at hlb hlz
  have HLw2 := Lib.hid hlb
  have HXw2 := Lib.hid hlz
  clear hlb hlz
  have HB2 := Lib.hid (below_up HB1.out HLw2.out)
  obtain rfl : x = mont G.q.m (numOf a) := HX.out rfl
  have HX2 := HXw2
  have hx_0 := HXw2.out.cell (i := 0) (x := (dig (mont G.q.m (numOf a)) 0 : Int)) rfl
  have hx_1 := HXw2.out.cell (i := 1) (x := (dig (mont G.q.m (numOf a)) 1 : Int)) rfl
  have hx_2 := HXw2.out.cell (i := 2) (x := (dig (mont G.q.m (numOf a)) 2 : Int)) rfl
  have hx_3 := HXw2.out.cell (i := 3) (x := (dig (mont G.q.m (numOf a)) 3 : Int)) rfl
  go_wp2_with fail
  refine (gZero_any G OK.out (numOf a) w2).mono ?_
  rintro e w3 ⟨rfl, hb3⟩
  have HB3 := Lib.hid (below_up HB2.out hb3)
  have HX3 := Lib.hid (HX2.out.below hb3 HX2.out.lt)
  clear hb3 hx_0 hx_1 hx_2 hx_3
  have hx_0 := HX3.out.cell (i := 0) (x := (dig (mont G.q.m (numOf a)) 0 : Int)) rfl
  have hx_1 := HX3.out.cell (i := 1) (x := (dig (mont G.q.m (numOf a)) 1 : Int)) rfl
  have hx_2 := HX3.out.cell (i := 2) (x := (dig (mont G.q.m (numOf a)) 2 : Int)) rfl
  have hx_3 := HX3.out.cell (i := 3) (x := (dig (mont G.q.m (numOf a)) 3 : Int)) rfl
  rw [HD.out]
  go_wp2_with fail
  refine (gInv_any G OK.out gb (numOf a) w3 (HG.out.up HB3.out)).mono ?_
  rintro e w5 ⟨rfl, hb5⟩
  have HB5 := Lib.hid (below_up HB3.out hb5)
  clear hb5
  go_wp2_with fail
  refine (gPut_any G OK.out gb _ w5 (HG.out.up HB5.out)).mono ?_
  rintro e w6 ⟨rfl, hb6⟩
  have HB6 := Lib.hid (below_up HB5.out hb6)
  clear hb6
  go_wp2_with fail
  go_ret2
  exact ⟨rfl, HB6.out⟩

end Go.Proofs.Ytipgjookfdkciaa

/- The package group: the faces Add, Sub, Mul, Inv, Times, Under. No condition. -/
namespace Go.Proofs.Ytipgjookfdkciaa
open Go.RowKit

theorem box2 (w : World) (v1 v2 : Value) (t1 t2 : TypeId) :
    Below w.heap.size w ((w.alloc (.cells #[v1] t1)).alloc (.cells #[v2] t2)) ∧ Bx ((w.alloc (.cells #[v1] t1)).alloc (.cells #[v2] t2)) w.heap.size t1 [v1] ∧ Bx ((w.alloc (.cells #[v1] t1)).alloc (.cells #[v2] t2)) (w.heap.size + 1) t2 [v2] := by
  have a1 : Below w.heap.size w (w.alloc (.cells #[v1] t1)) := (Below.refl _ _).alloc (Nat.le_refl _) _
  have a2 : Below (w.alloc (.cells #[v1] t1)).heap.size (w.alloc (.cells #[v1] t1)) ((w.alloc (.cells #[v1] t1)).alloc (.cells #[v2] t2)) := (Below.refl _ _).alloc (Nat.le_refl _) _
  refine ⟨below_up a1 a2, (Bx.new w _ _ _ rfl).up a2, ?_⟩
  have h := Bx.new (w.alloc (.cells #[v1] t1)) t2 [v2] _ rfl
  rwa [World.size_alloc] at h

theorem box3 (w : World) (v1 v2 v3 : Value) (t1 t2 t3 : TypeId) :
    Below w.heap.size w (((w.alloc (.cells #[v1] t1)).alloc (.cells #[v2] t2)).alloc (.cells #[v3] t3)) ∧ Bx (((w.alloc (.cells #[v1] t1)).alloc (.cells #[v2] t2)).alloc (.cells #[v3] t3)) w.heap.size t1 [v1]
      ∧ Bx (((w.alloc (.cells #[v1] t1)).alloc (.cells #[v2] t2)).alloc (.cells #[v3] t3)) (w.heap.size + 1) t2 [v2] ∧ Bx (((w.alloc (.cells #[v1] t1)).alloc (.cells #[v2] t2)).alloc (.cells #[v3] t3)) (w.heap.size + 2) t3 [v3] := by
  obtain ⟨h1, h2, h3⟩ := box2 w v1 v2 t1 t2
  have a2 : Below ((w.alloc (.cells #[v1] t1)).alloc (.cells #[v2] t2)).heap.size ((w.alloc (.cells #[v1] t1)).alloc (.cells #[v2] t2)) (((w.alloc (.cells #[v1] t1)).alloc (.cells #[v2] t2)).alloc (.cells #[v3] t3)) := (Below.refl _ _).alloc (Nat.le_refl _) _
  refine ⟨below_up h1 a2, h2.up a2, h3.up a2, ?_⟩
  have h := Bx.new ((w.alloc (.cells #[v1] t1)).alloc (.cells #[v2] t2)) t3 [v3] _ rfl
  rwa [World.size_alloc, World.size_alloc] at h


def recV (G : GP) (a b : ByteArray) (z : Nat) : ByteArray := if (isSc G.q.m G.size a && isSc G.q.m G.size b) = true then textS (z % G.q.m) G.size else ⟨#[]⟩
def recE (G : GP) (a b : ByteArray) : Int := if (isSc G.q.m G.size a && isSc G.q.m G.size b) = true then 0 else 6

set_option maxRecDepth 100000 in
set_option maxHeartbeats 400000 in
theorem reckon_none (k : Int) (hk : ¬ (1 ≤ k ∧ k ≤ 3)) (a b : ByteArray) (f : FuncId) (w : World) : Calls Try.prog 96 #[.int .i64 k, .string a, .string b, .func (.func f) #[] #[]] w (Ans (.string ⟨#[]⟩) 1 w) := by
  go_enter Try.func96, Try.ntmps96
  go_wp2_with fail
  obtain ⟨W0, hW0⟩ : ∃ W9 : World, (((w.alloc (.cells #[.string a] 9)).alloc (.cells #[.string b] 9)).alloc (.cells #[.func (.func f) #[] #[]] 140)) = W9 := ⟨_, rfl⟩
  have hz := box3 w (.string a) (.string b) (.func (.func f) #[] #[]) 9 9 140
  rw [hW0] at hz
  have HZ := Lib.hid hz
  clear hz
  simp only [hW0]
  clear hW0
  refine (withS_none k hk _ W0).mono ?_
  rintro e w1 ⟨rfl, hb⟩
  have HB := Lib.hid (below_up HZ.out.1 hb)
  clear hb
  go_wp2_with fail
  go_ret2
  exact ⟨rfl, HB.out⟩

set_option maxRecDepth 100000 in
set_option maxHeartbeats 400000 in
theorem reckon_some (k : Nat) (h1 : 1 ≤ k) (h3 : k ≤ 3) (a b : ByteArray) (f : FuncId) (z : Nat) (hent : Enters Try.prog f) (w : World)
    (hcall : isSc (grp k).q.m (grp k).size b = true → ∀ gb w1, GroupAt w1 gb (grp k) → Calls Try.prog f #[.pointer (some ⟨gb, 0, none⟩), scV (grp k) (numOf a), scV (grp k) (numOf b)] w1 fun e w' => e = .returned (scV (grp k) z) ∧ Below w1.heap.size w1 w') :
    Calls Try.prog 96 #[.int .i64 (k : Int), .string a, .string b, .func (.func f) #[] #[]] w (Ans (.string (recV (grp k) a b z)) (recE (grp k) a b) w) := by
  have HC := Lib.hid hcall
  have HE := Lib.hid hent
  have OK := Lib.hid (grp_ok k h1 h3)
  clear hcall hent
  go_enter Try.func96, Try.ntmps96
  go_wp2_with fail
  obtain ⟨W0, hW0⟩ : ∃ W9 : World, (((w.alloc (.cells #[.string a] 9)).alloc (.cells #[.string b] 9)).alloc (.cells #[.func (.func f) #[] #[]] 140)) = W9 := ⟨_, rfl⟩
  have hz := box3 w (.string a) (.string b) (.func (.func f) #[] #[]) 9 9 140
  rw [hW0] at hz
  have HZ := Lib.hid hz
  clear hz
  simp only [hW0]
  clear hW0
  refine (withS_some k h1 h3 149 #[.pointer (some ⟨w.heap.size, 0, none⟩), .pointer (some ⟨w.heap.size + 1, 0, none⟩), .pointer (some ⟨w.heap.size + 2, 0, none⟩)] (.string (recV (grp k) a b z)) (recE (grp k) a b) (enters_of Try.func149 (by kernel_rfl) rfl) W0 (fun w1 hb hg => ?_)).mono ?_
  · have z1 := HZ.out.2.1.up hb
    have z2 := HZ.out.2.2.1.up hb
    have z3 := HZ.out.2.2.2.up hb
    unfold recV recE
    by_cases hy : (isSc (grp k).q.m (grp k).size a && isSc (grp k).q.m (grp k).size b) = true
    · rw [if_pos hy, if_pos hy]
      obtain ⟨ya, yb⟩ := Bool.and_eq_true_iff.1 hy
      exact reckon1_yes (grp k) OK.out _ _ _ _ f a b z ya yb HE.out w1 hg z1 z2 z3 (fun w2 hg2 => HC.out yb _ w2 hg2)
    · rw [if_neg hy, if_neg hy]
      exact reckon1_no (grp k) OK.out _ _ _ _ a b _ _ rfl rfl (by simpa using hy) w1 hg z1 z2
  · rintro e w2 ⟨rfl, hb2⟩
    have HB2 := Lib.hid (below_up HZ.out.1 hb2)
    clear hb2
    go_wp2_with fail
    go_ret2
    exact ⟨rfl, HB2.out⟩


theorem isSc_lt {q size : Nat} {s : ByteArray} (h : isSc q size s = true) : numOf s < q := by
  unfold isSc at h
  simp at h
  exact h.2

set_option maxRecDepth 100000 in
set_option maxHeartbeats 400000 in
theorem Add_none (k : Int) (hk : ¬ (1 ≤ k ∧ k ≤ 3)) (a b : ByteArray) (w : World) : Calls Try.prog 34 #[.int .i64 k, .string a, .string b] w (Ans (.string ⟨#[]⟩) 1 w) := by
  go_enter Try.func34, Try.ntmps34
  go_wp2_with fail
  refine (reckon_none k hk a b 75 w).mono ?_
  rintro e w1 ⟨rfl, hb⟩
  have HB := Lib.hid hb
  clear hb
  go_wp2_with fail
  go_ret2
  exact ⟨rfl, HB.out⟩

set_option maxRecDepth 100000 in
set_option maxHeartbeats 400000 in
theorem Add_some (k : Nat) (h1 : 1 ≤ k) (h3 : k ≤ 3) (a b : ByteArray) (w : World) : Calls Try.prog 34 #[.int .i64 (k : Int), .string a, .string b] w (Ans (.string (recV (grp k) a b (numOf a + numOf b))) (recE (grp k) a b) w) := by
  have OK := Lib.hid (grp_ok k h1 h3)
  go_enter Try.func34, Try.ntmps34
  go_wp2_with fail
  refine (reckon_some k h1 h3 a b 75 (numOf a + numOf b) (enters_of Try.func75 (by kernel_rfl) rfl) w (fun hb gb w1 hg => gAdd_any (grp k) OK.out gb (numOf a) (numOf b) w1 hg)).mono ?_
  rintro e w1 ⟨rfl, hb⟩
  have HB := Lib.hid hb
  clear hb
  go_wp2_with fail
  go_ret2
  exact ⟨rfl, HB.out⟩

set_option maxRecDepth 100000 in
set_option maxHeartbeats 400000 in
theorem Sub_none (k : Int) (hk : ¬ (1 ≤ k ∧ k ≤ 3)) (a b : ByteArray) (w : World) : Calls Try.prog 35 #[.int .i64 k, .string a, .string b] w (Ans (.string ⟨#[]⟩) 1 w) := by
  go_enter Try.func35, Try.ntmps35
  go_wp2_with fail
  refine (reckon_none k hk a b 61 w).mono ?_
  rintro e w1 ⟨rfl, hb⟩
  have HB := Lib.hid hb
  clear hb
  go_wp2_with fail
  go_ret2
  exact ⟨rfl, HB.out⟩

set_option maxRecDepth 100000 in
set_option maxHeartbeats 400000 in
theorem Sub_some (k : Nat) (h1 : 1 ≤ k) (h3 : k ≤ 3) (a b : ByteArray) (w : World) : Calls Try.prog 35 #[.int .i64 (k : Int), .string a, .string b] w (Ans (.string (recV (grp k) a b (numOf a + ((grp k).q.m - numOf b)))) (recE (grp k) a b) w) := by
  have OK := Lib.hid (grp_ok k h1 h3)
  go_enter Try.func35, Try.ntmps35
  go_wp2_with fail
  refine (reckon_some k h1 h3 a b 61 (numOf a + ((grp k).q.m - numOf b)) (enters_of Try.func61 (by kernel_rfl) rfl) w (fun hb gb w1 hg => gSub_any (grp k) OK.out gb (numOf a) (numOf b) (Nat.le_of_lt (isSc_lt hb)) w1 hg)).mono ?_
  rintro e w1 ⟨rfl, hb⟩
  have HB := Lib.hid hb
  clear hb
  go_wp2_with fail
  go_ret2
  exact ⟨rfl, HB.out⟩

set_option maxRecDepth 100000 in
set_option maxHeartbeats 400000 in
theorem Mul_none (k : Int) (hk : ¬ (1 ≤ k ∧ k ≤ 3)) (a b : ByteArray) (w : World) : Calls Try.prog 33 #[.int .i64 k, .string a, .string b] w (Ans (.string ⟨#[]⟩) 1 w) := by
  go_enter Try.func33, Try.ntmps33
  go_wp2_with fail
  refine (reckon_none k hk a b 63 w).mono ?_
  rintro e w1 ⟨rfl, hb⟩
  have HB := Lib.hid hb
  clear hb
  go_wp2_with fail
  go_ret2
  exact ⟨rfl, HB.out⟩

set_option maxRecDepth 100000 in
set_option maxHeartbeats 400000 in
theorem Mul_some (k : Nat) (h1 : 1 ≤ k) (h3 : k ≤ 3) (a b : ByteArray) (w : World) : Calls Try.prog 33 #[.int .i64 (k : Int), .string a, .string b] w (Ans (.string (recV (grp k) a b (numOf a * numOf b))) (recE (grp k) a b) w) := by
  have OK := Lib.hid (grp_ok k h1 h3)
  go_enter Try.func33, Try.ntmps33
  go_wp2_with fail
  refine (reckon_some k h1 h3 a b 63 (numOf a * numOf b) (enters_of Try.func63 (by kernel_rfl) rfl) w (fun hb gb w1 hg => gMul_any (grp k) OK.out gb (numOf a) (numOf b) w1 hg)).mono ?_
  rintro e w1 ⟨rfl, hb⟩
  have HB := Lib.hid hb
  clear hb
  go_wp2_with fail
  go_ret2
  exact ⟨rfl, HB.out⟩

theorem box1 (w : World) (v1 : Value) (t1 : TypeId) : Below w.heap.size w (w.alloc (.cells #[v1] t1)) ∧ Bx (w.alloc (.cells #[v1] t1)) w.heap.size t1 [v1] :=
  ⟨(Below.refl _ _).alloc (Nat.le_refl _) _, Bx.new w _ _ _ rfl⟩

set_option maxRecDepth 100000 in
set_option maxHeartbeats 400000 in
theorem Inv_none (k : Int) (hk : ¬ (1 ≤ k ∧ k ≤ 3)) (a : ByteArray) (w : World) : Calls Try.prog 31 #[.int .i64 k, .string a] w (Ans (.string ⟨#[]⟩) 1 w) := by
  go_enter Try.func31, Try.ntmps31
  go_wp2_with fail
  obtain ⟨W0, hW0⟩ : ∃ W9 : World, (w.alloc (.cells #[.string a] 9)) = W9 := ⟨_, rfl⟩
  have hz := box1 w (.string a) 9
  rw [hW0] at hz
  have HZ := Lib.hid hz
  clear hz
  simp only [hW0]
  clear hW0
  refine (withS_none k hk _ W0).mono ?_
  rintro e w1 ⟨rfl, hb⟩
  have HB := Lib.hid (below_up HZ.out.1 hb)
  clear hb
  go_wp2_with fail
  go_ret2
  exact ⟨rfl, HB.out⟩

def invV (G : GP) (a : ByteArray) : ByteArray := if isSc G.q.m G.size a = true ∧ numOf a ≠ 0 then textS (numOf a ^ (G.q.m - 2) % G.q.m) G.size else ⟨#[]⟩
def invE (G : GP) (a : ByteArray) : Int := if isSc G.q.m G.size a = true then (if numOf a = 0 then 5 else 0) else 6
def undV (G : GP) (a : ByteArray) : ByteArray := if isEl G.q.m G.size a = true then textS (lowN G (numOf a ^ (G.p.m - 2))) G.size else ⟨#[]⟩
def undE (G : GP) (a : ByteArray) : Int := if isEl G.q.m G.size a = true then 0 else 7
def timV (G : GP) (a b : ByteArray) : ByteArray := if (isEl G.q.m G.size a && isEl G.q.m G.size b) = true then textS (lowN G (numOf a * numOf b)) G.size else ⟨#[]⟩
def timE (G : GP) (a b : ByteArray) : Int := if (isEl G.q.m G.size a && isEl G.q.m G.size b) = true then 0 else 7

theorem Inv_call {k : Nat} (h1 : 1 ≤ k) (h3 : k ≤ 3) {a : ByteArray} {w W0 w1 : World} (hz : Below w.heap.size w W0 ∧ Bx W0 w.heap.size 9 [.string a]) (hb : Below W0.heap.size W0 w1) (hg : GroupAt w1 W0.heap.size (grp k)) :
    Calls Try.prog 94 #[.pointer (some ⟨W0.heap.size, 0, none⟩), .pointer (some ⟨w.heap.size, 0, none⟩)] w1 (Ans (.string (invV (grp k) a)) (invE (grp k) a) w1) := by
  have ok := grp_ok k h1 h3
  have z1 := hz.2.up hb
  unfold invV invE
  by_cases hy : isSc (grp k).q.m (grp k).size a = true
  · have hl := isSc_lt hy
    by_cases h0 : numOf a = 0
    · rw [if_neg (by simp [h0]), if_pos hy, if_pos h0]
      exact inv1_zero _ ok _ _ a hy (by rw [h0, Nat.zero_mod]) w1 hg z1
    · rw [if_pos ⟨hy, h0⟩, if_pos hy, if_neg h0]
      exact inv1_yes _ ok _ _ a hy (by rwa [Nat.mod_eq_of_lt hl]) w1 hg z1
  · rw [if_neg (fun h => hy h.1), if_neg hy]
    exact inv1_no _ ok _ _ a (by simpa using hy) w1 hg z1

set_option maxRecDepth 100000 in
set_option maxHeartbeats 400000 in
theorem Inv_some (k : Nat) (h1 : 1 ≤ k) (h3 : k ≤ 3) (a : ByteArray) (w : World) : Calls Try.prog 31 #[.int .i64 (k : Int), .string a] w (Ans (.string (invV (grp k) a)) (invE (grp k) a) w) := by
  go_enter Try.func31, Try.ntmps31
  go_wp2_with fail
  obtain ⟨W0, hW0⟩ : ∃ W9 : World, (w.alloc (.cells #[.string a] 9)) = W9 := ⟨_, rfl⟩
  have hz := box1 w (.string a) 9
  rw [hW0] at hz
  have HZ := Lib.hid hz
  clear hz
  simp only [hW0]
  clear hW0
  refine (withS_some k h1 h3 94 #[.pointer (some ⟨w.heap.size, 0, none⟩)] (.string (invV (grp k) a)) (invE (grp k) a) (enters_of Try.func94 (by kernel_rfl) rfl) W0 (fun w1 hb hg => Inv_call h1 h3 HZ.out hb hg)).mono ?_
  rintro e w2 ⟨rfl, hb2⟩
  have HB2 := Lib.hid (below_up HZ.out.1 hb2)
  clear hb2
  go_wp2_with fail
  go_ret2
  exact ⟨rfl, HB2.out⟩

end Go.Proofs.Ytipgjookfdkciaa

/- The package group: Product. No condition. -/
namespace Go.Proofs.Ytipgjookfdkciaa
open Go.RowKit

/-- What a product of powers answers: its bytes, and an errno. -/
def prodV (G : GP) : List ByteArray → List ByteArray → Nat → ByteArray
  | a :: xs, n :: ys, z => if isEl G.q.m G.size a = false then ⟨#[]⟩ else if isSc G.q.m G.size n = false then ⟨#[]⟩ else prodV G xs ys (z * numOf a ^ numOf n)
  | _, _, z => textS (lowN G z) G.size
def prodE (G : GP) : List ByteArray → List ByteArray → Int
  | a :: xs, n :: ys => if isEl G.q.m G.size a = false then 7 else if isSc G.q.m G.size n = false then 6 else prodE G xs ys
  | _, _ => 0


set_option maxRecDepth 100000 in
set_option maxHeartbeats 400000 in
theorem product1_long (gb b1 b2 la ln : Nat) (aa an : Option Addr) (ca cn : Nat) (hl : 256 < la ∨ 256 < ln) (w : World)
    (hc1 : Bx w b1 22 [.slice aa la ca]) (hc2 : Bx w b2 22 [.slice an ln cn]) :
    Calls Try.prog 151 #[.pointer (some ⟨gb, 0, none⟩), .pointer (some ⟨b1, 0, none⟩), .pointer (some ⟨b2, 0, none⟩)] w (Ans (.string ⟨#[]⟩) 3 w) := by
  have hk1 := hc1.cell (i := 0) rfl
  have hk2 := hc2.cell (i := 0) rfl
  clear hc1 hc2
  by_cases ha : 256 < la
  · have hd : decide ((la : Int) > 256) = true := by simp; omega
    go_enter Try.func151, Try.ntmps151
    go_wp2_with fail
    go_ret2
    exact ⟨rfl, Below.refl _ _⟩
  · have hd : decide ((la : Int) > 256) = false := by simp; omega
    have hd2 : decide ((ln : Int) > 256) = true := by simp; omega
    go_enter Try.func151, Try.ntmps151
    go_wp2_with fail
    go_ret2
    exact ⟨rfl, Below.refl _ _⟩

set_option maxRecDepth 100000 in
set_option maxHeartbeats 400000 in
theorem product1_form (gb b1 b2 la ln : Nat) (aa an : Option Addr) (ca cn : Nat) (h1 : la ≤ 256) (h2 : ln ≤ 256) (hne : la ≠ ln) (w : World)
    (hc1 : Bx w b1 22 [.slice aa la ca]) (hc2 : Bx w b2 22 [.slice an ln cn]) :
    Calls Try.prog 151 #[.pointer (some ⟨gb, 0, none⟩), .pointer (some ⟨b1, 0, none⟩), .pointer (some ⟨b2, 0, none⟩)] w (Ans (.string ⟨#[]⟩) 2 w) := by
  have hk1 := hc1.cell (i := 0) rfl
  have hk2 := hc2.cell (i := 0) rfl
  clear hc1 hc2
  have hd : decide ((la : Int) > 256) = false := by simp; omega
  have hd2 : decide ((ln : Int) > 256) = false := by simp; omega
  have hd3 : ((la : Int) != (ln : Int)) = true := by rw [bne_iff_ne]; intro h; exact hne (by exact_mod_cast h)
  go_enter Try.func151, Try.ntmps151
  go_wp2_with fail
  go_ret2
  exact ⟨rfl, Below.refl _ _⟩

theorem drop_cons {α : Type} {l : List α} {i : Nat} (h : i < l.length) : l.drop i = l[i] :: l.drop (i + 1) := List.drop_eq_getElem_cons h

set_option maxRecDepth 100000 in
set_option maxHeartbeats 1000000 in
theorem product1_any (G : GP) (ok : G.Ok) (gb b1 b2 L : Nat) (xs ys : List ByteArray) (aa an : Option Addr) (ca cn : Nat) (ha : xs.length = L) (hn : ys.length = L) (hL : L ≤ 256) (w : World) (hG : GroupAt w gb G)
    (hc1 : Bx w b1 22 [.slice aa L ca]) (hc2 : Bx w b2 22 [.slice an L cn]) (hA : Sl w w.heap.size aa (xs.map Value.string)) (hN : Sl w w.heap.size an (ys.map Value.string)) :
    Calls Try.prog 151 #[.pointer (some ⟨gb, 0, none⟩), .pointer (some ⟨b1, 0, none⟩), .pointer (some ⟨b2, 0, none⟩)] w (Ans (.string (prodV G xs ys 1)) (prodE G xs ys) w) := by
  have HLA := Lib.hid ha
  have HLN := Lib.hid hn
  have HC1 := Lib.hid hc1
  have HC2 := Lib.hid hc2
  have HA := Lib.hid hA
  have HNN := Lib.hid hN
  have HG := Lib.hid hG
  have OK := Lib.hid ok
  have hk1 := hc1.cell (i := 0) rfl
  have hk2 := hc2.cell (i := 0) rfl
  clear ha hn hc1 hc2 hA hN hG ok
  have hd : decide ((L : Int) > 256) = false := by simp; omega
  have hd3 : ((L : Int) != (L : Int)) = false := by simp
  go_enter Try.func151, Try.ntmps151
  go_wp2_with fail
  refine (gOne_any G OK.out gb w HG.out).mono ?_
  rintro e w1 ⟨rfl, hb1⟩
  have HB1 := Lib.hid hb1
  clear hb1
  unfold elV limbV
  have hlb : Below w1.heap.size w1 (w1.alloc (.cells #[.int .u64 (dig (mont G.p.m 1) 0 : Int), .int .u64 (dig (mont G.p.m 1) 1 : Int), .int .u64 (dig (mont G.p.m 1) 2 : Int), .int .u64 (dig (mont G.p.m 1) 3 : Int)] 111)) := (Below.refl _ _).alloc (Nat.le_refl _) _
  have hlz : Blk (w1.alloc (.cells #[.int .u64 (dig (mont G.p.m 1) 0 : Int), .int .u64 (dig (mont G.p.m 1) 1 : Int), .int .u64 (dig (mont G.p.m 1) 2 : Int), .int .u64 (dig (mont G.p.m 1) 3 : Int)] 111)) w1.heap.size 111 (lim (mont G.p.m 1)) := Blk.new _ _ _ _ rfl
  obtain ⟨w2, hlw⟩ : ∃ W9 : World, (w1.alloc (.cells #[.int .u64 (dig (mont G.p.m 1) 0 : Int), .int .u64 (dig (mont G.p.m 1) 1 : Int), .int .u64 (dig (mont G.p.m 1) 2 : Int), .int .u64 (dig (mont G.p.m 1) 3 : Int)] 111)) = W9 := ⟨_, rfl⟩
  rw [hlw] at hlb hlz
  have HLw2 := Lib.hid hlb
  have HXw2 := Lib.hid hlz
  clear hlb hlz
  have HB2 := Lib.hid (below_up HB1.out HLw2.out)
  have hwb : w.heap.size ≤ w1.heap.size := HB1.out.size
  clear hk1 hk2
  have hk1 := (HC1.out.up HB2.out).cell (i := 0) rfl
  go_wp2_with fail
  go_loopw [7, 8, 9, 10, 30] (fun _ _ _ _ x wr => ∃ i z : Nat, i ≤ L ∧ x = .int .i64 (i : Int) ∧ Hid (Below w.heap.size w wr) ∧ Hid (Blk wr w1.heap.size 111 (lim (mont G.p.m z))) ∧ Hid (prodV G xs ys 1 = prodV G (xs.drop i) (ys.drop i) z) ∧ Hid (prodE G xs ys = prodE G (xs.drop i) (ys.drop i))) (fun _ _ _ _ x _ => L - (intOf x).toNat)
  case atStart => exact ⟨0, 1, Nat.zero_le _, rfl, HB2.out, HXw2.out, rfl, rfl⟩
  case round =>
    obtain ⟨i, z, hi, hxi, HB, HZ, HV, HE⟩ := hrel
    subst hxi
    clear hk1
    have hk1 := (HC1.out.up HB.out).cell (i := 0) rfl
    have hk2 := (HC2.out.up HB.out).cell (i := 0) rfl
    by_cases hiL : i < L
    · obtain ⟨s, hs⟩ : ∃ s, xs[i]'(by rw [HLA.out]; exact hiL) = s := ⟨_, rfl⟩
      obtain ⟨t, ht⟩ : ∃ t, ys[i]'(by rw [HLN.out]; exact hiL) = t := ⟨_, rfl⟩
      obtain ⟨b3, o3, rfl, hb3, hc3⟩ := HA.out.at i (by rw [List.length_map, HLA.out]; exact hiL)
      obtain ⟨b4, o4, rfl, hb4, hc4⟩ := HNN.out.at i (by rw [List.length_map, HLN.out]; exact hiL)
      rw [List.getElem_map, hs] at hc3
      rw [List.getElem_map, ht] at hc4
      have hx3 : wr.cell? ⟨b3, o3 + i, none⟩ = some (.string s) := by rw [HB.out.cell (p := ⟨b3, o3 + i, none⟩) hb3]; exact hc3
      have HC4 := Lib.hid hc4
      have hdx := drop_cons (show i < xs.length by rw [HLA.out]; exact hiL)
      have hdy := drop_cons (show i < ys.length by rw [HLN.out]; exact hiL)
      rw [hs] at hdx
      rw [ht] at hdy
      have HDX := Lib.hid hdx
      have HDY := Lib.hid hdy
      clear hs ht hc3 hc4 hdx hdy
      obtain ⟨ba, hba⟩ : ∃ b, isEl G.q.m G.size s = b := ⟨_, rfl⟩
      obtain ⟨bb, hbb⟩ : ∃ b, isSc G.q.m G.size t = b := ⟨_, rfl⟩
      have HBA := Lib.hid hba
      have HBB := Lib.hid hbb
      clear hba hbb
      go_wp2_with fail
      refine (gElem_m G OK.out gb s ba HBA.out wr (HG.out.up HB.out)).mono ?_
      rintro e w3 ⟨x, rfl, hb3', hx⟩
      have HX := Lib.hid hx
      have HB3 := Lib.hid (below_up HB.out hb3')
      have HZ3 := Lib.hid (HZ.out.below hb3' HZ.out.lt)
      clear hb3' hx hx3 hk1 hk2
      unfold limbV
      have hlb : Below w3.heap.size w3 (w3.alloc (.cells #[.int .u64 (dig x 0 : Int), .int .u64 (dig x 1 : Int), .int .u64 (dig x 2 : Int), .int .u64 (dig x 3 : Int)] 111)) := (Below.refl _ _).alloc (Nat.le_refl _) _
      have hlz : Blk (w3.alloc (.cells #[.int .u64 (dig x 0 : Int), .int .u64 (dig x 1 : Int), .int .u64 (dig x 2 : Int), .int .u64 (dig x 3 : Int)] 111)) w3.heap.size 111 (lim x) := Blk.new _ _ _ _ rfl
      obtain ⟨w4, hlw⟩ : ∃ W9 : World, (w3.alloc (.cells #[.int .u64 (dig x 0 : Int), .int .u64 (dig x 1 : Int), .int .u64 (dig x 2 : Int), .int .u64 (dig x 3 : Int)] 111)) = W9 := ⟨_, rfl⟩
      rw [hlw] at hlb hlz
      have HLw4 := Lib.hid hlb
      have HXw4 := Lib.hid hlz
      clear hlb hlz
      have HB4 := Lib.hid (below_up HB3.out HLw4.out)
      have HZ4 := Lib.hid (HZ3.out.below HLw4.out HZ3.out.lt)
      have hk2 := (HC2.out.up HB4.out).cell (i := 0) rfl
      have hx4 : w4.cell? ⟨b4, o4 + i, none⟩ = some (.string t) := by rw [HB4.out.cell (p := ⟨b4, o4 + i, none⟩) hb4]; exact HC4.out
      cases ba
      · go_wp2_with fail
        go_ret2
        exact ⟨by rw [HV.out, HE.out, HDX.out, HDY.out]; unfold prodV prodE; rw [if_pos HBA.out, if_pos HBA.out]; rfl, HB4.out⟩
      · obtain rfl : x = mont G.p.m (numOf s) := HX.out rfl
        go_wp2_with fail
        refine (gScalar_m G OK.out gb t bb HBB.out w4 (HG.out.up HB4.out)).mono ?_
        rintro e w5 ⟨y, rfl, hb5, hy⟩
        have HY := Lib.hid hy
        have HB5 := Lib.hid (below_up HB4.out hb5)
        have HZ5 := Lib.hid (HZ4.out.below hb5 HZ4.out.lt)
        have HX5 := Lib.hid (HXw4.out.below hb5 HXw4.out.lt)
        clear hb5 hy hx4 hk2 hlw
        unfold limbV
        have hlb : Below w5.heap.size w5 (w5.alloc (.cells #[.int .u64 (dig y 0 : Int), .int .u64 (dig y 1 : Int), .int .u64 (dig y 2 : Int), .int .u64 (dig y 3 : Int)] 91)) := (Below.refl _ _).alloc (Nat.le_refl _) _
        have hlz : Blk (w5.alloc (.cells #[.int .u64 (dig y 0 : Int), .int .u64 (dig y 1 : Int), .int .u64 (dig y 2 : Int), .int .u64 (dig y 3 : Int)] 91)) w5.heap.size 91 (lim y) := Blk.new _ _ _ _ rfl
        obtain ⟨w6, hlw⟩ : ∃ W9 : World, (w5.alloc (.cells #[.int .u64 (dig y 0 : Int), .int .u64 (dig y 1 : Int), .int .u64 (dig y 2 : Int), .int .u64 (dig y 3 : Int)] 91)) = W9 := ⟨_, rfl⟩
        rw [hlw] at hlb hlz
        have HLw6 := Lib.hid hlb
        have HXw6 := Lib.hid hlz
        clear hlb hlz
        have HB6 := Lib.hid (below_up HB5.out HLw6.out)
        have HZ6 := Lib.hid (HZ5.out.below HLw6.out HZ5.out.lt)
        have HX6 := Lib.hid (HX5.out.below HLw6.out HX5.out.lt)
        cases bb
        · go_wp2_with fail
          go_ret2
          exact ⟨by rw [HV.out, HE.out, HDX.out, HDY.out]; unfold prodV prodE; rw [if_neg (by rw [HBA.out]; decide), if_pos HBB.out, if_neg (by rw [HBA.out]; decide), if_pos HBB.out]; rfl, HB6.out⟩
        · obtain rfl : y = mont G.q.m (numOf t) := HY.out rfl
          have HV2 : Hid (prodV G xs ys 1 = prodV G (xs.drop (i + 1)) (ys.drop (i + 1)) (z * numOf s ^ numOf t)) := by
            show _ = _
            rw [HV.out, HDX.out, HDY.out, prodV, if_neg (by rw [HBA.out]; decide), if_neg (by rw [HBB.out]; decide)]
          have HE2 : Hid (prodE G xs ys = prodE G (xs.drop (i + 1)) (ys.drop (i + 1))) := by
            show _ = _
            rw [HE.out, HDX.out, HDY.out, prodE, if_neg (by rw [HBA.out]; decide), if_neg (by rw [HBB.out]; decide)]
          have HM : Hid (numOf t % G.q.m = numOf t) := Nat.mod_eq_of_lt (isSc_lt HBB.out)
          go_wp2_with fail
          have hz_0 := HZ6.out.cell (i := 0) (x := (dig (mont G.p.m z) 0 : Int)) rfl
          have hz_1 := HZ6.out.cell (i := 1) (x := (dig (mont G.p.m z) 1 : Int)) rfl
          have hz_2 := HZ6.out.cell (i := 2) (x := (dig (mont G.p.m z) 2 : Int)) rfl
          have hz_3 := HZ6.out.cell (i := 3) (x := (dig (mont G.p.m z) 3 : Int)) rfl
          have hx_0 := HX6.out.cell (i := 0) (x := (dig (mont G.p.m (numOf s)) 0 : Int)) rfl
          have hx_1 := HX6.out.cell (i := 1) (x := (dig (mont G.p.m (numOf s)) 1 : Int)) rfl
          have hx_2 := HX6.out.cell (i := 2) (x := (dig (mont G.p.m (numOf s)) 2 : Int)) rfl
          have hx_3 := HX6.out.cell (i := 3) (x := (dig (mont G.p.m (numOf s)) 3 : Int)) rfl
          have hy_0 := HXw6.out.cell (i := 0) (x := (dig (mont G.q.m (numOf t)) 0 : Int)) rfl
          have hy_1 := HXw6.out.cell (i := 1) (x := (dig (mont G.q.m (numOf t)) 1 : Int)) rfl
          have hy_2 := HXw6.out.cell (i := 2) (x := (dig (mont G.q.m (numOf t)) 2 : Int)) rfl
          have hy_3 := HXw6.out.cell (i := 3) (x := (dig (mont G.q.m (numOf t)) 3 : Int)) rfl
          have hl1 := HZ6.out.lt
          have hl2 := HX6.out.lt
          have hl3 := HXw6.out.lt
          refine wp_region_otail 7 (by kernel_rfl) (by kernel_rfl) ?_
          simp only [List.take_succ_cons, List.take_zero, List.drop_succ_cons, List.drop_zero]
          have hov1 := fun (E : Over w6) o => E.cell (b := w1.heap.size) o hl1
          have hov2 := fun (E : Over w6) o => E.cell (b := w3.heap.size) o hl2
          have hov3 := fun (E : Over w6) o => E.cell (b := w5.heap.size) o hl3
          have hpow := fun (E : Over w6) => gPower_any G OK.out gb (numOf s) (numOf t) E.w (HG.out.up (below_up HB6.out E.h))
          rw [HM.out] at hpow
          have HPOW := Lib.hid hpow
          clear hpow
          repeat (go_big_quiet_step (first | (go_at_call 109; exact calls_over (HPOW.out _)) | (go_at_call 108; exact calls_over (gTimes_any G OK.out gb z (numOf s ^ numOf t) _ (HG.out.up (below_up HB6.out (Over.h _)))))))
          all_goals (try unfold elV limbV)
          repeat (go_big_quiet_step (first | (go_at_call 109; exact calls_over (HPOW.out _)) | (go_at_call 108; exact calls_over (gTimes_any G OK.out gb z (numOf s ^ numOf t) _ (HG.out.up (below_up HB6.out (Over.h _)))))))
          all_goals (try unfold elV limbV)
          repeat (go_big_quiet_step (first | (go_at_call 109; exact calls_over (HPOW.out _)) | (go_at_call 108; exact calls_over (gTimes_any G OK.out gb z (numOf s ^ numOf t) _ (HG.out.up (below_up HB6.out (Over.h _)))))))
          refine wpQuiet_nil ?_
          rintro _ ⟨E, rfl⟩
          have HZ7 := Lib.hid (HZ6.out.below E.h HZ6.out.lt)
          have HB7 := Lib.hid (below_up HB6.out E.h)
          clear hov1 hov2 hov3 hz_0 hz_1 hz_2 hz_3
          generalize E.w = w7 at *
          have hz_0 := HZ7.out.cell (i := 0) (x := (dig (mont G.p.m z) 0 : Int)) rfl
          have hz_1 := HZ7.out.cell (i := 1) (x := (dig (mont G.p.m z) 1 : Int)) rfl
          have hz_2 := HZ7.out.cell (i := 2) (x := (dig (mont G.p.m z) 2 : Int)) rfl
          have hz_3 := HZ7.out.cell (i := 3) (x := (dig (mont G.p.m z) 3 : Int)) rfl
          have hzf_0 := HZ7.out.frozen 0
          have hzf_1 := HZ7.out.frozen 1
          have hzf_2 := HZ7.out.frozen 2
          have hzf_3 := HZ7.out.frozen 3
          have HB8 : Hid (Below w.heap.size w (((((w7).setCell ⟨w1.heap.size, 0, none⟩ (.int .u64 (dig (mont G.p.m (z * numOf s ^ numOf t)) 0 : Int))).setCell ⟨w1.heap.size, 1, none⟩ (.int .u64 (dig (mont G.p.m (z * numOf s ^ numOf t)) 1 : Int))).setCell ⟨w1.heap.size, 2, none⟩ (.int .u64 (dig (mont G.p.m (z * numOf s ^ numOf t)) 2 : Int))).setCell ⟨w1.heap.size, 3, none⟩ (.int .u64 (dig (mont G.p.m (z * numOf s ^ numOf t)) 3 : Int)))) := below_fill HB7.out hwb
          have HZ8 : Hid (Blk (((((w7).setCell ⟨w1.heap.size, 0, none⟩ (.int .u64 (dig (mont G.p.m (z * numOf s ^ numOf t)) 0 : Int))).setCell ⟨w1.heap.size, 1, none⟩ (.int .u64 (dig (mont G.p.m (z * numOf s ^ numOf t)) 1 : Int))).setCell ⟨w1.heap.size, 2, none⟩ (.int .u64 (dig (mont G.p.m (z * numOf s ^ numOf t)) 2 : Int))).setCell ⟨w1.heap.size, 3, none⟩ (.int .u64 (dig (mont G.p.m (z * numOf s ^ numOf t)) 3 : Int))) w1.heap.size 111 (lim (mont G.p.m (z * numOf s ^ numOf t)))) := HZ7.out.fill rfl _
          go_wp2_with fail
          go_roundw
          case rel => exact ⟨i + 1, z * numOf s ^ numOf t, by omega, by go_num, HB8.out, HZ8.out, HV2.out, HE2.out⟩
          case measure => simp [intOf]; omega
    · have hil : i = L := by omega
      subst hil
      have hz_0 := HZ.out.cell (i := 0) (x := (dig (mont G.p.m z) 0 : Int)) rfl
      have hz_1 := HZ.out.cell (i := 1) (x := (dig (mont G.p.m z) 1 : Int)) rfl
      have hz_2 := HZ.out.cell (i := 2) (x := (dig (mont G.p.m z) 2 : Int)) rfl
      have hz_3 := HZ.out.cell (i := 3) (x := (dig (mont G.p.m z) 3 : Int)) rfl
      go_wp2_with fail
      refine (gText_any G OK.out gb z wr (HG.out.up HB.out)).mono ?_
      rintro e w3 ⟨rfl, hb3⟩
      have HB3 := Lib.hid (below_up HB.out hb3)
      clear hb3
      go_wp2_with fail
      go_ret2
      refine ⟨?_, HB3.out⟩
      rw [HV.out, HE.out, List.drop_eq_nil_of_le (by rw [HLA.out]; exact Nat.le_refl _)]
      rfl

def proV (G : GP) (xs ys : List ByteArray) : ByteArray := if 256 < xs.length ∨ 256 < ys.length then ⟨#[]⟩ else if xs.length ≠ ys.length then ⟨#[]⟩ else prodV G xs ys 1
def proE (G : GP) (xs ys : List ByteArray) : Int := if 256 < xs.length ∨ 256 < ys.length then 3 else if xs.length ≠ ys.length then 2 else prodE G xs ys

theorem Product_call {k : Nat} (h1 : 1 ≤ k) (h3 : k ≤ 3) {xs ys : List ByteArray} {aa an : Option Addr} {la ln ca cn : Nat} (ha : xs.length = la) (hn : ys.length = ln) {w W0 w1 : World}
    (hA : Sl w w.heap.size aa (xs.map Value.string)) (hN : Sl w w.heap.size an (ys.map Value.string))
    (hz : Below w.heap.size w W0 ∧ Bx W0 w.heap.size 22 [.slice aa la ca] ∧ Bx W0 (w.heap.size + 1) 22 [.slice an ln cn]) (hb : Below W0.heap.size W0 w1) (hg : GroupAt w1 W0.heap.size (grp k)) :
    Calls Try.prog 151 #[.pointer (some ⟨W0.heap.size, 0, none⟩), .pointer (some ⟨w.heap.size, 0, none⟩), .pointer (some ⟨w.heap.size + 1, 0, none⟩)] w1 (Ans (.string (proV (grp k) xs ys)) (proE (grp k) xs ys) w1) := by
  have ok := grp_ok k h1 h3
  have z1 := hz.2.1.up hb
  have z2 := hz.2.2.up hb
  have hu := below_up hz.1 hb
  unfold proV proE
  rw [ha, hn]
  by_cases hl : 256 < la ∨ 256 < ln
  · rw [if_pos hl, if_pos hl]
    exact product1_long _ _ _ la ln aa an ca cn hl w1 z1 z2
  · rw [if_neg hl, if_neg hl]
    by_cases he : la = ln
    · subst he
      rw [if_neg (by simp), if_neg (by simp)]
      exact product1_any _ ok _ _ _ la xs ys aa an ca cn ha hn (by omega) w1 hg z1 z2 (hA.up hu) (hN.up hu)
    · rw [if_pos he, if_pos he]
      exact product1_form _ _ _ la ln aa an ca cn (by omega) (by omega) he w1 z1 z2

set_option maxRecDepth 100000 in
set_option maxHeartbeats 400000 in
theorem Product_none (k : Int) (hk : ¬ (1 ≤ k ∧ k ≤ 3)) (aa an : Option Addr) (la ln ca cn : Nat) (w : World) : Calls Try.prog 100 #[.int .i64 k, .slice aa la ca, .slice an ln cn] w (Ans (.string ⟨#[]⟩) 1 w) := by
  go_enter Try.func100, Try.ntmps100
  go_wp2_with fail
  obtain ⟨W0, hW0⟩ : ∃ W9 : World, ((w.alloc (.cells #[.slice aa la ca] 22)).alloc (.cells #[.slice an ln cn] 22)) = W9 := ⟨_, rfl⟩
  have hz := box2 w (.slice aa la ca) (.slice an ln cn) 22 22
  rw [hW0] at hz
  have HZ := Lib.hid hz
  clear hz
  simp only [hW0]
  clear hW0
  refine (withS_none k hk _ W0).mono ?_
  rintro e w1 ⟨rfl, hb⟩
  have HB := Lib.hid (below_up HZ.out.1 hb)
  clear hb
  go_wp2_with fail
  go_ret2
  exact ⟨rfl, HB.out⟩

set_option maxRecDepth 100000 in
set_option maxHeartbeats 400000 in
theorem Product_some (k : Nat) (h1 : 1 ≤ k) (h3 : k ≤ 3) (xs ys : List ByteArray) (aa an : Option Addr) (la ln ca cn : Nat) (ha : xs.length = la) (hn : ys.length = ln) (w : World)
    (hA : Sl w w.heap.size aa (xs.map Value.string)) (hN : Sl w w.heap.size an (ys.map Value.string)) :
    Calls Try.prog 100 #[.int .i64 (k : Int), .slice aa la ca, .slice an ln cn] w (Ans (.string (proV (grp k) xs ys)) (proE (grp k) xs ys) w) := by
  have HLA := Lib.hid ha
  have HLN := Lib.hid hn
  have HA := Lib.hid hA
  have HN := Lib.hid hN
  clear ha hn hA hN
  go_enter Try.func100, Try.ntmps100
  go_wp2_with fail
  obtain ⟨W0, hW0⟩ : ∃ W9 : World, ((w.alloc (.cells #[.slice aa la ca] 22)).alloc (.cells #[.slice an ln cn] 22)) = W9 := ⟨_, rfl⟩
  have hz := box2 w (.slice aa la ca) (.slice an ln cn) 22 22
  rw [hW0] at hz
  have HZ := Lib.hid hz
  clear hz
  simp only [hW0]
  clear hW0
  refine (withS_some k h1 h3 151 #[.pointer (some ⟨w.heap.size, 0, none⟩), .pointer (some ⟨w.heap.size + 1, 0, none⟩)] (.string (proV (grp k) xs ys)) (proE (grp k) xs ys) (enters_of Try.func151 (by kernel_rfl) rfl) W0 (fun w1 hb hg => Product_call h1 h3 HLA.out HLN.out HA.out HN.out HZ.out hb hg)).mono ?_
  rintro e w2 ⟨rfl, hb2⟩
  have HB2 := Lib.hid (below_up HZ.out.1 hb2)
  clear hb2
  go_wp2_with fail
  go_ret2
  exact ⟨rfl, HB2.out⟩

end Go.Proofs.Ytipgjookfdkciaa

/- The package group: Power. No condition. -/
namespace Go.Proofs.Ytipgjookfdkciaa
open Go.RowKit

def powV (G : GP) (a n : ByteArray) : ByteArray := if isEl G.q.m G.size a = false then ⟨#[]⟩ else if isSc G.q.m G.size n = false then ⟨#[]⟩ else textS (lowN G (numOf a ^ numOf n)) G.size
def powE (G : GP) (a n : ByteArray) : Int := if isEl G.q.m G.size a = false then 7 else if isSc G.q.m G.size n = false then 6 else 0

theorem powV_eq (G : GP) (a n : ByteArray) : proV G [a] [n] = powV G a n := by
  unfold proV powV
  rw [if_neg (by simp), if_neg (by simp)]
  unfold prodV
  rw [Nat.one_mul]
  rfl
theorem powE_eq (G : GP) (a n : ByteArray) : proE G [a] [n] = powE G a n := by
  unfold proE powE
  rw [if_neg (by simp), if_neg (by simp)]
  rfl

set_option maxRecDepth 100000 in
set_option maxHeartbeats 400000 in
theorem Power_none (k : Int) (hk : ¬ (1 ≤ k ∧ k ≤ 3)) (a n : ByteArray) (w : World) : Calls Try.prog 37 #[.int .i64 k, .string a, .string n] w (Ans (.string ⟨#[]⟩) 1 w) := by
  go_enter Try.func37, Try.ntmps37
  go_wp2_with fail
  have hz := (box2 w (.string a) (.string n) 9 9).1
  refine (Product_none k hk _ _ 1 1 1 1 _).mono ?_
  rintro e w1 ⟨rfl, hb⟩
  have HB := Lib.hid (below_up hz hb)
  clear hb hz
  go_wp2_with fail
  go_ret2
  exact ⟨rfl, HB.out⟩

theorem Sl.of_bx {W : World} {b : Nat} {t : TypeId} {cs : List Value} (h : Bx W b t cs) : Sl W W.heap.size (some ⟨b, 0, none⟩) cs := by
  have h1 := Sl.of_block h
  simpa using h1

set_option maxRecDepth 100000 in
set_option maxHeartbeats 400000 in
theorem Power_some (k : Nat) (h1 : 1 ≤ k) (h3 : k ≤ 3) (a n : ByteArray) (w : World) : Calls Try.prog 37 #[.int .i64 (k : Int), .string a, .string n] w (Ans (.string (powV (grp k) a n)) (powE (grp k) a n) w) := by
  go_enter Try.func37, Try.ntmps37
  go_wp2_with fail
  have hz := box2 w (.string a) (.string n) 9 9
  have hp := Product_some k h1 h3 [a] [n] (some ⟨w.heap.size, 0, none⟩) (some ⟨w.heap.size + 1, 0, none⟩) 1 1 1 1 rfl rfl _ (Sl.of_bx hz.2.1) (Sl.of_bx hz.2.2)
  rw [powV_eq, powE_eq] at hp
  refine hp.mono ?_
  rintro e w1 ⟨rfl, hb⟩
  have HB := Lib.hid (below_up hz.1 hb)
  clear hb hz hp
  go_wp2_with fail
  go_ret2
  exact ⟨rfl, HB.out⟩

end Go.Proofs.Ytipgjookfdkciaa

/- The group's numbers, in plain words: the lower of a number and its opposite. No condition. -/
namespace Go.Proofs.Ytipgjookfdkciaa

theorem grp_prime_q (k : Nat) (h1 : 1 ≤ k) (h3 : k ≤ 3) : IsPrime (grp k).q.m := by
  obtain rfl | rfl | rfl : k = 1 ∨ k = 2 ∨ k = 3 := by omega
  · exact prime_q1
  · exact prime_q2
  · exact prime_q3
theorem grp_prime_p (k : Nat) (h1 : 1 ≤ k) (h3 : k ≤ 3) : IsPrime (grp k).p.m := by
  obtain rfl | rfl | rfl : k = 1 ∨ k = 2 ∨ k = 3 := by omega
  · exact prime_p1
  · exact prime_p2
  · exact prime_p3

/-- Two numbers are one or opposite, modulo p. -/
def PM (p x y : Nat) : Prop := (p : Int) ∣ (x : Int) - y ∨ (p : Int) ∣ (x : Int) + y

theorem PM.refl (p x : Nat) : PM p x x := Or.inl ⟨0, by omega⟩
theorem PM.of_mod {p x y : Nat} (h : x % p = y % p) : PM p x y := Or.inl (by
  have h1 := Nat.div_add_mod x p
  have h2 := Nat.div_add_mod y p
  refine ⟨(x / p : Nat) - (y / p : Nat), ?_⟩
  have e1 : (x : Int) = p * (x / p : Nat) + (x % p : Nat) := by exact_mod_cast h1.symm
  have e2 : (y : Int) = p * (y / p : Nat) + (y % p : Nat) := by exact_mod_cast h2.symm
  rw [e1, e2, h]
  generalize ((x / p : Nat) : Int) = a
  generalize ((y / p : Nat) : Int) = b
  grind)
theorem PM.symm {p x y : Nat} (h : PM p x y) : PM p y x := by
  rcases h with ⟨c, h⟩ | ⟨c, h⟩
  · exact Or.inl ⟨-c, by grind⟩
  · exact Or.inr ⟨c, by grind⟩
theorem PM.trans {p x y z : Nat} (h : PM p x y) (g : PM p y z) : PM p x z := by
  rcases h with ⟨c, h⟩ | ⟨c, h⟩ <;> rcases g with ⟨d, g⟩ | ⟨d, g⟩
  · exact Or.inl ⟨c + d, by grind⟩
  · exact Or.inr ⟨c + d, by grind⟩
  · exact Or.inr ⟨c - d, by grind⟩
  · exact Or.inl ⟨c - d, by grind⟩
theorem PM.mul {p x y u v : Nat} (h : PM p x y) (g : PM p u v) : PM p (x * u) (y * v) := by
  have e1 : ((x * u : Nat) : Int) = x * u := by simp
  have e2 : ((y * v : Nat) : Int) = y * v := by simp
  unfold PM
  rw [e1, e2]
  rcases h with ⟨c, h⟩ | ⟨c, h⟩ <;> rcases g with ⟨d, g⟩ | ⟨d, g⟩
  · exact Or.inl ⟨c * u + y * d, by grind⟩
  · exact Or.inr ⟨c * u + y * d, by grind⟩
  · exact Or.inr ⟨c * u - y * d, by grind⟩
  · exact Or.inl ⟨c * u - y * d, by grind⟩
theorem PM.pow {p x y : Nat} (h : PM p x y) : ∀ n : Nat, PM p (x ^ n) (y ^ n)
  | 0 => PM.refl _ _
  | n + 1 => by rw [Nat.pow_succ, Nat.pow_succ]; exact PM.mul (PM.pow h n) h
theorem PM.mod (p x : Nat) : PM p (x % p) x := PM.of_mod (Nat.mod_mod _ _)

theorem lowR_pm (q p x : Nat) (hx : x < p) : PM p (lowR q p x) x := by
  unfold lowR
  split
  · exact Or.inr ⟨1, by omega⟩
  · exact PM.refl _ _
theorem lowR_leq {q p x : Nat} (hp : p = 2 * q + 1) (hx : x < p) : lowR q p x ≤ q := by
  unfold lowR
  split <;> omega
theorem lowR_fix {q p x : Nat} (hx : x ≤ q) : lowR q p x = x := by
  unfold lowR
  rw [if_neg (by omega)]
theorem lowR_pos {q p x : Nat} (hx : x < p) (h0 : 0 < x) : 0 < lowR q p x := by
  unfold lowR
  split <;> omega

/-- Low numbers that are one or opposite are one. -/
theorem low_unique {q p x y : Nat} (hp : p = 2 * q + 1) (hx : x ≤ q) (hy : y ≤ q) (h : PM p x y) : x = y := by
  rcases h with h | h
  · have := Int.eq_zero_of_dvd_of_natAbs_lt_natAbs h (by omega)
    omega
  · have := Int.eq_zero_of_dvd_of_natAbs_lt_natAbs h (by omega)
    omega

theorem low_eq {q p x y : Nat} (hq : 0 < q) (hp : p = 2 * q + 1) (h : PM p x y) : lowR q p (x % p) = lowR q p (y % p) := by
  have hx := Nat.mod_lt x (show 0 < p by omega)
  have hy := Nat.mod_lt y (show 0 < p by omega)
  exact low_unique hp (lowR_leq hp hx) (lowR_leq hp hy) ((((lowR_pm q p _ hx).trans (PM.mod p x)).trans h).trans (((lowR_pm q p _ hy).trans (PM.mod p y)).symm))

theorem pm_low {q p : Nat} (hp : 0 < p) (x : Nat) : PM p (lowR q p (x % p)) x := (lowR_pm q p _ (Nat.mod_lt x hp)).trans (PM.mod p x)

/-- Fermat and Euler: a to the q is 1 or its opposite. -/
theorem pm_euler {q p a : Nat} (hpp : IsPrime p) (hp : p = 2 * q + 1) (h0 : 0 < a) (ha : a < p) : PM p (a ^ q) 1 := by
  have hnd : ¬ p ∣ a := fun h => by have := Nat.le_of_dvd h0 h; omega
  have hf := fermat hpp hnd
  rw [show p - 1 = q * 2 by omega, Nat.pow_mul] at hf
  obtain ⟨b, hb⟩ : ∃ b, a ^ q = b := ⟨_, rfl⟩
  rw [hb] at hf ⊢
  have hb0 : 0 < b := by rw [← hb]; exact Nat.pow_pos h0
  have h2 : p ∣ b ^ 2 - 1 := (mod_eq_iff_dvd_sub (Nat.pow_pos hb0)).1 hf
  have h3 : b ^ 2 - 1 = (b - 1) * (b + 1) := by
    obtain ⟨c, rfl⟩ : ∃ c, b = c + 1 := ⟨b - 1, by omega⟩
    rw [Nat.add_sub_cancel, Nat.pow_two]
    have : (c + 1) * (c + 1) = c * (c + 1 + 1) + 1 := by grind
    omega
  rw [h3] at h2
  rcases hpp.dvd_mul h2 with ⟨c, h⟩ | ⟨c, h⟩
  · refine Or.inl ⟨c, ?_⟩
    have : ((b - 1 : Nat) : Int) = p * c := by rw [h]; simp
    omega
  · refine Or.inr ⟨c, ?_⟩
    have : ((b + 1 : Nat) : Int) = p * c := by rw [h]; simp
    omega

theorem under_low {q p a : Nat} (hpp : IsPrime p) (hp : p = 2 * q + 1) (hq : 0 < q) (h0 : 0 < a) (ha : a ≤ q) : lowR q p (a ^ (p - 2) % p) = lowR q p (a ^ (q - 1) % p) := by
  refine low_eq hq hp ?_
  rw [show p - 2 = q + (q - 1) by omega, Nat.pow_add]
  have h := PM.mul (pm_euler hpp hp h0 (by omega)) (PM.refl p (a ^ (q - 1)))
  rwa [Nat.one_mul] at h

theorem low_mul {q p : Nat} (hq : 0 < q) (hp : p = 2 * q + 1) (x y : Nat) : lowR q p (lowR q p (x % p) * lowR q p (y % p) % p) = lowR q p (x * y % p) :=
  low_eq hq hp (PM.mul (pm_low (by omega) x) (pm_low (by omega) y))

end Go.Proofs.Ytipgjookfdkciaa

/- Numbers in so many bytes, there and back; the group's faces on such texts. No condition. -/
namespace Go.Proofs.Ytipgjookfdkciaa
open Go.RowKit

theorem numL_inj : ∀ l m : List UInt8, l.length = m.length → numL l = numL m → l = m
  | [], [], _, _ => rfl
  | [], _ :: _, h, _ => by simp at h
  | _ :: _, [], h, _ => by simp at h
  | a :: l, b :: m, h, e => by
    have hl : l.length = m.length := by simpa using h
    have h1 := numL_lt l
    have h2 := numL_lt m
    simp only [numL] at e
    rw [hl] at e h1
    have hP : 0 < 256 ^ m.length := Nat.pow_pos (by decide)
    have hd := congrArg (· / 256 ^ m.length) e
    have hm := congrArg (· % 256 ^ m.length) e
    simp only [Nat.mul_comm _ (256 ^ m.length), Nat.mul_add_div hP, Nat.mul_add_mod, Nat.div_eq_of_lt h1, Nat.div_eq_of_lt h2, Nat.mod_eq_of_lt h1, Nat.mod_eq_of_lt h2, Nat.add_zero] at hd hm
    rw [numL_inj l m hl hm, UInt8.toNat_inj.1 hd]

theorem numOf_inj {s t : ByteArray} (h : s.size = t.size) (e : numOf s = numOf t) : s = t := by
  have h1 := numL_inj s.data.toList t.data.toList (by simpa using h) e
  cases s; cases t
  simp at h1
  rw [h1]

theorem text_numOf (s : ByteArray) : textS (numOf s) s.size = s := by
  refine numOf_inj (textS_size _ _) ?_
  rw [numOf_textS]
  exact Nat.mod_eq_of_lt (by have := numL_lt s.data.toList; simpa [numOf] using this)

/-- A number as a text of the group. -/
def T (G : GP) (n : Nat) : ByteArray := textS n G.size

theorem T_size (G : GP) (n : Nat) : (T G n).size = G.size := textS_size _ _
theorem T_num {G : GP} (_ok : G.Ok) {n : Nat} (h : n ≤ G.q.m) (hne : G.q.m < 256 ^ G.size) : numOf (T G n) = n := by
  unfold T
  rw [numOf_textS]
  exact Nat.mod_eq_of_lt (by omega)

theorem T_of {G : GP} {s : ByteArray} (h : s.size = G.size) : s = T G (numOf s) := by
  unfold T
  rw [← h]
  exact (text_numOf s).symm

theorem T_sc {G : GP} (ok : G.Ok) (hne : G.q.m < 256 ^ G.size) {n : Nat} (h : n < G.q.m) : isSc G.q.m G.size (T G n) = true := by
  unfold isSc
  rw [T_size, T_num ok (Nat.le_of_lt h) hne]
  simp [h]
theorem T_el {G : GP} (ok : G.Ok) (hne : G.q.m < 256 ^ G.size) {n : Nat} (h0 : 0 < n) (h : n ≤ G.q.m) : isEl G.q.m G.size (T G n) = true := by
  unfold isEl
  rw [T_size, T_num ok h hne]
  simp [h, h0]

theorem grp_fits (k : Nat) (h1 : 1 ≤ k) (h3 : k ≤ 3) : (grp k).q.m < 256 ^ (grp k).size := by
  obtain rfl | rfl | rfl : k = 1 ∨ k = 2 ∨ k = 3 := by omega
  all_goals decide


theorem recV_t {k : Nat} (h1 : 1 ≤ k) (h3 : k ≤ 3) {x y z r : Nat} (hx : x < (grp k).q.m) (hy : y < (grp k).q.m) (hr : z % (grp k).q.m = r) : recV (grp k) (T (grp k) x) (T (grp k) y) z = T (grp k) r := by
  unfold recV
  rw [T_sc (grp_ok k h1 h3) (grp_fits k h1 h3) hx, T_sc (grp_ok k h1 h3) (grp_fits k h1 h3) hy, hr]
  rfl
theorem recE_t {k : Nat} (h1 : 1 ≤ k) (h3 : k ≤ 3) {x y : Nat} (hx : x < (grp k).q.m) (hy : y < (grp k).q.m) : recE (grp k) (T (grp k) x) (T (grp k) y) = 0 := by
  unfold recE
  rw [T_sc (grp_ok k h1 h3) (grp_fits k h1 h3) hx, T_sc (grp_ok k h1 h3) (grp_fits k h1 h3) hy]
  rfl

theorem sub_t (k : Nat) (h1 : 1 ≤ k) (h3 : k ≤ 3) (x y r : Nat) (hx : x < (grp k).q.m) (hy : y < (grp k).q.m) (hr : (x + ((grp k).q.m - y)) % (grp k).q.m = r) (w : World) :
    Calls Try.prog 35 #[.int .i64 (k : Int), .string (T (grp k) x), .string (T (grp k) y)] w (Ans (.string (T (grp k) r)) 0 w) := by
  have hA := Sub_some k h1 h3 (T (grp k) x) (T (grp k) y) w
  rwa [recV_t (r := r) h1 h3 hx hy (by rw [T_num (grp_ok k h1 h3) (Nat.le_of_lt hx) (grp_fits k h1 h3), T_num (grp_ok k h1 h3) (Nat.le_of_lt hy) (grp_fits k h1 h3)]; exact hr), recE_t h1 h3 hx hy] at hA

theorem inv_zero_t (k : Nat) (h1 : 1 ≤ k) (h3 : k ≤ 3) (w : World) : Calls Try.prog 31 #[.int .i64 (k : Int), .string (T (grp k) 0)] w (Ans (.string ⟨#[]⟩) 5 w) := by
  have hq : 0 < (grp k).q.m := (grp_ok k h1 h3).q.pos
  have hA := Inv_some k h1 h3 (T (grp k) 0) w
  have e1 : numOf (T (grp k) 0) = 0 := T_num (grp_ok k h1 h3) (Nat.zero_le _) (grp_fits k h1 h3)
  have e2 := T_sc (grp_ok k h1 h3) (grp_fits k h1 h3) hq
  rwa [show invV (grp k) (T (grp k) 0) = ⟨#[]⟩ by unfold invV; rw [if_neg (by simp [e1])], show invE (grp k) (T (grp k) 0) = 5 by unfold invE; rw [if_pos e2, if_pos e1]] at hA

theorem inv_t (k : Nat) (h1 : 1 ≤ k) (h3 : k ≤ 3) (x r : Nat) (h0 : 0 < x) (hx : x < (grp k).q.m) (hr : x ^ ((grp k).q.m - 2) % (grp k).q.m = r) (w : World) : Calls Try.prog 31 #[.int .i64 (k : Int), .string (T (grp k) x)] w (Ans (.string (T (grp k) r)) 0 w) := by
  have hA := Inv_some k h1 h3 (T (grp k) x) w
  have e1 : numOf (T (grp k) x) = x := T_num (grp_ok k h1 h3) (Nat.le_of_lt hx) (grp_fits k h1 h3)
  have e2 := T_sc (grp_ok k h1 h3) (grp_fits k h1 h3) hx
  rwa [show invV (grp k) (T (grp k) x) = T (grp k) r by unfold invV; rw [if_pos ⟨e2, by omega⟩, e1, hr]; rfl, show invE (grp k) (T (grp k) x) = 0 by unfold invE; rw [if_pos e2, if_neg (by omega)]] at hA

theorem number_t (k : Nat) (h1 : 1 ≤ k) (h3 : k ≤ 3) (n : Int) (r : Nat) (hn1 : -9223372036854775808 ≤ n) (hn2 : n ≤ 9223372036854775807) (hr : modI (grp k).q.m n = r) (w : World) : Calls Try.prog 53 #[.int .i64 (k : Int), .int .i64 n] w (Ans (.string (T (grp k) r)) 0 w) := by
  subst hr
  exact Number_some k h1 h3 n hn1 hn2 w

theorem scal_t (k : Nat) (h1 : 1 ≤ k) (h3 : k ≤ 3) (x : Nat) (hx : x < (grp k).q.m) (w : World) : Calls Try.prog 32 #[.int .i64 (k : Int), .string (T (grp k) x)] w fun e w' => e = .returned (.bool true) ∧ Below w.heap.size w w' := by
  have h9 := Scalar_some k h1 h3 (T (grp k) x) w
  rwa [T_sc (grp_ok k h1 h3) (grp_fits k h1 h3) hx] at h9

end Go.Proofs.Ytipgjookfdkciaa

/- The group's faces on texts of elements; what powers of elements are. No condition. -/
namespace Go.Proofs.Ytipgjookfdkciaa
open Go.RowKit

/-- The element that a number stands for. -/
def Lw (q p v : Nat) : Nat := lowR q p (v % p)

section
variable {q p : Nat} (hq : 0 < q) (hp : p = 2 * q + 1)
include hq hp
theorem Lw_eq {x y : Nat} (h : PM p x y) : Lw q p x = Lw q p y := low_eq hq hp h
omit hq in
theorem Lw_pm (x : Nat) : PM p (Lw q p x) x := pm_low (by omega) x
omit hq in
theorem Lw_le (x : Nat) : Lw q p x ≤ q := lowR_leq hp (Nat.mod_lt _ (by omega))
omit hq in
theorem Lw_fix {x : Nat} (h : x ≤ q) : Lw q p x = x := by
  unfold Lw
  rw [Nat.mod_eq_of_lt (by omega), lowR_fix h]
omit hq in
theorem Lw_pos {x : Nat} (h : ¬ p ∣ x) : 0 < Lw q p x := by
  unfold Lw
  refine lowR_pos (Nat.mod_lt _ (by omega)) ?_
  rcases Nat.eq_zero_or_pos (x % p) with h0 | h0
  · exact absurd (Nat.dvd_of_mod_eq_zero h0) h
  · exact h0
end

theorem IsPrime.not_dvd_mul {p a b : Nat} (hp : IsPrime p) (ha : ¬ p ∣ a) (hb : ¬ p ∣ b) : ¬ p ∣ a * b := fun h => (hp.dvd_mul h).elim ha hb
theorem IsPrime.not_dvd_pow {p a : Nat} (hp : IsPrime p) (ha : ¬ p ∣ a) : ∀ n, ¬ p ∣ a ^ n
  | 0 => fun h => by rw [Nat.pow_zero] at h; have := Nat.le_of_dvd (by decide) h; have := hp.1; omega
  | n + 1 => by rw [Nat.pow_succ]; exact hp.not_dvd_mul (IsPrime.not_dvd_pow hp ha n) ha
theorem not_dvd_small {p a : Nat} (h0 : 0 < a) (h : a < p) : ¬ p ∣ a := fun hd => by have := Nat.le_of_dvd h0 hd; omega

/-- Powers of an element go by the order. -/
theorem pm_pow_mod {q p a : Nat} (hpp : IsPrime p) (hp : p = 2 * q + 1) (h0 : 0 < a) (ha : a < p) (n : Nat) : PM p (a ^ (n % q)) (a ^ n) := by
  have h1 : a ^ n = a ^ (n % q) * (a ^ q) ^ (n / q) := by
    rw [← Nat.pow_mul, ← Nat.pow_add, Nat.mod_add_div]
  rw [h1]
  have h2 := PM.mul (PM.refl p (a ^ (n % q))) ((pm_euler hpp hp h0 ha).pow (n / q))
  rw [Nat.one_pow, Nat.mul_one] at h2
  exact h2.symm

theorem memb_t (k : Nat) (h1 : 1 ≤ k) (h3 : k ≤ 3) (x : Nat) (h0 : 0 < x) (hx : x ≤ (grp k).q.m) (w : World) : Calls Try.prog 122 #[.int .i64 (k : Int), .string (T (grp k) x)] w fun e w' => e = .returned (.bool true) ∧ Below w.heap.size w w' := by
  have h9 := Member_some k h1 h3 (T (grp k) x) w
  rwa [T_el (grp_ok k h1 h3) (grp_fits k h1 h3) h0 hx] at h9

theorem timV_t {k : Nat} (h1 : 1 ≤ k) (h3 : k ≤ 3) {x y r : Nat} (h0 : 0 < x) (hx : x ≤ (grp k).q.m) (g0 : 0 < y) (hy : y ≤ (grp k).q.m) (hr : Lw (grp k).q.m (grp k).p.m (x * y) = r) : timV (grp k) (T (grp k) x) (T (grp k) y) = T (grp k) r ∧ timE (grp k) (T (grp k) x) (T (grp k) y) = 0 := by
  unfold timV timE
  rw [T_el (grp_ok k h1 h3) (grp_fits k h1 h3) h0 hx, T_el (grp_ok k h1 h3) (grp_fits k h1 h3) g0 hy, T_num (grp_ok k h1 h3) hx (grp_fits k h1 h3), T_num (grp_ok k h1 h3) hy (grp_fits k h1 h3)]
  exact ⟨congrArg (textS · _) hr, rfl⟩
theorem powV_t {k : Nat} (h1 : 1 ≤ k) (h3 : k ≤ 3) {x n r : Nat} (h0 : 0 < x) (hx : x ≤ (grp k).q.m) (hn : n < (grp k).q.m) (hr : Lw (grp k).q.m (grp k).p.m (x ^ n) = r) : powV (grp k) (T (grp k) x) (T (grp k) n) = T (grp k) r ∧ powE (grp k) (T (grp k) x) (T (grp k) n) = 0 := by
  unfold powV powE
  rw [T_el (grp_ok k h1 h3) (grp_fits k h1 h3) h0 hx, T_sc (grp_ok k h1 h3) (grp_fits k h1 h3) hn, T_num (grp_ok k h1 h3) hx (grp_fits k h1 h3), T_num (grp_ok k h1 h3) (Nat.le_of_lt hn) (grp_fits k h1 h3)]
  exact ⟨congrArg (textS · _) hr, rfl⟩

theorem power_t (k : Nat) (h1 : 1 ≤ k) (h3 : k ≤ 3) (x n r : Nat) (h0 : 0 < x) (hx : x ≤ (grp k).q.m) (hn : n < (grp k).q.m) (hr : Lw (grp k).q.m (grp k).p.m (x ^ n) = r) (w : World) : Calls Try.prog 37 #[.int .i64 (k : Int), .string (T (grp k) x), .string (T (grp k) n)] w (Ans (.string (T (grp k) r)) 0 w) := by
  have h9 := Power_some k h1 h3 (T (grp k) x) (T (grp k) n) w
  obtain ⟨e1, e2⟩ := powV_t h1 h3 h0 hx hn hr
  rwa [e1, e2] at h9
theorem addF_t (k : Nat) (h1 : 1 ≤ k) (h3 : k ≤ 3) (x y r : Nat) (hx : x < (grp k).q.m) (hy : y < (grp k).q.m) (hr : (x + y) % (grp k).q.m = r) (w : World) :
    Calls Try.prog 34 #[.int .i64 (k : Int), .string (T (grp k) x), .string (T (grp k) y)] w (Ans (.string (T (grp k) r)) 0 w) := by
  have hA := Add_some k h1 h3 (T (grp k) x) (T (grp k) y) w
  rwa [recV_t (r := r) h1 h3 hx hy (by rw [T_num (grp_ok k h1 h3) (Nat.le_of_lt hx) (grp_fits k h1 h3), T_num (grp_ok k h1 h3) (Nat.le_of_lt hy) (grp_fits k h1 h3)]; exact hr), recE_t h1 h3 hx hy] at hA
theorem mulF_t (k : Nat) (h1 : 1 ≤ k) (h3 : k ≤ 3) (x y r : Nat) (hx : x < (grp k).q.m) (hy : y < (grp k).q.m) (hr : x * y % (grp k).q.m = r) (w : World) :
    Calls Try.prog 33 #[.int .i64 (k : Int), .string (T (grp k) x), .string (T (grp k) y)] w (Ans (.string (T (grp k) r)) 0 w) := by
  have hA := Mul_some k h1 h3 (T (grp k) x) (T (grp k) y) w
  rwa [recV_t (r := r) h1 h3 hx hy (by rw [T_num (grp_ok k h1 h3) (Nat.le_of_lt hx) (grp_fits k h1 h3), T_num (grp_ok k h1 h3) (Nat.le_of_lt hy) (grp_fits k h1 h3)]; exact hr), recE_t h1 h3 hx hy] at hA


end Go.Proofs.Ytipgjookfdkciaa

/- The document's group as a value: its contracts in short; what low numbers do. No condition. -/
namespace Go.Proofs.Ytipgjookfdkciaa
open Go.RowKit

section
variable {G : GP}
theorem lowN_eq (ok : G.Ok) {x y : Nat} (h : PM G.p.m x y) : lowN G x = lowN G y := low_eq ok.q.pos ok.twice h
theorem lowN_pm (ok : G.Ok) (x : Nat) : PM G.p.m (lowN G x) x := Lw_pm ok.twice x
theorem lowN_le (ok : G.Ok) (x : Nat) : lowN G x ≤ G.q.m := Lw_le ok.twice x
theorem lowN_16 (ok : G.Ok) (x : Nat) : lowN G x < DD ^ 16 := Nat.lt_of_le_of_lt (lowN_le ok x) ok.q.lt4
theorem lowN_mul (ok : G.Ok) (x y : Nat) : lowN G (lowN G x * lowN G y) = lowN G (x * y) := lowN_eq ok (PM.mul (lowN_pm ok x) (lowN_pm ok y))
theorem lowN_mulL (ok : G.Ok) (x y : Nat) : lowN G (lowN G x * y) = lowN G (x * y) := lowN_eq ok (PM.mul (lowN_pm ok x) (PM.refl _ y))
theorem lowN_mulR (ok : G.Ok) (x y : Nat) : lowN G (x * lowN G y) = lowN G (x * y) := lowN_eq ok (PM.mul (PM.refl _ x) (lowN_pm ok y))
theorem lowN_pow (ok : G.Ok) (x n : Nat) : lowN G (lowN G x ^ n) = lowN G (x ^ n) := lowN_eq ok (PM.pow (lowN_pm ok x) n)
theorem lowN_fix (ok : G.Ok) {x : Nat} (h : x ≤ G.q.m) : lowN G x = x := Lw_fix ok.twice h

/-- The document's group lies in memory. -/
structure RG (W : World) (G : GP) (aq ap : Option Addr) : Prop where
  q : NumAt W aq G.q.m
  p : NumAt W ap G.p.m
theorem RG.up {W W' : World} {aq ap : Option Addr} (h : RG W G aq ap) (hb : Below W.heap.size W W') : RG W' G aq ap := ⟨h.q.up hb, h.p.up hb⟩

theorem q_dl (ok : G.Ok) {n : Nat} (h : n ≤ G.q.m) : dl n ≤ 65536 := Nat.le_trans (dl_of_lt n 16 (Nat.lt_of_le_of_lt h ok.q.lt4)) (by decide)

variable {aq ap : Option Addr} {cq cp : Nat}

theorem rProd (ok : G.Ok) {a b : Nat} {aa ab : Option Addr} {ca cb : Nat} (ha : a < DD ^ 16) (hb : b < DD ^ 16) (w : World) (hG : RG w G aq ap) (hA : NumAt w aa a) (hB : NumAt w ab b) :
    Calls Try.prog 110 #[.agg #[.int .i64 (G.size : Int), .slice aq (dl G.q.m) cq, .slice ap (dl G.p.m) cp], .slice aa (dl a) ca, .slice ab (dl b) cb] w fun e w' => NumR w e w' (lowN G (a * b)) :=
  refProduct_any a b G.size G.q.m G.p.m aa ab aq ap ca cb cq cp ha hb ok.p.pos ok.p.lt4 w hA hB hG.q hG.p
theorem rPow (ok : G.Ok) {a n : Nat} {aa an : Option Addr} {ca cn : Nat} (ha : a < DD ^ 16) (hn : dl n ≤ 65536) (w : World) (hG : RG w G aq ap) (hA : NumAt w aa a) (hN : NumAt w an n) :
    Calls Try.prog 111 #[.agg #[.int .i64 (G.size : Int), .slice aq (dl G.q.m) cq, .slice ap (dl G.p.m) cp], .slice aa (dl a) ca, .slice an (dl n) cn] w fun e w' => NumR w e w' (lowN G (a ^ n)) :=
  refPow_any a n G.size G.q.m G.p.m aa an aq ap ca cn cq cp ha hn (by have := ok.twice; have := ok.q.pos; omega) ok.p.lt4 w hA hN hG.q hG.p
theorem rUnder (ok : G.Ok) {a : Nat} {aa : Option Addr} {ca : Nat} (ha : a < DD ^ 16) (w : World) (hG : RG w G aq ap) (hA : NumAt w aa a) :
    Calls Try.prog 148 #[.agg #[.int .i64 (G.size : Int), .slice aq (dl G.q.m) cq, .slice ap (dl G.p.m) cp], .slice aa (dl a) ca] w fun e w' => NumR w e w' (lowN G (a ^ (G.q.m - 1))) :=
  refUnder_any a G.size G.q.m G.p.m aa aq ap ca cq cp ha ok.q.pos ok.q.lt4 (by have := ok.twice; have := ok.q.pos; omega) ok.p.lt4 w hA hG.q hG.p
theorem rIsSc (ok : G.Ok) (s : ByteArray) (w : World) (hG : RG w G aq ap) :
    Calls Try.prog 66 #[.agg #[.int .i64 (G.size : Int), .slice aq (dl G.q.m) cq, .slice ap (dl G.p.m) cp], .string s] w fun e w' => e = .returned (.bool (isSc G.q.m G.size s)) ∧ Below w.heap.size w w' :=
  refIsScalar_any s G.size G.q.m G.p.m aq ap cq cp ok.size_le w hG.q
theorem rIsEl (ok : G.Ok) (s : ByteArray) (w : World) (hG : RG w G aq ap) :
    Calls Try.prog 79 #[.agg #[.int .i64 (G.size : Int), .slice aq (dl G.q.m) cq, .slice ap (dl G.p.m) cp], .string s] w fun e w' => e = .returned (.bool (isEl G.q.m G.size s)) ∧ Below w.heap.size w w' :=
  refIsElem_any s G.size G.q.m G.p.m aq ap cq cp ok.size_le w hG.q
theorem rAdd (ok : G.Ok) {a b : Nat} {aa ab : Option Addr} {ca cb : Nat} (ha : a < DD ^ 16) (hb : b < DD ^ 16) (w : World) (hG : RG w G aq ap) (hA : NumAt w aa a) (hB : NumAt w ab b) :
    Calls Try.prog 152 #[.agg #[.int .i64 (G.size : Int), .slice aq (dl G.q.m) cq, .slice ap (dl G.p.m) cp], .slice aa (dl a) ca, .slice ab (dl b) cb] w fun e w' => NumR w e w' ((a + b) % G.q.m) :=
  refAdd_any a b G.size G.q.m G.p.m aa ab aq ap ca cb cq cp ha hb ok.q.pos w hA hB hG.q
theorem rMul (ok : G.Ok) {a b : Nat} {aa ab : Option Addr} {ca cb : Nat} (ha : a < DD ^ 16) (hb : b < DD ^ 16) (w : World) (hG : RG w G aq ap) (hA : NumAt w aa a) (hB : NumAt w ab b) :
    Calls Try.prog 71 #[.agg #[.int .i64 (G.size : Int), .slice aq (dl G.q.m) cq, .slice ap (dl G.p.m) cp], .slice aa (dl a) ca, .slice ab (dl b) cb] w fun e w' => NumR w e w' (a * b % G.q.m) :=
  refMul_any a b G.size G.q.m G.p.m aa ab aq ap ca cb cq cp ha hb ok.q.pos w hA hB hG.q
theorem rSub (ok : G.Ok) {a b : Nat} {aa ab : Option Addr} {ca cb : Nat} (ha : a < DD ^ 16) (hb : b ≤ G.q.m) (w : World) (hG : RG w G aq ap) (hA : NumAt w aa a) (hB : NumAt w ab b) :
    Calls Try.prog 68 #[.agg #[.int .i64 (G.size : Int), .slice aq (dl G.q.m) cq, .slice ap (dl G.p.m) cp], .slice aa (dl a) ca, .slice ab (dl b) cb] w fun e w' => NumR w e w' ((a + (G.q.m - b)) % G.q.m) :=
  by have h := refSub_any a b G.size G.q.m G.p.m aa ab aq ap ca cb cq cp ha hb ok.q.pos ok.q.lt4 w hA hB hG.q
     rwa [Nat.add_sub_assoc hb] at h
theorem rInv (ok : G.Ok) (h2 : 2 ≤ G.q.m) {a : Nat} {aa : Option Addr} {ca : Nat} (ha : a < DD ^ 16) (w : World) (hG : RG w G aq ap) (hA : NumAt w aa a) :
    Calls Try.prog 67 #[.agg #[.int .i64 (G.size : Int), .slice aq (dl G.q.m) cq, .slice ap (dl G.p.m) cp], .slice aa (dl a) ca] w fun e w' => NumR w e w' (a ^ (G.q.m - 2) % G.q.m) :=
  refInv_any a G.size G.q.m G.p.m aa aq ap ca cq cp ha h2 ok.q.lt4 w hA hG.q
theorem rText (ok : G.Ok) {n : Nat} {an : Option Addr} {cn : Nat} (hn : n < DD ^ 16) (w : World) (hN : NumAt w an n) :
    Calls Try.prog 70 #[.slice an (dl n) cn, .int .i64 (G.size : Int)] w fun e w' => e = .returned (.string (textS n G.size)) ∧ Below w.heap.size w w' :=
  refText_any n G.size an cn (small_dl n hn) (by have := ok.size_le; omega) w hN
end

end Go.Proofs.Ytipgjookfdkciaa
