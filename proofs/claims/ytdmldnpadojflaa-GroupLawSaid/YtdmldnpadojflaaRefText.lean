/- The document's numbers, written down; compared. No condition. -/
import Derived.Test.YtdmldnpadojflaaRefKind
namespace Go.Proofs.Ytdmldnpadojflaa
open Go.RowKit

theorem byteAt_nought (n i : Nat) (h : dl n ≤ i / 2) : byteAt n i = 0 := by
  rw [byte_dg, dg_nought n _ h]
  simp
theorem textL_skip (n size k : Nat) (h : byteAt n k = 0) : textL n size k = textL n size (k + 1) := by
  unfold textL
  refine List.map_congr_left fun p _ => ?_
  by_cases h1 : size - 1 - p < k
  · rw [if_pos h1, if_pos (by omega)]
  · rw [if_neg h1]
    by_cases h2 : size - 1 - p < k + 1
    · rw [if_pos h2, show size - 1 - p = k by omega, h]; rfl
    · rw [if_neg h2]


set_option maxHeartbeats 1000000 in
theorem refText_any (n size : Nat) (an : Option Addr) (cn : Nat) (hln : dl n ≤ 1048576) (hs : size ≤ 1024) (w : World) (hA : NumAt w an n) :
    Calls Try.prog 18 #[.slice an (dl n) cn, .int .i64 (size : Int)] w fun e w' => e = .returned (.string (textS n size)) ∧ Below w.heap.size w w' := by
  obtain ⟨i0, hi, hz0, hz1, hz2⟩ := info_parts infoByte
  have HA := Lib.hid hA
  clear hA
  go_enter Try.func18, Try.ntmps18
  go_wp2_with (at_make; refine wpList_make_full _ rfl _ _ 85 rfl 0 5 i0 (.int .u8 0) 1 Try.underlying85 hi hz0 hz1 _ _ _ _ size rfl rfl ?c1 ?c2 ?c3 ?c4 ?c5 ?_)
  case c1 => rfl
  case c2 => rfl
  case c3 => rw [hz2]; omega
  case c4 => unfold maxLen; omega
  case c5 => omega
  intro w1 hown hgrow
  have HB1 : Hid (Below w.heap.size w w1) := (Below.refl _ _).grown hgrow (Nat.le_refl _) (by simp)
  have HO1 : Hid (w1.ownsRow 0 5 1 (.slice (some ⟨w.heap.size, 0, none⟩) size size) size ((textL n size 0).map (Value.int .u8))) := by
    have h := hown
    show World.ownsRow _ _ _ _ _ _ _
    rw [textL_zero]
    rw [bytes_made] at h
    exact h
  clear hown hgrow hi hz0 hz1 hz2
  go_wp2_with fail
  go_loopw [6, 7] (fun x _ wr => ∃ k : Nat, k ≤ size ∧ x = .int .i64 k ∧ Hid (wr.ownsRow 0 5 1 (.slice (some ⟨w.heap.size, 0, none⟩) size size) size ((textL n size k).map (Value.int .u8))) ∧ Hid (Below w.heap.size w wr)) (fun x _ _ => size - (intOf x).toNat)
  case atStart => exact ⟨0, Nat.zero_le _, rfl, HO1.out, HB1.out⟩
  case round =>
    clear HO1 HB1
    obtain ⟨k, hk, rfl, HO, HN⟩ := hrel
    by_cases hkl : k < size
    · have hlen : size - 1 - k < ((textL n size k).map (Value.int .u8)).length := by simp [textL_length]; omega
      have hc := HO.out.cellAt (size - 1 - k) (by omega)
      rw [List.getElem?_eq_getElem hlen] at hc
      have hf := HO.out.frozenAt (size - 1 - k)
      generalize ((textL n size k).map (Value.int .u8))[size - 1 - k] = old at hc
      have hidx : (size : Int) - 1 - (k : Int) = ((size - 1 - k : Nat) : Int) := by omega
      clear hlen
      have hk2 : (k : Int) / 2 = ((k / 2 : Nat) : Int) := by omega
      by_cases hd : k / 2 < dl n
      · obtain ⟨b1, o1, rfl, hb1, hcell1⟩ := HA.out.all (by omega)
        have hx1 : wr.cell? ⟨b1, o1 + k / 2, none⟩ = some (.int .i64 (dg DD n (k / 2) : Int)) := by rw [HN.out.cell (p := ⟨b1, o1 + k / 2, none⟩) hb1]; exact hcell1 _ hd
        have hdb : dg DD n (k / 2) < 65536 := dg_lt (B := DD) (by decide) n _
        have hby := byte_dg n k
        clear hcell1 hk2
        generalize dg DD n (k / 2) = d at *
        have hk1 : k % 2 = 0 ∨ k % 2 = 1 := by omega
        rcases hk1 with hk1 | hk1
        · have hodd : ((k : Int) % 2 == 1) = false := by simp; omega
          have hbyte : (d : Int) % 256 = (byteAt n k : Int) := by rw [hby, hk1]; simp
          have HK1 := Lib.hid hk1
          clear hby hk1
          have hst := (HO.out.stored (size - 1 - k) (.int .u8 (byteAt n k : Int))).1
          rw [← List.map_set, textL_set _ _ _ hkl] at hst
          have HS := Lib.hid hst
          have HSB := Lib.hid (HN.out.setCell (p := ⟨w.heap.size, size - 1 - k, none⟩) (Nat.le_refl _) (.int .u8 (byteAt n k : Int)))
          clear hst
          go_wp2_with fail
          go_roundw
          case rel => exact ⟨k + 1, by omega, by go_num, HS.out, HSB.out⟩
          case measure => simp [intOf]; omega
        · have hodd : ((k : Int) % 2 == 1) = true := by simp; omega
          have hbyte : (d : Int) / 256 % 256 = (byteAt n k : Int) := by rw [hby, hk1]; simp
          have HK1 := Lib.hid hk1
          clear hby hk1
          have hst := (HO.out.stored (size - 1 - k) (.int .u8 (byteAt n k : Int))).1
          rw [← List.map_set, textL_set _ _ _ hkl] at hst
          have HS := Lib.hid hst
          have HSB := Lib.hid (HN.out.setCell (p := ⟨w.heap.size, size - 1 - k, none⟩) (Nat.le_refl _) (.int .u8 (byteAt n k : Int)))
          clear hst
          go_wp2_with fail
          go_roundw
          case rel => exact ⟨k + 1, by omega, by go_num, HS.out, HSB.out⟩
          case measure => simp [intOf]; omega
      · have h0 := byteAt_nought n k (by omega)
        have HSK := Lib.hid (textL_skip n size k h0)
        clear h0 hk2
        go_wp2_with fail
        go_roundw
        case rel => exact ⟨k + 1, by omega, by go_num, by rw [← HSK.out]; exact HO.out, HN.out⟩
        case measure => simp [intOf]; omega
    · have hks : k = size := by omega
      subst hks
      have hcv := run_convert_bytes_arg (P := Try.prog) wr 85 5 Try.underlying85 Try.underlying5 w.heap.size 0 k k (textL n k k) (textL_length _ _ _) (fun i hi => by
        have h := HO.out.cellAt i (by omega)
        rw [Nat.zero_add, h, List.getElem?_map, List.getElem?_eq_getElem (by rw [textL_length]; exact hi)]
        simp [List.getD, List.getElem?_eq_getElem (show i < (textL n k k).length by rw [textL_length]; exact hi)]) 9 Try.underlying9
      go_wp2_with fail
      go_ret
      exact ⟨rfl, HN.out⟩

end Go.Proofs.Ytdmldnpadojflaa
