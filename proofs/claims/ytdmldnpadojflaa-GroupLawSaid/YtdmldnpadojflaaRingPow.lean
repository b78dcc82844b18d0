/- A ring's powers. No condition. -/
import Derived.Test.YtdmldnpadojflaaRingMont
import Derived.Laws.BitsAllLaws
import Derived.Lib.EndianBits
namespace Go.Proofs.Ytdmldnpadojflaa
open Go.RowKit

/-- The low powers, k of them. -/
def fewTo (m x k : Nat) : List Int := (List.range 64).map fun j => if j < 4 * k then (dig (mont m (x ^ (j / 4))) (j % 4) : Int) else 0

theorem fewTo_at (m x k d r : Nat) (hr : r < 4) (hd : d < k) (hk : k ≤ 16) : (fewTo m x k)[d * 4 + r]? = some (dig (mont m (x ^ d)) r : Int) := by
  simp only [fewTo, List.getElem?_map]
  rw [List.getElem?_eq_getElem (by simp; omega)]
  simp only [List.getElem_range, Option.map_some]
  rw [if_pos (by omega), show (d * 4 + r) / 4 = d by omega, show (d * 4 + r) % 4 = r by omega]

theorem fewTo_length (m x k : Nat) : (fewTo m x k).length = 64 := by simp [fewTo]

theorem fewTo_set (m x k : Nat) : ((((fewTo m x k).set (k * 4) (dig (mont m (x ^ k)) 0 : Int)).set (k * 4 + 1) (dig (mont m (x ^ k)) 1 : Int)).set (k * 4 + 2) (dig (mont m (x ^ k)) 2 : Int)).set (k * 4 + 3) (dig (mont m (x ^ k)) 3 : Int) = fewTo m x (k + 1) := by
  refine List.ext_getElem? fun j => ?_
  simp only [List.getElem?_set, List.length_set, fewTo_length]
  by_cases hj : j < 64
  · simp only [fewTo, List.getElem?_map, List.getElem?_eq_getElem (show j < (List.range 64).length by simpa using hj), List.getElem_range, Option.map_some]
    by_cases h0 : k * 4 + 3 = j
    · rw [if_pos h0, if_pos (by omega), if_pos (by omega), show j / 4 = k by omega, show j % 4 = 3 by omega]
    · rw [if_neg h0]
      by_cases h1 : k * 4 + 2 = j
      · rw [if_pos h1, if_pos (by omega), if_pos (by omega), show j / 4 = k by omega, show j % 4 = 2 by omega]
      · rw [if_neg h1]
        by_cases h2 : k * 4 + 1 = j
        · rw [if_pos h2, if_pos (by omega), if_pos (by omega), show j / 4 = k by omega, show j % 4 = 1 by omega]
        · rw [if_neg h2]
          by_cases h3 : k * 4 = j
          · rw [if_pos h3, if_pos (by omega), if_pos (by omega), show j / 4 = k by omega, show j % 4 = 0 by omega]
          · rw [if_neg h3]
            by_cases h4 : j < 4 * k
            · rw [if_pos h4, if_pos (by omega)]
            · rw [if_neg h4, if_neg (by omega)]
  · have e : ∀ k, (fewTo m x k)[j]? = none := fun k => List.getElem?_eq_none (by rw [fewTo_length]; omega)
    rw [e, e]
    repeat (split <;> first | rfl | (exfalso; omega) | skip)

theorem fewTo_one (m x : Nat) (z : List Int) (hz : z = List.replicate 64 0) : (((z.set 0 (dig (mont m 1) 0 : Int)).set 1 (dig (mont m 1) 1 : Int)).set 2 (dig (mont m 1) 2 : Int)).set 3 (dig (mont m 1) 3 : Int) = fewTo m x 1 := by
  have h := fewTo_set m x 0
  have e0 : fewTo m x 0 = z := by subst hz; rfl
  rw [e0] at h
  simpa using h

theorem pow_digit (n p : Nat) : bits .and .u64 ((dig n (p / 16) : Int) / 2 ^ (4 * (p % 16))) 15 = ((n / 16 ^ p % 16 : Nat) : Int) := by
  have h := bits_mask .u64 64 (by decide) wraps_u64 4 (by decide) (((dig n (p / 16) / 2 ^ (4 * (p % 16)) : Nat)) : Int) (Int.natCast_nonneg _) (by
    have h1 := dig_lt n (p / 16)
    have h2 := Nat.div_le_self (dig n (p / 16)) (2 ^ (4 * (p % 16)))
    have h3 : dig n (p / 16) / 2 ^ (4 * (p % 16)) < 2 ^ 64 := Nat.lt_of_le_of_lt h2 h1
    exact_mod_cast h3)
  have e : ((2 : Int) ^ 4 - 1) = 15 := by decide
  have e2 : ((2 : Int) ^ 4) = 16 := by decide
  rw [e, e2] at h
  rw [show ((dig n (p / 16) : Int) / 2 ^ (4 * (p % 16))) = ((dig n (p / 16) / 2 ^ (4 * (p % 16)) : Nat) : Int) by simp, h]
  rw [← hex_digit]
  rfl

theorem Blk.some {W : World} {b i : Nat} {t : TypeId} {xs : List Int} (h : Blk W b t xs) (hi : i < xs.length) : ∃ v, W.cell? ⟨b, i, none⟩ = .some v := ⟨_, h.cell (List.getElem?_eq_getElem hi)⟩
theorem Blk.four {W : World} {b o : Nat} {t : TypeId} {xs : List Int} (h : Blk W b t xs) (y0 y1 y2 y3 : Int) : Blk ((((W.setCell ⟨b, o, none⟩ (.int .u64 y0)).setCell ⟨b, o + 1, none⟩ (.int .u64 y1)).setCell ⟨b, o + 2, none⟩ (.int .u64 y2)).setCell ⟨b, o + 3, none⟩ (.int .u64 y3)) b t
    ((((xs.set o y0).set (o + 1) y1).set (o + 2) y2).set (o + 3) y3) := (((h.set _ _).set _ _).set _ _).set _ _
theorem below_four {w W : World} {m b o : Nat} (h : Below m w W) (hb : m ≤ b) (y0 y1 y2 y3 : Value) : Below m w ((((W.setCell ⟨b, o, none⟩ y0).setCell ⟨b, o + 1, none⟩ y1).setCell ⟨b, o + 2, none⟩ y2).setCell ⟨b, o + 3, none⟩ y3) :=
  (((h.setCell (p := ⟨b, o, none⟩) hb _).setCell (p := ⟨b, o + 1, none⟩) hb _).setCell (p := ⟨b, o + 2, none⟩) hb _).setCell (p := ⟨b, o + 3, none⟩) hb _

set_option maxRecDepth 10000 in
set_option maxHeartbeats 1000000 in
theorem pow_any (R : RingP) (ok : R.Ok) (rb off x n : Nat) (hn : n < BB ^ 4) (w : World) (hR : RingAt w rb off R) :
    Calls Try.prog 114 #[.pointer (some ⟨rb, off, none⟩), limbV (mont R.m x), limbV n] w fun e w' => e = .returned (limbV (mont R.m (x ^ n))) ∧ Below w.heap.size w w' := by
  have HN0 := Lib.hid hn
  have OK := Lib.hid ok
  clear hn ok
  have h0 := hR.cell 4 (dig R.one 0 : Int) rfl
  have h1 := hR.cell 5 (dig R.one 1 : Int) rfl
  have h2 := hR.cell 6 (dig R.one 2 : Int) rfl
  have h3 := hR.cell 7 (dig R.one 3 : Int) rfl
  have hrl := hR.lt
  have hrl1 : rb < w.heap.size + 1 := by omega
  have hrl2 : rb < w.heap.size + 1 + 1 := by omega
  have hrl3 : rb < w.heap.size + 1 + 1 + 1 := by omega
  have h1' : w.cell? ⟨rb, off + 4 + 1, none⟩ = some (.int .u64 (dig R.one 1 : Int)) := h1
  have h2' : w.cell? ⟨rb, off + 4 + 2, none⟩ = some (.int .u64 (dig R.one 2 : Int)) := h2
  have h3' : w.cell? ⟨rb, off + 4 + 3, none⟩ = some (.int .u64 (dig R.one 3 : Int)) := h3
  unfold limbV
  go_enter Try.func114, Try.ntmps114
  go_wp2_with fail
  generalize hW0 : (((w.alloc (Obj.cells #[.int .u64 (dig (mont R.m x) 0 : Int), .int .u64 (dig (mont R.m x) 1 : Int), .int .u64 (dig (mont R.m x) 2 : Int), .int .u64 (dig (mont R.m x) 3 : Int)] 76)).alloc (Obj.cells #[.int .u64 (dig (n) 0 : Int), .int .u64 (dig (n) 1 : Int), .int .u64 (dig (n) 2 : Int), .int .u64 (dig (n) 3 : Int)] 76)).alloc (Obj.cells #[.int .u64 0, .int .u64 0, .int .u64 0, .int .u64 0] 76)).alloc (Obj.cells #[.int .u64 (dig R.one 0 : Int), .int .u64 (dig R.one 1 : Int), .int .u64 (dig R.one 2 : Int), .int .u64 (dig R.one 3 : Int), .int .u64 0, .int .u64 0, .int .u64 0, .int .u64 0, .int .u64 0, .int .u64 0, .int .u64 0, .int .u64 0, .int .u64 0, .int .u64 0, .int .u64 0, .int .u64 0, .int .u64 0, .int .u64 0, .int .u64 0, .int .u64 0, .int .u64 0, .int .u64 0, .int .u64 0, .int .u64 0, .int .u64 0, .int .u64 0, .int .u64 0, .int .u64 0, .int .u64 0, .int .u64 0, .int .u64 0, .int .u64 0, .int .u64 0, .int .u64 0, .int .u64 0, .int .u64 0, .int .u64 0, .int .u64 0, .int .u64 0, .int .u64 0, .int .u64 0, .int .u64 0, .int .u64 0, .int .u64 0, .int .u64 0, .int .u64 0, .int .u64 0, .int .u64 0, .int .u64 0, .int .u64 0, .int .u64 0, .int .u64 0, .int .u64 0, .int .u64 0, .int .u64 0, .int .u64 0, .int .u64 0, .int .u64 0, .int .u64 0, .int .u64 0, .int .u64 0, .int .u64 0, .int .u64 0, .int .u64 0] 145) = W0 at *
  have hA : Blk W0 w.heap.size 76 (lim (mont R.m x)) := by rw [← hW0]; exact (((Blk.new w _ (lim (mont R.m x)) _ rfl).alloc _).alloc _).alloc _
  have hB : Blk W0 (w.heap.size + 1) 76 (lim n) := by
    rw [← hW0]
    have h := ((Blk.new (w.alloc (Obj.cells #[.int .u64 (dig (mont R.m x) 0 : Int), .int .u64 (dig (mont R.m x) 1 : Int), .int .u64 (dig (mont R.m x) 2 : Int), .int .u64 (dig (mont R.m x) 3 : Int)] 76)) 76 (lim n) _ rfl).alloc (Obj.cells #[.int .u64 0, .int .u64 0, .int .u64 0, .int .u64 0] 76)).alloc (Obj.cells #[.int .u64 (dig R.one 0 : Int), .int .u64 (dig R.one 1 : Int), .int .u64 (dig R.one 2 : Int), .int .u64 (dig R.one 3 : Int), .int .u64 0, .int .u64 0, .int .u64 0, .int .u64 0, .int .u64 0, .int .u64 0, .int .u64 0, .int .u64 0, .int .u64 0, .int .u64 0, .int .u64 0, .int .u64 0, .int .u64 0, .int .u64 0, .int .u64 0, .int .u64 0, .int .u64 0, .int .u64 0, .int .u64 0, .int .u64 0, .int .u64 0, .int .u64 0, .int .u64 0, .int .u64 0, .int .u64 0, .int .u64 0, .int .u64 0, .int .u64 0, .int .u64 0, .int .u64 0, .int .u64 0, .int .u64 0, .int .u64 0, .int .u64 0, .int .u64 0, .int .u64 0, .int .u64 0, .int .u64 0, .int .u64 0, .int .u64 0, .int .u64 0, .int .u64 0, .int .u64 0, .int .u64 0, .int .u64 0, .int .u64 0, .int .u64 0, .int .u64 0, .int .u64 0, .int .u64 0, .int .u64 0, .int .u64 0, .int .u64 0, .int .u64 0, .int .u64 0, .int .u64 0, .int .u64 0, .int .u64 0, .int .u64 0, .int .u64 0] 145)
    rwa [World.size_alloc] at h
  have hC : Blk W0 (w.heap.size + 2) 76 [0, 0, 0, 0] := by
    rw [← hW0]
    have h := (Blk.new ((w.alloc (Obj.cells #[.int .u64 (dig (mont R.m x) 0 : Int), .int .u64 (dig (mont R.m x) 1 : Int), .int .u64 (dig (mont R.m x) 2 : Int), .int .u64 (dig (mont R.m x) 3 : Int)] 76)).alloc (Obj.cells #[.int .u64 (dig (n) 0 : Int), .int .u64 (dig (n) 1 : Int), .int .u64 (dig (n) 2 : Int), .int .u64 (dig (n) 3 : Int)] 76)) 76 [0, 0, 0, 0] _ rfl).alloc (Obj.cells #[.int .u64 (dig R.one 0 : Int), .int .u64 (dig R.one 1 : Int), .int .u64 (dig R.one 2 : Int), .int .u64 (dig R.one 3 : Int), .int .u64 0, .int .u64 0, .int .u64 0, .int .u64 0, .int .u64 0, .int .u64 0, .int .u64 0, .int .u64 0, .int .u64 0, .int .u64 0, .int .u64 0, .int .u64 0, .int .u64 0, .int .u64 0, .int .u64 0, .int .u64 0, .int .u64 0, .int .u64 0, .int .u64 0, .int .u64 0, .int .u64 0, .int .u64 0, .int .u64 0, .int .u64 0, .int .u64 0, .int .u64 0, .int .u64 0, .int .u64 0, .int .u64 0, .int .u64 0, .int .u64 0, .int .u64 0, .int .u64 0, .int .u64 0, .int .u64 0, .int .u64 0, .int .u64 0, .int .u64 0, .int .u64 0, .int .u64 0, .int .u64 0, .int .u64 0, .int .u64 0, .int .u64 0, .int .u64 0, .int .u64 0, .int .u64 0, .int .u64 0, .int .u64 0, .int .u64 0, .int .u64 0, .int .u64 0, .int .u64 0, .int .u64 0, .int .u64 0, .int .u64 0, .int .u64 0, .int .u64 0, .int .u64 0, .int .u64 0] 145)
    rw [World.size_alloc, World.size_alloc] at h
    exact h
  have hT : Blk W0 (w.heap.size + 3) 145 (fewTo R.m x 1) := by
    rw [← hW0]
    have h := Blk.new (((w.alloc (Obj.cells #[.int .u64 (dig (mont R.m x) 0 : Int), .int .u64 (dig (mont R.m x) 1 : Int), .int .u64 (dig (mont R.m x) 2 : Int), .int .u64 (dig (mont R.m x) 3 : Int)] 76)).alloc (Obj.cells #[.int .u64 (dig (n) 0 : Int), .int .u64 (dig (n) 1 : Int), .int .u64 (dig (n) 2 : Int), .int .u64 (dig (n) 3 : Int)] 76)).alloc (Obj.cells #[.int .u64 0, .int .u64 0, .int .u64 0, .int .u64 0] 76)) 145 (fewTo R.m x 1) #[.int .u64 (dig R.one 0 : Int), .int .u64 (dig R.one 1 : Int), .int .u64 (dig R.one 2 : Int), .int .u64 (dig R.one 3 : Int), .int .u64 0, .int .u64 0, .int .u64 0, .int .u64 0, .int .u64 0, .int .u64 0, .int .u64 0, .int .u64 0, .int .u64 0, .int .u64 0, .int .u64 0, .int .u64 0, .int .u64 0, .int .u64 0, .int .u64 0, .int .u64 0, .int .u64 0, .int .u64 0, .int .u64 0, .int .u64 0, .int .u64 0, .int .u64 0, .int .u64 0, .int .u64 0, .int .u64 0, .int .u64 0, .int .u64 0, .int .u64 0, .int .u64 0, .int .u64 0, .int .u64 0, .int .u64 0, .int .u64 0, .int .u64 0, .int .u64 0, .int .u64 0, .int .u64 0, .int .u64 0, .int .u64 0, .int .u64 0, .int .u64 0, .int .u64 0, .int .u64 0, .int .u64 0, .int .u64 0, .int .u64 0, .int .u64 0, .int .u64 0, .int .u64 0, .int .u64 0, .int .u64 0, .int .u64 0, .int .u64 0, .int .u64 0, .int .u64 0, .int .u64 0, .int .u64 0, .int .u64 0, .int .u64 0, .int .u64 0] (by
      rw [← fewTo_one R.m x _ rfl, OK.out.one']
      rfl)
    rw [World.size_alloc, World.size_alloc, World.size_alloc] at h
    exact h
  have hBW : Below w.heap.size w W0 := by rw [← hW0]; exact ((((Below.refl _ _).alloc (Nat.le_refl _) _).alloc (by simp) _).alloc (by simp; omega) _).alloc (by simp; omega) _
  clear hW0 h0 h1 h2 h3 h1' h2' h3' hrl1 hrl2 hrl3
  have HR0 := Lib.hid (hR.up hBW)
  have HA := Lib.hid hA
  have HB := Lib.hid hB
  have HC := Lib.hid hC
  have HT := Lib.hid hT
  have HBW := Lib.hid hBW
  have hsz0 := hT.lt
  clear hR hA hB hC hT hBW
  go_loopw [8] (fun i wr => ∃ k : Nat, k ≤ 15 ∧ i = .int .i64 ((k : Int) + 1) ∧ Hid (Blk wr (w.heap.size + 3) 145 (fewTo R.m x (k + 1))) ∧ Hid (Below (w.heap.size + 3) W0 wr)) (fun i _ => 16 - (intOf i).toNat)
  case atStart => exact ⟨0, by omega, rfl, HT.out, Below.refl _ _⟩
  case round =>
    clear HT
    obtain ⟨k, hk, rfl, HT, HN⟩ := hrel
    have hszr := HN.out.size
    have htl := HT.out.lt
    have HR1 := Lib.hid (HR0.out.below HN.out (by omega))
    have hA1 := HA.out.below HN.out (by omega)
    have hx_0 := hA1.cell (i := 0) (x := (dig (mont R.m x) 0 : Int)) rfl
    have hx_1 := hA1.cell (i := 1) (x := (dig (mont R.m x) 1 : Int)) rfl
    have hx_2 := hA1.cell (i := 2) (x := (dig (mont R.m x) 2 : Int)) rfl
    have hx_3 := hA1.cell (i := 3) (x := (dig (mont R.m x) 3 : Int)) rfl
    clear hA1
    have hrl1 := HR1.out.lt
    by_cases hkl : k < 15
    · have hf0 := HT.out.cell (i := k * 4) (fewTo_at R.m x (k + 1) k 0 (by omega) (by omega) (by omega))
      have hf1 := HT.out.cell (fewTo_at R.m x (k + 1) k 1 (by omega) (by omega) (by omega))
      have hf2 := HT.out.cell (fewTo_at R.m x (k + 1) k 2 (by omega) (by omega) (by omega))
      have hf3 := HT.out.cell (fewTo_at R.m x (k + 1) k 3 (by omega) (by omega) (by omega))
      go_wp2_with fail
      refine wp_region_otail 9 (by kernel_rfl) (by kernel_rfl) ?_
      simp only [List.take_succ_cons, List.take_zero, List.drop_succ_cons, List.drop_zero]
      have hov := fun (E : Over wr) o => E.cell (b := w.heap.size) o (by omega)
      have hov2 := fun (E : Over wr) o => E.cell (b := w.heap.size + 3) o htl
      repeat (go_big_quiet_step (first | (go_at_call 113; exact calls_over (mulM R OK.out rb off (x ^ k) x _ (HR1.out.up (Over.h _))))))
      refine wpQuiet_nil ?_
      rintro _ ⟨E, rfl⟩
      clear hov hov2 hf0 hf1 hf2 hf3
      unfold limbV
      have HTE := Lib.hid (HT.out.below E.h HT.out.lt)
      have HNE := Lib.hid (HN.out.trans (E.h.mono (by omega)))
      generalize E.w = w3 at *
      have hl := fewTo_length R.m x (k + 1)
      obtain ⟨v0, hg0⟩ := HTE.out.some (i := (k + 1) * 4) (by omega)
      obtain ⟨v1, hg1⟩ := HTE.out.some (i := (k + 1) * 4 + 1) (by omega)
      obtain ⟨v2, hg2⟩ := HTE.out.some (i := (k + 1) * 4 + 2) (by omega)
      obtain ⟨v3, hg3⟩ := HTE.out.some (i := (k + 1) * 4 + 3) (by omega)
      have hfz := HTE.out.frozen
      have hset := HTE.out.four (o := (k + 1) * 4) (dig (mont R.m (x ^ (k + 1))) 0 : Int) (dig (mont R.m (x ^ (k + 1))) 1 : Int) (dig (mont R.m (x ^ (k + 1))) 2 : Int) (dig (mont R.m (x ^ (k + 1))) 3 : Int)
      rw [fewTo_set] at hset
      have HS := Lib.hid hset
      clear hset hl
      rw [← Nat.pow_succ]
      go_wp2_with fail
      go_roundw
      case rel => exact ⟨k + 1, by omega, by go_num, HS.out, below_four HNE.out (Nat.le_refl _) _ _ _ _⟩
      case measure => first | (simp [intOf]; done) | (simp [intOf]; omega)
    · have hk15 : k = 15 := by omega
      subst hk15
      rw [show ((15 : Nat) : Int) + 1 = 16 from rfl]
      obtain ⟨W1, rfl⟩ : ∃ W1 : World, W1 = wr := ⟨_, rfl⟩
      have h0 := HR1.out.cell 4 (dig R.one 0 : Int) rfl
      have h1 : W1.cell? ⟨rb, off + 4 + 1, none⟩ = some (.int .u64 (dig R.one 1 : Int)) := HR1.out.cell 5 (dig R.one 1 : Int) rfl
      have h2 : W1.cell? ⟨rb, off + 4 + 2, none⟩ = some (.int .u64 (dig R.one 2 : Int)) := HR1.out.cell 6 (dig R.one 2 : Int) rfl
      have h3 : W1.cell? ⟨rb, off + 4 + 3, none⟩ = some (.int .u64 (dig R.one 3 : Int)) := HR1.out.cell 7 (dig R.one 3 : Int) rfl
      have HW : Hid (Blk (W1.alloc (Obj.cells #[.int .u64 (dig (R.one) 0 : Int), .int .u64 (dig (R.one) 1 : Int), .int .u64 (dig (R.one) 2 : Int), .int .u64 (dig (R.one) 3 : Int)] 76)) W1.heap.size 76 (lim (mont R.m (x ^ (n / 16 ^ 64))))) := by
        have e : n / 16 ^ 64 = 0 := Nat.div_eq_of_lt HN0.out
        show Blk _ _ _ _
        rw [e, Nat.pow_zero, ← OK.out.one']
        exact Blk.new W1 _ _ _ rfl
      have HNE0 := Lib.hid HN.out
      have HBW' : Hid (Below (w.heap.size + 3) W0 W1) := HN.out
      have HWN := Lib.hid ((Below.refl W1.heap.size W1).alloc (Nat.le_refl _) (Obj.cells #[.int .u64 (dig (R.one) 0 : Int), .int .u64 (dig (R.one) 1 : Int), .int .u64 (dig (R.one) 2 : Int), .int .u64 (dig (R.one) 3 : Int)] 76))
      clear hx_0 hx_1 hx_2 hx_3
      have hob := HW.out.lt
      have hzo := HNE0.out.size
      go_wp2_with fail
      generalize W1.alloc (Obj.cells #[.int .u64 (dig (R.one) 0 : Int), .int .u64 (dig (R.one) 1 : Int), .int .u64 (dig (R.one) 2 : Int), .int .u64 (dig (R.one) 3 : Int)] 76) = wo at *
      clear h0 h1 h2 h3
      go_loopw [10, 11, 12, 40] (fun c i _ _ w2 => ∃ j : Nat, j ≤ 64 ∧ i = .int .i64 ((j : Int) - 1) ∧ c = .bool (decide (0 < n / 16 ^ j)) ∧ Hid (Blk w2 W1.heap.size 76 (lim (mont R.m (x ^ (n / 16 ^ j))))) ∧ Hid (Below W1.heap.size W1 w2)) (fun _ i _ _ _ => ((intOf i) + 1).toNat)
      case atStart => exact ⟨64, by omega, rfl, by rw [show n / 16 ^ 64 = 0 from Nat.div_eq_of_lt HN0.out]; rfl, HW.out, HWN.out⟩
      case round =>
        clear HW HWN hob
        obtain ⟨j, hj, hi, hc, HW, HWN⟩ := hrel
        have hob := HW.out.lt
        have hzw := HWN.out.size
        rcases Nat.eq_zero_or_pos j with rfl | hjp
        · subst hi
          subst hc
          have HO : Hid (Blk wr W1.heap.size 76 (lim (mont R.m (x ^ n)))) := by
            have h := HW.out
            rwa [Nat.pow_zero, Nat.div_one] at h
          clear HW
          have ho_0 := HO.out.cell (i := 0) (x := (dig (mont R.m (x ^ n)) 0 : Int)) rfl
          have ho_1 := HO.out.cell (i := 1) (x := (dig (mont R.m (x ^ n)) 1 : Int)) rfl
          have ho_2 := HO.out.cell (i := 2) (x := (dig (mont R.m (x ^ n)) 2 : Int)) rfl
          have ho_3 := HO.out.cell (i := 3) (x := (dig (mont R.m (x ^ n)) 3 : Int)) rfl
          have HZ := Lib.hid ((HC.out.below HBW'.out (by omega)).below HWN.out (by omega))
          have HBB := Lib.hid ((HBW.out.trans (HBW'.out.mono (by omega))).trans (HWN.out.mono (by omega)))
          have HB5 := Lib.hid (below_fill (n := mont R.m (x ^ n)) (b := w.heap.size + 1 + 1) HBB.out (by omega))
          have HS5 := Lib.hid (HZ.out.fill rfl (mont R.m (x ^ n)))
          have hz_0 := HZ.out.cell (i := 0) (x := 0) rfl
          have hz_1 := HZ.out.cell (i := 1) (x := 0) rfl
          have hz_2 := HZ.out.cell (i := 2) (x := 0) rfl
          have hz_3 := HZ.out.cell (i := 3) (x := 0) rfl
          have hzf_0 := HZ.out.frozen 0
          have hzf_1 := HZ.out.frozen 1
          have hzf_2 := HZ.out.frozen 2
          have hzf_3 := HZ.out.frozen 3
          go_wp2_with fail
          generalize (((((wr).setCell ⟨w.heap.size + 1 + 1, 0, none⟩ (.int .u64 (dig (mont R.m (x ^ n)) 0 : Int))).setCell ⟨w.heap.size + 1 + 1, 1, none⟩ (.int .u64 (dig (mont R.m (x ^ n)) 1 : Int))).setCell ⟨w.heap.size + 1 + 1, 2, none⟩ (.int .u64 (dig (mont R.m (x ^ n)) 2 : Int))).setCell ⟨w.heap.size + 1 + 1, 3, none⟩ (.int .u64 (dig (mont R.m (x ^ n)) 3 : Int))) = w5 at *
          clear hz_0 hz_1 hz_2 hz_3
          have hg_0 := HS5.out.cell (i := 0) (x := (dig (mont R.m (x ^ n)) 0 : Int)) rfl
          have hg_1 := HS5.out.cell (i := 1) (x := (dig (mont R.m (x ^ n)) 1 : Int)) rfl
          have hg_2 := HS5.out.cell (i := 2) (x := (dig (mont R.m (x ^ n)) 2 : Int)) rfl
          have hg_3 := HS5.out.cell (i := 3) (x := (dig (mont R.m (x ^ n)) 3 : Int)) rfl
          simp [bodyPost, results, Try.results114, go_sem, hg_0, hg_1, hg_2, hg_3]
          exact HB5.out
        · obtain ⟨p, rfl⟩ : ∃ p, j = p + 1 := ⟨j - 1, by omega⟩
          have ei : ((p + 1 : Nat) : Int) - 1 = (p : Int) := by omega
          rw [ei] at hi
          subst hi
          clear ei hjp
          have HSTEP : Hid (n / 16 ^ p = 16 * (n / 16 ^ (p + 1)) + n / 16 ^ p % 16) := by
            show _ = _
            rw [Nat.pow_succ, ← Nat.div_div_eq_div_mul]; omega
          by_cases hbeg : 0 < n / 16 ^ (p + 1)
          · rw [decide_eq_true hbeg] at hc
            subst hc
            generalize n / 16 ^ (p + 1) = N at *
            obtain ⟨W2, rfl⟩ : ∃ W2 : World, W2 = wr := ⟨_, rfl⟩
            go_wp2_with fail
            go_loopw [40] (fun k w3 => ∃ q : Nat, q ≤ 4 ∧ k = .int .i64 q ∧ Hid (Blk w3 W1.heap.size 76 (lim (mont R.m (x ^ (2 ^ q * N))))) ∧ Hid (Below W1.heap.size W1 w3)) (fun k _ => 4 - (intOf k).toNat)
            case atStart => exact ⟨0, by omega, rfl, by rw [Nat.pow_zero, Nat.one_mul]; exact HW.out, HWN.out⟩
            case round =>
              clear HW HWN hob hzw
              obtain ⟨q, hq, rfl, HO, HWN⟩ := hrel
              have hob := HO.out.lt
              have hzw := HWN.out.size
              by_cases hql : q < 4
              · have ho_0 := HO.out.cell (i := 0) (x := (dig (mont R.m (x ^ (2 ^ q * N))) 0 : Int)) rfl
                have ho_1 := HO.out.cell (i := 1) (x := (dig (mont R.m (x ^ (2 ^ q * N))) 1 : Int)) rfl
                have ho_2 := HO.out.cell (i := 2) (x := (dig (mont R.m (x ^ (2 ^ q * N))) 2 : Int)) rfl
                have ho_3 := HO.out.cell (i := 3) (x := (dig (mont R.m (x ^ (2 ^ q * N))) 3 : Int)) rfl
                have HR3 := Lib.hid (HR1.out.below HWN.out (by omega))
                go_wp2_with fail
                refine (mulM R OK.out rb off (x ^ (2 ^ q * N)) (x ^ (2 ^ q * N)) _ HR3.out).mono ?_
                rintro e w5 ⟨rfl, hb5⟩
                clear ho_0 ho_1 ho_2 ho_3
                have HOE := Lib.hid (HO.out.below hb5 HO.out.lt)
                have HNE := Lib.hid (HWN.out.trans (hb5.mono (by omega)))
                clear hb5
                rw [← Nat.pow_add, ← Nat.two_mul, ← Nat.mul_assoc, ← Nat.pow_succ']
                unfold limbV
                have ho_0 := HOE.out.cell (i := 0) (x := (dig (mont R.m (x ^ (2 ^ q * N))) 0 : Int)) rfl
                have ho_1 := HOE.out.cell (i := 1) (x := (dig (mont R.m (x ^ (2 ^ q * N))) 1 : Int)) rfl
                have ho_2 := HOE.out.cell (i := 2) (x := (dig (mont R.m (x ^ (2 ^ q * N))) 2 : Int)) rfl
                have ho_3 := HOE.out.cell (i := 3) (x := (dig (mont R.m (x ^ (2 ^ q * N))) 3 : Int)) rfl
                have hof_0 := HOE.out.frozen 0
                have hof_1 := HOE.out.frozen 1
                have hof_2 := HOE.out.frozen 2
                have hof_3 := HOE.out.frozen 3
                have HS := Lib.hid (HOE.out.fill rfl (mont R.m (x ^ (2 ^ (q + 1) * N))))
                have HSB := Lib.hid (below_fill (n := mont R.m (x ^ (2 ^ (q + 1) * N))) (b := W1.heap.size) HNE.out (Nat.le_refl _))
                go_wp2_with fail
                go_roundw
                case rel => exact ⟨q + 1, by omega, by go_num, HS.out, HSB.out⟩
                case measure => first | (simp [intOf]; done) | (simp [intOf]; omega)
              · have hq4 : q = 4 := by omega
                subst hq4
                have HO' : Hid (Blk wr W1.heap.size 76 (lim (mont R.m (x ^ (16 * N))))) := HO.out
                clear HO
                have HO := HO'
                clear HO'
                have HX4 := Lib.hid ((HT.out.below HWN.out (by omega)))
                have HR4 := Lib.hid (HR1.out.below HWN.out (by omega))
                have hn1 := ((HB.out.below (HBW'.out) (by omega)).below HWN.out (by omega)).cell (lim_at n (p / 16) (by omega))
                have hdig := pow_digit n p
                have hob4 := HO.out.lt
                have hfl4 := HX4.out.lt
                have hDlt : n / 16 ^ p % 16 < 16 := Nat.mod_lt _ (by omega)
                generalize n / 16 ^ p % 16 = D at *
                by_cases hD : 0 < D
                · have hf0 := HX4.out.cell (i := D * 4) (fewTo_at R.m x 16 D 0 (by omega) hDlt (by omega))
                  have hf1 := HX4.out.cell (fewTo_at R.m x 16 D 1 (by omega) hDlt (by omega))
                  have hf2 := HX4.out.cell (fewTo_at R.m x 16 D 2 (by omega) hDlt (by omega))
                  have hf3 := HX4.out.cell (fewTo_at R.m x 16 D 3 (by omega) hDlt (by omega))
                  have ho_0 := HO.out.cell (i := 0) (x := (dig (mont R.m (x ^ (16 * N))) 0 : Int)) rfl
                  have ho_1 := HO.out.cell (i := 1) (x := (dig (mont R.m (x ^ (16 * N))) 1 : Int)) rfl
                  have ho_2 := HO.out.cell (i := 2) (x := (dig (mont R.m (x ^ (16 * N))) 2 : Int)) rfl
                  have ho_3 := HO.out.cell (i := 3) (x := (dig (mont R.m (x ^ (16 * N))) 3 : Int)) rfl
                  go_wp2_with fail
                  refine wp_region_otail 6 (by kernel_rfl) (by kernel_rfl) ?_
                  simp only [List.take_succ_cons, List.take_zero, List.drop_succ_cons, List.drop_zero]
                  have hov := fun (E : Over wr) o => E.cell (b := W1.heap.size) o hob4
                  have hov2 := fun (E : Over wr) o => E.cell (b := w.heap.size + 3) o hfl4
                  repeat (go_big_quiet_step (first | (go_at_call 113; exact calls_over (mulM R OK.out rb off (x ^ (16 * N)) (x ^ D) _ (HR4.out.up (Over.h _))))))
                  refine wpQuiet_nil ?_
                  rintro _ ⟨E, rfl⟩
                  clear hov hov2 hf0 hf1 hf2 hf3 ho_0 ho_1 ho_2 ho_3 hn1 hdig
                  unfold limbV
                  have HOE := Lib.hid (HO.out.below E.h HO.out.lt)
                  have HNE := Lib.hid (HWN.out.trans (E.h.mono (by omega)))
                  generalize E.w = w5 at *
                  rw [← Nat.pow_add]
                  have ho_0 := HOE.out.cell (i := 0) (x := (dig (mont R.m (x ^ (16 * N))) 0 : Int)) rfl
                  have ho_1 := HOE.out.cell (i := 1) (x := (dig (mont R.m (x ^ (16 * N))) 1 : Int)) rfl
                  have ho_2 := HOE.out.cell (i := 2) (x := (dig (mont R.m (x ^ (16 * N))) 2 : Int)) rfl
                  have ho_3 := HOE.out.cell (i := 3) (x := (dig (mont R.m (x ^ (16 * N))) 3 : Int)) rfl
                  have hof_0 := HOE.out.frozen 0
                  have hof_1 := HOE.out.frozen 1
                  have hof_2 := HOE.out.frozen 2
                  have hof_3 := HOE.out.frozen 3
                  have HS := Lib.hid (HOE.out.fill rfl (mont R.m (x ^ (16 * N + D))))
                  have HSB := Lib.hid (below_fill (n := mont R.m (x ^ (16 * N + D))) (b := W1.heap.size) HNE.out (Nat.le_refl _))
                  go_wp2_with fail
                  go_roundw
                  case rel => exact ⟨p, by omega, rfl, by rw [HSTEP.out, decide_eq_true (by omega)], by rw [HSTEP.out]; exact HS.out, HSB.out⟩
                  case measure => first | (simp [intOf]; done) | (simp [intOf]; omega)
                · have hD0 : D = 0 := by omega
                  subst hD0
                  go_wp2_with fail
                  go_roundw
                  case rel => exact ⟨p, by omega, rfl, by rw [HSTEP.out]; rw [decide_eq_true (by omega)], by rw [HSTEP.out]; exact HO.out, HWN.out⟩
                  case measure => first | (simp [intOf]; done) | (simp [intOf]; omega)
          · rw [decide_eq_false hbeg] at hc
            subst hc
            have hN : n / 16 ^ (p + 1) = 0 := Nat.eq_zero_of_not_pos hbeg
            rw [hN] at HW HSTEP
            obtain ⟨N, hN0⟩ : ∃ N, N = 0 := ⟨0, rfl⟩
            have HO : Hid (Blk wr W1.heap.size 76 (lim (mont R.m (x ^ (16 * N))))) := by rw [hN0]; exact HW.out
            have HSTEP' : Hid (n / 16 ^ p = 16 * N + n / 16 ^ p % 16) := by show _ = _; rw [hN0]; exact HSTEP.out
            clear HSTEP HW
            have HSTEP := HSTEP'
            clear HSTEP'
            have hN1 : ¬ 0 < N := by omega
            have HN0' := Lib.hid hN0
            clear hN hN0 hbeg
            have HX4 := Lib.hid ((HT.out.below HWN.out (by omega)))
            have HR4 := Lib.hid (HR1.out.below HWN.out (by omega))
            have hn1 := ((HB.out.below (HBW'.out) (by omega)).below HWN.out (by omega)).cell (lim_at n (p / 16) (by omega))
            have hdig := pow_digit n p
            have hob4 := HO.out.lt
            have hfl4 := HX4.out.lt
            have hDlt : n / 16 ^ p % 16 < 16 := Nat.mod_lt _ (by omega)
            generalize n / 16 ^ p % 16 = D at *
            by_cases hD : 0 < D
            · have hf0 := HX4.out.cell (i := D * 4) (fewTo_at R.m x 16 D 0 (by omega) hDlt (by omega))
              have hf1 := HX4.out.cell (fewTo_at R.m x 16 D 1 (by omega) hDlt (by omega))
              have hf2 := HX4.out.cell (fewTo_at R.m x 16 D 2 (by omega) hDlt (by omega))
              have hf3 := HX4.out.cell (fewTo_at R.m x 16 D 3 (by omega) hDlt (by omega))
              have ho_0 := HO.out.cell (i := 0) (x := (dig (mont R.m (x ^ (16 * N))) 0 : Int)) rfl
              have ho_1 := HO.out.cell (i := 1) (x := (dig (mont R.m (x ^ (16 * N))) 1 : Int)) rfl
              have ho_2 := HO.out.cell (i := 2) (x := (dig (mont R.m (x ^ (16 * N))) 2 : Int)) rfl
              have ho_3 := HO.out.cell (i := 3) (x := (dig (mont R.m (x ^ (16 * N))) 3 : Int)) rfl
              go_wp2_with fail
              refine wp_region_otail 6 (by kernel_rfl) (by kernel_rfl) ?_
              simp only [List.take_succ_cons, List.take_zero, List.drop_succ_cons, List.drop_zero]
              have hov := fun (E : Over wr) o => E.cell (b := W1.heap.size) o hob4
              have hov2 := fun (E : Over wr) o => E.cell (b := w.heap.size + 3) o hfl4
              repeat (go_big_quiet_step (first | (go_at_call 113; exact calls_over (mulM R OK.out rb off (x ^ (16 * N)) (x ^ D) _ (HR4.out.up (Over.h _))))))
              refine wpQuiet_nil ?_
              rintro _ ⟨E, rfl⟩
              clear hov hov2 hf0 hf1 hf2 hf3 ho_0 ho_1 ho_2 ho_3 hn1 hdig
              unfold limbV
              have HOE := Lib.hid (HO.out.below E.h HO.out.lt)
              have HNE := Lib.hid (HWN.out.trans (E.h.mono (by omega)))
              generalize E.w = w5 at *
              rw [← Nat.pow_add]
              have ho_0 := HOE.out.cell (i := 0) (x := (dig (mont R.m (x ^ (16 * N))) 0 : Int)) rfl
              have ho_1 := HOE.out.cell (i := 1) (x := (dig (mont R.m (x ^ (16 * N))) 1 : Int)) rfl
              have ho_2 := HOE.out.cell (i := 2) (x := (dig (mont R.m (x ^ (16 * N))) 2 : Int)) rfl
              have ho_3 := HOE.out.cell (i := 3) (x := (dig (mont R.m (x ^ (16 * N))) 3 : Int)) rfl
              have hof_0 := HOE.out.frozen 0
              have hof_1 := HOE.out.frozen 1
              have hof_2 := HOE.out.frozen 2
              have hof_3 := HOE.out.frozen 3
              have HS := Lib.hid (HOE.out.fill rfl (mont R.m (x ^ (16 * N + D))))
              have HSB := Lib.hid (below_fill (n := mont R.m (x ^ (16 * N + D))) (b := W1.heap.size) HNE.out (Nat.le_refl _))
              go_wp2_with fail
              go_roundw
              case rel => exact ⟨p, by omega, rfl, by rw [HSTEP.out, decide_eq_true (by omega)], by rw [HSTEP.out]; exact HS.out, HSB.out⟩
              case measure => first | (simp [intOf]; done) | (simp [intOf]; omega)
            · have hD0 : D = 0 := by omega
              subst hD0
              go_wp2_with fail
              go_roundw
              case rel => exact ⟨p, by omega, rfl, by rw [HSTEP.out]; rw [decide_eq_false (by have := HN0'.out; omega)], by rw [HSTEP.out]; exact HO.out, HWN.out⟩
              case measure => first | (simp [intOf]; done) | (simp [intOf]; omega)

end Go.Proofs.Ytdmldnpadojflaa
