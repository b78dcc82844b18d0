/- Texts of this seat, one behind the other: what BallotHides leans on. No condition beyond those that each names. -/
import Derived.Test.YtipgjookfdkciaaZBallotHides1
import Derived.Laws.BitsAllLaws
import Derived.Lib.EndianBits
import Derived.Deep.QuietTactic
import Derived.Laws.BytesArg
import Derived.Laws.StructEq
import Derived.ChangeKeysEq
import Derived.Deep.Cut

/- A ring's powers. No condition. -/
namespace Go.Proofs.Ytipgjookfdkciaa
open Go.RowKit

/-- The low powers, k of them. -/
def fewTo (m x k : Nat) : List Int := (List.range 64).map fun j => if j < 4 * k then (dig (mont m (x ^ (j / 4))) (j % 4) : Int) else 0

theorem fewTo_at (m x k d r : Nat) (hr : r < 4) (hd : d < k) (hk : k ≤ 16) : (fewTo m x k)[d * 4 + r]? = some (dig (mont m (x ^ d)) r : Int) := by
  simp only [fewTo, List.getElem?_map]
  rw [List.getElem?_eq_getElem (by simp; omega)]
  simp only [List.getElem_range, Option.map_some]
  rw [if_pos (by omega), show (d * 4 + r) / 4 = d by omega, show (d * 4 + r) % 4 = r by omega]

theorem fewTo_length (m x k : Nat) : (fewTo m x k).length = 64 := by simp [fewTo]

theorem fewTo_set (m x k : Nat) : ((((fewTo m x k).set (k * 4) (dig (mont m (x ^ k)) 0 : Int)).set (k * 4 + 1) (dig (mont m (x ^ k)) 1 : Int)).set (k * 4 + 2) (dig (mont m (x ^ k)) 2 : Int)).set (k * 4 + 3) (dig (mont m (x ^ k)) 3 : Int) = fewTo m x (k + 1) := by
  refine List.ext_getElem? fun j => ?_
  simp only [List.getElem?_set, List.length_set, fewTo_length]
  by_cases hj : j < 64
  · simp only [fewTo, List.getElem?_map, List.getElem?_eq_getElem (show j < (List.range 64).length by simpa using hj), List.getElem_range, Option.map_some]
    by_cases h0 : k * 4 + 3 = j
    · rw [if_pos h0, if_pos (by omega), if_pos (by omega), show j / 4 = k by omega, show j % 4 = 3 by omega]
    · rw [if_neg h0]
      by_cases h1 : k * 4 + 2 = j
      · rw [if_pos h1, if_pos (by omega), if_pos (by omega), show j / 4 = k by omega, show j % 4 = 2 by omega]
      · rw [if_neg h1]
        by_cases h2 : k * 4 + 1 = j
        · rw [if_pos h2, if_pos (by omega), if_pos (by omega), show j / 4 = k by omega, show j % 4 = 1 by omega]
        · rw [if_neg h2]
          by_cases h3 : k * 4 = j
          · rw [if_pos h3, if_pos (by omega), if_pos (by omega), show j / 4 = k by omega, show j % 4 = 0 by omega]
          · rw [if_neg h3]
            by_cases h4 : j < 4 * k
            · rw [if_pos h4, if_pos (by omega)]
            · rw [if_neg h4, if_neg (by omega)]
  · have e : ∀ k, (fewTo m x k)[j]? = none := fun k => List.getElem?_eq_none (by rw [fewTo_length]; omega)
    rw [e, e]
    repeat (split <;> first | rfl | (exfalso; omega) | skip)

theorem fewTo_one (m x : Nat) (z : List Int) (hz : z = List.replicate 64 0) : (((z.set 0 (dig (mont m 1) 0 : Int)).set 1 (dig (mont m 1) 1 : Int)).set 2 (dig (mont m 1) 2 : Int)).set 3 (dig (mont m 1) 3 : Int) = fewTo m x 1 := by
  have h := fewTo_set m x 0
  have e0 : fewTo m x 0 = z := by subst hz; rfl
  rw [e0] at h
  simpa using h

theorem pow_digit (n p : Nat) : bits .and .u64 ((dig n (p / 16) : Int) / 2 ^ (4 * (p % 16))) 15 = ((n / 16 ^ p % 16 : Nat) : Int) := by
  have h := bits_mask .u64 64 (by decide) wraps_u64 4 (by decide) (((dig n (p / 16) / 2 ^ (4 * (p % 16)) : Nat)) : Int) (Int.natCast_nonneg _) (by
    have h1 := dig_lt n (p / 16)
    have h2 := Nat.div_le_self (dig n (p / 16)) (2 ^ (4 * (p % 16)))
    have h3 : dig n (p / 16) / 2 ^ (4 * (p % 16)) < 2 ^ 64 := Nat.lt_of_le_of_lt h2 h1
    exact_mod_cast h3)
  have e : ((2 : Int) ^ 4 - 1) = 15 := by decide
  have e2 : ((2 : Int) ^ 4) = 16 := by decide
  rw [e, e2] at h
  rw [show ((dig n (p / 16) : Int) / 2 ^ (4 * (p % 16))) = ((dig n (p / 16) / 2 ^ (4 * (p % 16)) : Nat) : Int) by simp, h]
  rw [← hex_digit]
  rfl

theorem Blk.some {W : World} {b i : Nat} {t : TypeId} {xs : List Int} (h : Blk W b t xs) (hi : i < xs.length) : ∃ v, W.cell? ⟨b, i, none⟩ = .some v := ⟨_, h.cell (List.getElem?_eq_getElem hi)⟩
theorem Blk.four {W : World} {b o : Nat} {t : TypeId} {xs : List Int} (h : Blk W b t xs) (y0 y1 y2 y3 : Int) : Blk ((((W.setCell ⟨b, o, none⟩ (.int .u64 y0)).setCell ⟨b, o + 1, none⟩ (.int .u64 y1)).setCell ⟨b, o + 2, none⟩ (.int .u64 y2)).setCell ⟨b, o + 3, none⟩ (.int .u64 y3)) b t
    ((((xs.set o y0).set (o + 1) y1).set (o + 2) y2).set (o + 3) y3) := (((h.set _ _).set _ _).set _ _).set _ _
theorem below_four {w W : World} {m b o : Nat} (h : Below m w W) (hb : m ≤ b) (y0 y1 y2 y3 : Value) : Below m w ((((W.setCell ⟨b, o, none⟩ y0).setCell ⟨b, o + 1, none⟩ y1).setCell ⟨b, o + 2, none⟩ y2).setCell ⟨b, o + 3, none⟩ y3) :=
  (((h.setCell (p := ⟨b, o, none⟩) hb _).setCell (p := ⟨b, o + 1, none⟩) hb _).setCell (p := ⟨b, o + 2, none⟩) hb _).setCell (p := ⟨b, o + 3, none⟩) hb _

set_option maxRecDepth 10000 in
set_option maxHeartbeats 1000000 in
theorem pow_any (R : RingP) (ok : R.Ok) (rb off x n : Nat) (hn : n < BB ^ 4) (w : World) (hR : RingAt w rb off R) :
    Calls Try.prog 132 #[.pointer (some ⟨rb, off, none⟩), limbV (mont R.m x), limbV n] w fun e w' => e = .returned (limbV (mont R.m (x ^ n))) ∧ Below w.heap.size w w' := by
  have HN0 := Lib.hid hn
  have OK := Lib.hid ok
  clear hn ok
  have h0 := hR.cell 4 (dig R.one 0 : Int) rfl
  have h1 := hR.cell 5 (dig R.one 1 : Int) rfl
  have h2 := hR.cell 6 (dig R.one 2 : Int) rfl
  have h3 := hR.cell 7 (dig R.one 3 : Int) rfl
  have hrl := hR.lt
  have hrl1 : rb < w.heap.size + 1 := by omega
  have hrl2 : rb < w.heap.size + 1 + 1 := by omega
  have hrl3 : rb < w.heap.size + 1 + 1 + 1 := by omega
  have h1' : w.cell? ⟨rb, off + 4 + 1, none⟩ = some (.int .u64 (dig R.one 1 : Int)) := h1
  have h2' : w.cell? ⟨rb, off + 4 + 2, none⟩ = some (.int .u64 (dig R.one 2 : Int)) := h2
  have h3' : w.cell? ⟨rb, off + 4 + 3, none⟩ = some (.int .u64 (dig R.one 3 : Int)) := h3
  unfold limbV
  go_enter Try.func132, Try.ntmps132
  go_wp2_with fail
  generalize hW0 : (((w.alloc (Obj.cells #[.int .u64 (dig (mont R.m x) 0 : Int), .int .u64 (dig (mont R.m x) 1 : Int), .int .u64 (dig (mont R.m x) 2 : Int), .int .u64 (dig (mont R.m x) 3 : Int)] 89)).alloc (Obj.cells #[.int .u64 (dig (n) 0 : Int), .int .u64 (dig (n) 1 : Int), .int .u64 (dig (n) 2 : Int), .int .u64 (dig (n) 3 : Int)] 89)).alloc (Obj.cells #[.int .u64 0, .int .u64 0, .int .u64 0, .int .u64 0] 89)).alloc (Obj.cells #[.int .u64 (dig R.one 0 : Int), .int .u64 (dig R.one 1 : Int), .int .u64 (dig R.one 2 : Int), .int .u64 (dig R.one 3 : Int), .int .u64 0, .int .u64 0, .int .u64 0, .int .u64 0, .int .u64 0, .int .u64 0, .int .u64 0, .int .u64 0, .int .u64 0, .int .u64 0, .int .u64 0, .int .u64 0, .int .u64 0, .int .u64 0, .int .u64 0, .int .u64 0, .int .u64 0, .int .u64 0, .int .u64 0, .int .u64 0, .int .u64 0, .int .u64 0, .int .u64 0, .int .u64 0, .int .u64 0, .int .u64 0, .int .u64 0, .int .u64 0, .int .u64 0, .int .u64 0, .int .u64 0, .int .u64 0, .int .u64 0, .int .u64 0, .int .u64 0, .int .u64 0, .int .u64 0, .int .u64 0, .int .u64 0, .int .u64 0, .int .u64 0, .int .u64 0, .int .u64 0, .int .u64 0, .int .u64 0, .int .u64 0, .int .u64 0, .int .u64 0, .int .u64 0, .int .u64 0, .int .u64 0, .int .u64 0, .int .u64 0, .int .u64 0, .int .u64 0, .int .u64 0, .int .u64 0, .int .u64 0, .int .u64 0, .int .u64 0] 227) = W0 at *
  have hA : Blk W0 w.heap.size 89 (lim (mont R.m x)) := by rw [← hW0]; exact (((Blk.new w _ (lim (mont R.m x)) _ rfl).alloc _).alloc _).alloc _
  have hB : Blk W0 (w.heap.size + 1) 89 (lim n) := by
    rw [← hW0]
    have h := ((Blk.new (w.alloc (Obj.cells #[.int .u64 (dig (mont R.m x) 0 : Int), .int .u64 (dig (mont R.m x) 1 : Int), .int .u64 (dig (mont R.m x) 2 : Int), .int .u64 (dig (mont R.m x) 3 : Int)] 89)) 89 (lim n) _ rfl).alloc (Obj.cells #[.int .u64 0, .int .u64 0, .int .u64 0, .int .u64 0] 89)).alloc (Obj.cells #[.int .u64 (dig R.one 0 : Int), .int .u64 (dig R.one 1 : Int), .int .u64 (dig R.one 2 : Int), .int .u64 (dig R.one 3 : Int), .int .u64 0, .int .u64 0, .int .u64 0, .int .u64 0, .int .u64 0, .int .u64 0, .int .u64 0, .int .u64 0, .int .u64 0, .int .u64 0, .int .u64 0, .int .u64 0, .int .u64 0, .int .u64 0, .int .u64 0, .int .u64 0, .int .u64 0, .int .u64 0, .int .u64 0, .int .u64 0, .int .u64 0, .int .u64 0, .int .u64 0, .int .u64 0, .int .u64 0, .int .u64 0, .int .u64 0, .int .u64 0, .int .u64 0, .int .u64 0, .int .u64 0, .int .u64 0, .int .u64 0, .int .u64 0, .int .u64 0, .int .u64 0, .int .u64 0, .int .u64 0, .int .u64 0, .int .u64 0, .int .u64 0, .int .u64 0, .int .u64 0, .int .u64 0, .int .u64 0, .int .u64 0, .int .u64 0, .int .u64 0, .int .u64 0, .int .u64 0, .int .u64 0, .int .u64 0, .int .u64 0, .int .u64 0, .int .u64 0, .int .u64 0, .int .u64 0, .int .u64 0, .int .u64 0, .int .u64 0] 227)
    rwa [World.size_alloc] at h
  have hC : Blk W0 (w.heap.size + 2) 89 [0, 0, 0, 0] := by
    rw [← hW0]
    have h := (Blk.new ((w.alloc (Obj.cells #[.int .u64 (dig (mont R.m x) 0 : Int), .int .u64 (dig (mont R.m x) 1 : Int), .int .u64 (dig (mont R.m x) 2 : Int), .int .u64 (dig (mont R.m x) 3 : Int)] 89)).alloc (Obj.cells #[.int .u64 (dig (n) 0 : Int), .int .u64 (dig (n) 1 : Int), .int .u64 (dig (n) 2 : Int), .int .u64 (dig (n) 3 : Int)] 89)) 89 [0, 0, 0, 0] _ rfl).alloc (Obj.cells #[.int .u64 (dig R.one 0 : Int), .int .u64 (dig R.one 1 : Int), .int .u64 (dig R.one 2 : Int), .int .u64 (dig R.one 3 : Int), .int .u64 0, .int .u64 0, .int .u64 0, .int .u64 0, .int .u64 0, .int .u64 0, .int .u64 0, .int .u64 0, .int .u64 0, .int .u64 0, .int .u64 0, .int .u64 0, .int .u64 0, .int .u64 0, .int .u64 0, .int .u64 0, .int .u64 0, .int .u64 0, .int .u64 0, .int .u64 0, .int .u64 0, .int .u64 0, .int .u64 0, .int .u64 0, .int .u64 0, .int .u64 0, .int .u64 0, .int .u64 0, .int .u64 0, .int .u64 0, .int .u64 0, .int .u64 0, .int .u64 0, .int .u64 0, .int .u64 0, .int .u64 0, .int .u64 0, .int .u64 0, .int .u64 0, .int .u64 0, .int .u64 0, .int .u64 0, .int .u64 0, .int .u64 0, .int .u64 0, .int .u64 0, .int .u64 0, .int .u64 0, .int .u64 0, .int .u64 0, .int .u64 0, .int .u64 0, .int .u64 0, .int .u64 0, .int .u64 0, .int .u64 0, .int .u64 0, .int .u64 0, .int .u64 0, .int .u64 0] 227)
    rw [World.size_alloc, World.size_alloc] at h
    exact h
  have hT : Blk W0 (w.heap.size + 3) 227 (fewTo R.m x 1) := by
    rw [← hW0]
    have h := Blk.new (((w.alloc (Obj.cells #[.int .u64 (dig (mont R.m x) 0 : Int), .int .u64 (dig (mont R.m x) 1 : Int), .int .u64 (dig (mont R.m x) 2 : Int), .int .u64 (dig (mont R.m x) 3 : Int)] 89)).alloc (Obj.cells #[.int .u64 (dig (n) 0 : Int), .int .u64 (dig (n) 1 : Int), .int .u64 (dig (n) 2 : Int), .int .u64 (dig (n) 3 : Int)] 89)).alloc (Obj.cells #[.int .u64 0, .int .u64 0, .int .u64 0, .int .u64 0] 89)) 227 (fewTo R.m x 1) #[.int .u64 (dig R.one 0 : Int), .int .u64 (dig R.one 1 : Int), .int .u64 (dig R.one 2 : Int), .int .u64 (dig R.one 3 : Int), .int .u64 0, .int .u64 0, .int .u64 0, .int .u64 0, .int .u64 0, .int .u64 0, .int .u64 0, .int .u64 0, .int .u64 0, .int .u64 0, .int .u64 0, .int .u64 0, .int .u64 0, .int .u64 0, .int .u64 0, .int .u64 0, .int .u64 0, .int .u64 0, .int .u64 0, .int .u64 0, .int .u64 0, .int .u64 0, .int .u64 0, .int .u64 0, .int .u64 0, .int .u64 0, .int .u64 0, .int .u64 0, .int .u64 0, .int .u64 0, .int .u64 0, .int .u64 0, .int .u64 0, .int .u64 0, .int .u64 0, .int .u64 0, .int .u64 0, .int .u64 0, .int .u64 0, .int .u64 0, .int .u64 0, .int .u64 0, .int .u64 0, .int .u64 0, .int .u64 0, .int .u64 0, .int .u64 0, .int .u64 0, .int .u64 0, .int .u64 0, .int .u64 0, .int .u64 0, .int .u64 0, .int .u64 0, .int .u64 0, .int .u64 0, .int .u64 0, .int .u64 0, .int .u64 0, .int .u64 0] (by
      rw [← fewTo_one R.m x _ rfl, OK.out.one']
      rfl)
    rw [World.size_alloc, World.size_alloc, World.size_alloc] at h
    exact h
  have hBW : Below w.heap.size w W0 := by rw [← hW0]; exact ((((Below.refl _ _).alloc (Nat.le_refl _) _).alloc (by simp) _).alloc (by simp; omega) _).alloc (by simp; omega) _
  clear hW0 h0 h1 h2 h3 h1' h2' h3' hrl1 hrl2 hrl3
  have HR0 := Lib.hid (hR.up hBW)
  have HA := Lib.hid hA
  have HB := Lib.hid hB
  have HC := Lib.hid hC
  have HT := Lib.hid hT
  have HBW := Lib.hid hBW
  have hsz0 := hT.lt
  clear hR hA hB hC hT hBW
  go_loopw [8] (fun i wr => ∃ k : Nat, k ≤ 15 ∧ i = .int .i64 ((k : Int) + 1) ∧ Hid (Blk wr (w.heap.size + 3) 227 (fewTo R.m x (k + 1))) ∧ Hid (Below (w.heap.size + 3) W0 wr)) (fun i _ => 16 - (intOf i).toNat)
  case atStart => exact ⟨0, by omega, rfl, HT.out, Below.refl _ _⟩
  case round =>
    clear HT
    obtain ⟨k, hk, rfl, HT, HN⟩ := hrel
    have hszr := HN.out.size
    have htl := HT.out.lt
    have HR1 := Lib.hid (HR0.out.below HN.out (by omega))
    have hA1 := HA.out.below HN.out (by omega)
    have hx_0 := hA1.cell (i := 0) (x := (dig (mont R.m x) 0 : Int)) rfl
    have hx_1 := hA1.cell (i := 1) (x := (dig (mont R.m x) 1 : Int)) rfl
    have hx_2 := hA1.cell (i := 2) (x := (dig (mont R.m x) 2 : Int)) rfl
    have hx_3 := hA1.cell (i := 3) (x := (dig (mont R.m x) 3 : Int)) rfl
    clear hA1
    have hrl1 := HR1.out.lt
    by_cases hkl : k < 15
    · have hf0 := HT.out.cell (i := k * 4) (fewTo_at R.m x (k + 1) k 0 (by omega) (by omega) (by omega))
      have hf1 := HT.out.cell (fewTo_at R.m x (k + 1) k 1 (by omega) (by omega) (by omega))
      have hf2 := HT.out.cell (fewTo_at R.m x (k + 1) k 2 (by omega) (by omega) (by omega))
      have hf3 := HT.out.cell (fewTo_at R.m x (k + 1) k 3 (by omega) (by omega) (by omega))
      go_wp2_with fail
      refine wp_region_otail 9 (by kernel_rfl) (by kernel_rfl) ?_
      simp only [List.take_succ_cons, List.take_zero, List.drop_succ_cons, List.drop_zero]
      have hov := fun (E : Over wr) o => E.cell (b := w.heap.size) o (by omega)
      have hov2 := fun (E : Over wr) o => E.cell (b := w.heap.size + 3) o htl
      repeat (go_big_quiet_step (first | (go_at_call 136; exact calls_over (mulM R OK.out rb off (x ^ k) x _ (HR1.out.up (Over.h _))))))
      refine wpQuiet_nil ?_
      rintro _ ⟨E, rfl⟩
      clear hov hov2 hf0 hf1 hf2 hf3
      unfold limbV
      have HTE := Lib.hid (HT.out.below E.h HT.out.lt)
      have HNE := Lib.hid (HN.out.trans (E.h.mono (by omega)))
      generalize E.w = w3 at *
      have hl := fewTo_length R.m x (k + 1)
      obtain ⟨v0, hg0⟩ := HTE.out.some (i := (k + 1) * 4) (by omega)
      obtain ⟨v1, hg1⟩ := HTE.out.some (i := (k + 1) * 4 + 1) (by omega)
      obtain ⟨v2, hg2⟩ := HTE.out.some (i := (k + 1) * 4 + 2) (by omega)
      obtain ⟨v3, hg3⟩ := HTE.out.some (i := (k + 1) * 4 + 3) (by omega)
      have hfz := HTE.out.frozen
      have hset := HTE.out.four (o := (k + 1) * 4) (dig (mont R.m (x ^ (k + 1))) 0 : Int) (dig (mont R.m (x ^ (k + 1))) 1 : Int) (dig (mont R.m (x ^ (k + 1))) 2 : Int) (dig (mont R.m (x ^ (k + 1))) 3 : Int)
      rw [fewTo_set] at hset
      have HS := Lib.hid hset
      clear hset hl
      rw [← Nat.pow_succ]
      go_wp2_with fail
      go_roundw
      case rel => exact ⟨k + 1, by omega, by go_num, HS.out, below_four HNE.out (Nat.le_refl _) _ _ _ _⟩
      case measure => first | (simp [intOf]; done) | (simp [intOf]; omega)
    · have hk15 : k = 15 := by omega
      subst hk15
      rw [show ((15 : Nat) : Int) + 1 = 16 from rfl]
      obtain ⟨W1, rfl⟩ : ∃ W1 : World, W1 = wr := ⟨_, rfl⟩
      have h0 := HR1.out.cell 4 (dig R.one 0 : Int) rfl
      have h1 : W1.cell? ⟨rb, off + 4 + 1, none⟩ = some (.int .u64 (dig R.one 1 : Int)) := HR1.out.cell 5 (dig R.one 1 : Int) rfl
      have h2 : W1.cell? ⟨rb, off + 4 + 2, none⟩ = some (.int .u64 (dig R.one 2 : Int)) := HR1.out.cell 6 (dig R.one 2 : Int) rfl
      have h3 : W1.cell? ⟨rb, off + 4 + 3, none⟩ = some (.int .u64 (dig R.one 3 : Int)) := HR1.out.cell 7 (dig R.one 3 : Int) rfl
      have HW : Hid (Blk (W1.alloc (Obj.cells #[.int .u64 (dig (R.one) 0 : Int), .int .u64 (dig (R.one) 1 : Int), .int .u64 (dig (R.one) 2 : Int), .int .u64 (dig (R.one) 3 : Int)] 89)) W1.heap.size 89 (lim (mont R.m (x ^ (n / 16 ^ 64))))) := by
        have e : n / 16 ^ 64 = 0 := Nat.div_eq_of_lt HN0.out
        show Blk _ _ _ _
        rw [e, Nat.pow_zero, ← OK.out.one']
        exact Blk.new W1 _ _ _ rfl
      have HNE0 := Lib.hid HN.out
      have HBW' : Hid (Below (w.heap.size + 3) W0 W1) := HN.out
      have HWN := Lib.hid ((Below.refl W1.heap.size W1).alloc (Nat.le_refl _) (Obj.cells #[.int .u64 (dig (R.one) 0 : Int), .int .u64 (dig (R.one) 1 : Int), .int .u64 (dig (R.one) 2 : Int), .int .u64 (dig (R.one) 3 : Int)] 89))
      clear hx_0 hx_1 hx_2 hx_3
      have hob := HW.out.lt
      have hzo := HNE0.out.size
      go_wp2_with fail
      generalize W1.alloc (Obj.cells #[.int .u64 (dig (R.one) 0 : Int), .int .u64 (dig (R.one) 1 : Int), .int .u64 (dig (R.one) 2 : Int), .int .u64 (dig (R.one) 3 : Int)] 89) = wo at *
      clear h0 h1 h2 h3
      go_loopw [10, 11, 12, 40] (fun c i _ _ w2 => ∃ j : Nat, j ≤ 64 ∧ i = .int .i64 ((j : Int) - 1) ∧ c = .bool (decide (0 < n / 16 ^ j)) ∧ Hid (Blk w2 W1.heap.size 89 (lim (mont R.m (x ^ (n / 16 ^ j))))) ∧ Hid (Below W1.heap.size W1 w2)) (fun _ i _ _ _ => ((intOf i) + 1).toNat)
      case atStart => exact ⟨64, by omega, rfl, by rw [show n / 16 ^ 64 = 0 from Nat.div_eq_of_lt HN0.out]; rfl, HW.out, HWN.out⟩
      case round =>
        clear HW HWN hob
        obtain ⟨j, hj, hi, hc, HW, HWN⟩ := hrel
        have hob := HW.out.lt
        have hzw := HWN.out.size
        rcases Nat.eq_zero_or_pos j with rfl | hjp
        · subst hi
          subst hc
          have HO : Hid (Blk wr W1.heap.size 89 (lim (mont R.m (x ^ n)))) := by
            have h := HW.out
            rwa [Nat.pow_zero, Nat.div_one] at h
          clear HW
          have ho_0 := HO.out.cell (i := 0) (x := (dig (mont R.m (x ^ n)) 0 : Int)) rfl
          have ho_1 := HO.out.cell (i := 1) (x := (dig (mont R.m (x ^ n)) 1 : Int)) rfl
          have ho_2 := HO.out.cell (i := 2) (x := (dig (mont R.m (x ^ n)) 2 : Int)) rfl
          have ho_3 := HO.out.cell (i := 3) (x := (dig (mont R.m (x ^ n)) 3 : Int)) rfl
          have HZ := Lib.hid ((HC.out.below HBW'.out (by omega)).below HWN.out (by omega))
          have HBB := Lib.hid ((HBW.out.trans (HBW'.out.mono (by omega))).trans (HWN.out.mono (by omega)))
          have HB5 := Lib.hid (below_fill (n := mont R.m (x ^ n)) (b := w.heap.size + 1 + 1) HBB.out (by omega))
          have HS5 := Lib.hid (HZ.out.fill rfl (mont R.m (x ^ n)))
          have hz_0 := HZ.out.cell (i := 0) (x := 0) rfl
          have hz_1 := HZ.out.cell (i := 1) (x := 0) rfl
          have hz_2 := HZ.out.cell (i := 2) (x := 0) rfl
          have hz_3 := HZ.out.cell (i := 3) (x := 0) rfl
          have hzf_0 := HZ.out.frozen 0
          have hzf_1 := HZ.out.frozen 1
          have hzf_2 := HZ.out.frozen 2
          have hzf_3 := HZ.out.frozen 3
          go_wp2_with fail
          generalize (((((wr).setCell ⟨w.heap.size + 1 + 1, 0, none⟩ (.int .u64 (dig (mont R.m (x ^ n)) 0 : Int))).setCell ⟨w.heap.size + 1 + 1, 1, none⟩ (.int .u64 (dig (mont R.m (x ^ n)) 1 : Int))).setCell ⟨w.heap.size + 1 + 1, 2, none⟩ (.int .u64 (dig (mont R.m (x ^ n)) 2 : Int))).setCell ⟨w.heap.size + 1 + 1, 3, none⟩ (.int .u64 (dig (mont R.m (x ^ n)) 3 : Int))) = w5 at *
          clear hz_0 hz_1 hz_2 hz_3
          have hg_0 := HS5.out.cell (i := 0) (x := (dig (mont R.m (x ^ n)) 0 : Int)) rfl
          have hg_1 := HS5.out.cell (i := 1) (x := (dig (mont R.m (x ^ n)) 1 : Int)) rfl
          have hg_2 := HS5.out.cell (i := 2) (x := (dig (mont R.m (x ^ n)) 2 : Int)) rfl
          have hg_3 := HS5.out.cell (i := 3) (x := (dig (mont R.m (x ^ n)) 3 : Int)) rfl
          simp [bodyPost, results, Try.results132, go_sem, hg_0, hg_1, hg_2, hg_3]
          exact HB5.out
        · obtain ⟨p, rfl⟩ : ∃ p, j = p + 1 := ⟨j - 1, by omega⟩
          have ei : ((p + 1 : Nat) : Int) - 1 = (p : Int) := by omega
          rw [ei] at hi
          subst hi
          clear ei hjp
          have HSTEP : Hid (n / 16 ^ p = 16 * (n / 16 ^ (p + 1)) + n / 16 ^ p % 16) := by
            show _ = _
            rw [Nat.pow_succ, ← Nat.div_div_eq_div_mul]; omega
          by_cases hbeg : 0 < n / 16 ^ (p + 1)
          · rw [decide_eq_true hbeg] at hc
            subst hc
            generalize n / 16 ^ (p + 1) = N at *
            obtain ⟨W2, rfl⟩ : ∃ W2 : World, W2 = wr := ⟨_, rfl⟩
            go_wp2_with fail
            go_loopw [40] (fun k w3 => ∃ q : Nat, q ≤ 4 ∧ k = .int .i64 q ∧ Hid (Blk w3 W1.heap.size 89 (lim (mont R.m (x ^ (2 ^ q * N))))) ∧ Hid (Below W1.heap.size W1 w3)) (fun k _ => 4 - (intOf k).toNat)
            case atStart => exact ⟨0, by omega, rfl, by rw [Nat.pow_zero, Nat.one_mul]; exact HW.out, HWN.out⟩
            case round =>
              clear HW HWN hob hzw
              obtain ⟨q, hq, rfl, HO, HWN⟩ := hrel
              have hob := HO.out.lt
              have hzw := HWN.out.size
              by_cases hql : q < 4
              · have ho_0 := HO.out.cell (i := 0) (x := (dig (mont R.m (x ^ (2 ^ q * N))) 0 : Int)) rfl
                have ho_1 := HO.out.cell (i := 1) (x := (dig (mont R.m (x ^ (2 ^ q * N))) 1 : Int)) rfl
                have ho_2 := HO.out.cell (i := 2) (x := (dig (mont R.m (x ^ (2 ^ q * N))) 2 : Int)) rfl
                have ho_3 := HO.out.cell (i := 3) (x := (dig (mont R.m (x ^ (2 ^ q * N))) 3 : Int)) rfl
                have HR3 := Lib.hid (HR1.out.below HWN.out (by omega))
                go_wp2_with fail
                refine (mulM R OK.out rb off (x ^ (2 ^ q * N)) (x ^ (2 ^ q * N)) _ HR3.out).mono ?_
                rintro e w5 ⟨rfl, hb5⟩
                clear ho_0 ho_1 ho_2 ho_3
                have HOE := Lib.hid (HO.out.below hb5 HO.out.lt)
                have HNE := Lib.hid (HWN.out.trans (hb5.mono (by omega)))
                clear hb5
                rw [← Nat.pow_add, ← Nat.two_mul, ← Nat.mul_assoc, ← Nat.pow_succ']
                unfold limbV
                have ho_0 := HOE.out.cell (i := 0) (x := (dig (mont R.m (x ^ (2 ^ q * N))) 0 : Int)) rfl
                have ho_1 := HOE.out.cell (i := 1) (x := (dig (mont R.m (x ^ (2 ^ q * N))) 1 : Int)) rfl
                have ho_2 := HOE.out.cell (i := 2) (x := (dig (mont R.m (x ^ (2 ^ q * N))) 2 : Int)) rfl
                have ho_3 := HOE.out.cell (i := 3) (x := (dig (mont R.m (x ^ (2 ^ q * N))) 3 : Int)) rfl
                have hof_0 := HOE.out.frozen 0
                have hof_1 := HOE.out.frozen 1
                have hof_2 := HOE.out.frozen 2
                have hof_3 := HOE.out.frozen 3
                have HS := Lib.hid (HOE.out.fill rfl (mont R.m (x ^ (2 ^ (q + 1) * N))))
                have HSB := Lib.hid (below_fill (n := mont R.m (x ^ (2 ^ (q + 1) * N))) (b := W1.heap.size) HNE.out (Nat.le_refl _))
                go_wp2_with fail
                go_roundw
                case rel => exact ⟨q + 1, by omega, by go_num, HS.out, HSB.out⟩
                case measure => first | (simp [intOf]; done) | (simp [intOf]; omega)
              · have hq4 : q = 4 := by omega
                subst hq4
                have HO' : Hid (Blk wr W1.heap.size 89 (lim (mont R.m (x ^ (16 * N))))) := HO.out
                clear HO
                have HO := HO'
                clear HO'
                have HX4 := Lib.hid ((HT.out.below HWN.out (by omega)))
                have HR4 := Lib.hid (HR1.out.below HWN.out (by omega))
                have hn1 := ((HB.out.below (HBW'.out) (by omega)).below HWN.out (by omega)).cell (lim_at n (p / 16) (by omega))
                have hdig := pow_digit n p
                have hob4 := HO.out.lt
                have hfl4 := HX4.out.lt
                have hDlt : n / 16 ^ p % 16 < 16 := Nat.mod_lt _ (by omega)
                generalize n / 16 ^ p % 16 = D at *
                by_cases hD : 0 < D
                · have hf0 := HX4.out.cell (i := D * 4) (fewTo_at R.m x 16 D 0 (by omega) hDlt (by omega))
                  have hf1 := HX4.out.cell (fewTo_at R.m x 16 D 1 (by omega) hDlt (by omega))
                  have hf2 := HX4.out.cell (fewTo_at R.m x 16 D 2 (by omega) hDlt (by omega))
                  have hf3 := HX4.out.cell (fewTo_at R.m x 16 D 3 (by omega) hDlt (by omega))
                  have ho_0 := HO.out.cell (i := 0) (x := (dig (mont R.m (x ^ (16 * N))) 0 : Int)) rfl
                  have ho_1 := HO.out.cell (i := 1) (x := (dig (mont R.m (x ^ (16 * N))) 1 : Int)) rfl
                  have ho_2 := HO.out.cell (i := 2) (x := (dig (mont R.m (x ^ (16 * N))) 2 : Int)) rfl
                  have ho_3 := HO.out.cell (i := 3) (x := (dig (mont R.m (x ^ (16 * N))) 3 : Int)) rfl
                  go_wp2_with fail
                  refine wp_region_otail 6 (by kernel_rfl) (by kernel_rfl) ?_
                  simp only [List.take_succ_cons, List.take_zero, List.drop_succ_cons, List.drop_zero]
                  have hov := fun (E : Over wr) o => E.cell (b := W1.heap.size) o hob4
                  have hov2 := fun (E : Over wr) o => E.cell (b := w.heap.size + 3) o hfl4
                  repeat (go_big_quiet_step (first | (go_at_call 136; exact calls_over (mulM R OK.out rb off (x ^ (16 * N)) (x ^ D) _ (HR4.out.up (Over.h _))))))
                  refine wpQuiet_nil ?_
                  rintro _ ⟨E, rfl⟩
                  clear hov hov2 hf0 hf1 hf2 hf3 ho_0 ho_1 ho_2 ho_3 hn1 hdig
                  unfold limbV
                  have HOE := Lib.hid (HO.out.below E.h HO.out.lt)
                  have HNE := Lib.hid (HWN.out.trans (E.h.mono (by omega)))
                  generalize E.w = w5 at *
                  rw [← Nat.pow_add]
                  have ho_0 := HOE.out.cell (i := 0) (x := (dig (mont R.m (x ^ (16 * N))) 0 : Int)) rfl
                  have ho_1 := HOE.out.cell (i := 1) (x := (dig (mont R.m (x ^ (16 * N))) 1 : Int)) rfl
                  have ho_2 := HOE.out.cell (i := 2) (x := (dig (mont R.m (x ^ (16 * N))) 2 : Int)) rfl
                  have ho_3 := HOE.out.cell (i := 3) (x := (dig (mont R.m (x ^ (16 * N))) 3 : Int)) rfl
                  have hof_0 := HOE.out.frozen 0
                  have hof_1 := HOE.out.frozen 1
                  have hof_2 := HOE.out.frozen 2
                  have hof_3 := HOE.out.frozen 3
                  have HS := Lib.hid (HOE.out.fill rfl (mont R.m (x ^ (16 * N + D))))
                  have HSB := Lib.hid (below_fill (n := mont R.m (x ^ (16 * N + D))) (b := W1.heap.size) HNE.out (Nat.le_refl _))
                  go_wp2_with fail
                  go_roundw
                  case rel => exact ⟨p, by omega, rfl, by rw [HSTEP.out, decide_eq_true (by omega)], by rw [HSTEP.out]; exact HS.out, HSB.out⟩
                  case measure => first | (simp [intOf]; done) | (simp [intOf]; omega)
                · have hD0 : D = 0 := by omega
                  subst hD0
                  go_wp2_with fail
                  go_roundw
                  case rel => exact ⟨p, by omega, rfl, by rw [HSTEP.out]; rw [decide_eq_true (by omega)], by rw [HSTEP.out]; exact HO.out, HWN.out⟩
                  case measure => first | (simp [intOf]; done) | (simp [intOf]; omega)
          · rw [decide_eq_false hbeg] at hc
            subst hc
            have hN : n / 16 ^ (p + 1) = 0 := Nat.eq_zero_of_not_pos hbeg
            rw [hN] at HW HSTEP
            obtain ⟨N, hN0⟩ : ∃ N, N = 0 := ⟨0, rfl⟩
            have HO : Hid (Blk wr W1.heap.size 89 (lim (mont R.m (x ^ (16 * N))))) := by rw [hN0]; exact HW.out
            have HSTEP' : Hid (n / 16 ^ p = 16 * N + n / 16 ^ p % 16) := by show _ = _; rw [hN0]; exact HSTEP.out
            clear HSTEP HW
            have HSTEP := HSTEP'
            clear HSTEP'
            have hN1 : ¬ 0 < N := by omega
            have HN0' := Lib.hid hN0
            clear hN hN0 hbeg
            have HX4 := Lib.hid ((HT.out.below HWN.out (by omega)))
            have HR4 := Lib.hid (HR1.out.below HWN.out (by omega))
            have hn1 := ((HB.out.below (HBW'.out) (by omega)).below HWN.out (by omega)).cell (lim_at n (p / 16) (by omega))
            have hdig := pow_digit n p
            have hob4 := HO.out.lt
            have hfl4 := HX4.out.lt
            have hDlt : n / 16 ^ p % 16 < 16 := Nat.mod_lt _ (by omega)
            generalize n / 16 ^ p % 16 = D at *
            by_cases hD : 0 < D
            · have hf0 := HX4.out.cell (i := D * 4) (fewTo_at R.m x 16 D 0 (by omega) hDlt (by omega))
              have hf1 := HX4.out.cell (fewTo_at R.m x 16 D 1 (by omega) hDlt (by omega))
              have hf2 := HX4.out.cell (fewTo_at R.m x 16 D 2 (by omega) hDlt (by omega))
              have hf3 := HX4.out.cell (fewTo_at R.m x 16 D 3 (by omega) hDlt (by omega))
              have ho_0 := HO.out.cell (i := 0) (x := (dig (mont R.m (x ^ (16 * N))) 0 : Int)) rfl
              have ho_1 := HO.out.cell (i := 1) (x := (dig (mont R.m (x ^ (16 * N))) 1 : Int)) rfl
              have ho_2 := HO.out.cell (i := 2) (x := (dig (mont R.m (x ^ (16 * N))) 2 : Int)) rfl
              have ho_3 := HO.out.cell (i := 3) (x := (dig (mont R.m (x ^ (16 * N))) 3 : Int)) rfl
              go_wp2_with fail
              refine wp_region_otail 6 (by kernel_rfl) (by kernel_rfl) ?_
              simp only [List.take_succ_cons, List.take_zero, List.drop_succ_cons, List.drop_zero]
              have hov := fun (E : Over wr) o => E.cell (b := W1.heap.size) o hob4
              have hov2 := fun (E : Over wr) o => E.cell (b := w.heap.size + 3) o hfl4
              repeat (go_big_quiet_step (first | (go_at_call 136; exact calls_over (mulM R OK.out rb off (x ^ (16 * N)) (x ^ D) _ (HR4.out.up (Over.h _))))))
              refine wpQuiet_nil ?_
              rintro _ ⟨E, rfl⟩
              clear hov hov2 hf0 hf1 hf2 hf3 ho_0 ho_1 ho_2 ho_3 hn1 hdig
              unfold limbV
              have HOE := Lib.hid (HO.out.below E.h HO.out.lt)
              have HNE := Lib.hid (HWN.out.trans (E.h.mono (by omega)))
              generalize E.w = w5 at *
              rw [← Nat.pow_add]
              have ho_0 := HOE.out.cell (i := 0) (x := (dig (mont R.m (x ^ (16 * N))) 0 : Int)) rfl
              have ho_1 := HOE.out.cell (i := 1) (x := (dig (mont R.m (x ^ (16 * N))) 1 : Int)) rfl
              have ho_2 := HOE.out.cell (i := 2) (x := (dig (mont R.m (x ^ (16 * N))) 2 : Int)) rfl
              have ho_3 := HOE.out.cell (i := 3) (x := (dig (mont R.m (x ^ (16 * N))) 3 : Int)) rfl
              have hof_0 := HOE.out.frozen 0
              have hof_1 := HOE.out.frozen 1
              have hof_2 := HOE.out.frozen 2
              have hof_3 := HOE.out.frozen 3
              have HS := Lib.hid (HOE.out.fill rfl (mont R.m (x ^ (16 * N + D))))
              have HSB := Lib.hid (below_fill (n := mont R.m (x ^ (16 * N + D))) (b := W1.heap.size) HNE.out (Nat.le_refl _))
              go_wp2_with fail
              go_roundw
              case rel => exact ⟨p, by omega, rfl, by rw [HSTEP.out, decide_eq_true (by omega)], by rw [HSTEP.out]; exact HS.out, HSB.out⟩
              case measure => first | (simp [intOf]; done) | (simp [intOf]; omega)
            · have hD0 : D = 0 := by omega
              subst hD0
              go_wp2_with fail
              go_roundw
              case rel => exact ⟨p, by omega, rfl, by rw [HSTEP.out]; rw [decide_eq_false (by have := HN0'.out; omega)], by rw [HSTEP.out]; exact HO.out, HWN.out⟩
              case measure => first | (simp [intOf]; done) | (simp [intOf]; omega)

end Go.Proofs.Ytipgjookfdkciaa

/- Limbs: compared. No condition. -/
namespace Go.Proofs.Ytipgjookfdkciaa
open Go.RowKit

theorem below_drewN {n : Nat} {w W : World} (h : Below n w W) (k : Nat) : Below n w (W.drewN k) := ⟨h.os, h.tape, h.output, h.size, h.block⟩

def cmpI (a b : Nat) : Int := if a < b then -1 else if b < a then 1 else 0

theorem div_split (a p : Nat) : a / BB ^ p = BB * (a / BB ^ (p + 1)) + dig a p := by
  unfold dig
  rw [Nat.pow_succ, ← Nat.div_div_eq_div_mul]
  exact (Nat.div_add_mod _ _).symm
theorem lt_of_dig (a b p : Nat) (h : a / BB ^ (p + 1) = b / BB ^ (p + 1)) (hd : dig a p < dig b p) : a < b := by
  rcases Nat.lt_or_ge a b with h1 | h1
  · exact h1
  · have := Nat.div_le_div_right (c := BB ^ p) h1
    rw [div_split a p, div_split b p, h] at this
    omega
theorem eq_of_dig (a b p : Nat) (h : a / BB ^ (p + 1) = b / BB ^ (p + 1)) (hd : dig a p = dig b p) : a / BB ^ p = b / BB ^ p := by
  rw [div_split a p, div_split b p, h, hd]

set_option maxHeartbeats 1000000 in
theorem cmp_any (a b : Nat) (ha : a < BB ^ 4) (hb : b < BB ^ 4) (w : World) : Calls Try.prog 129 #[limbV a, limbV b] w fun e w' => e = .returned (.int .i64 (cmpI a b)) ∧ Below w.heap.size w w' := by
  have HLA := Lib.hid ha
  have HLB := Lib.hid hb
  clear ha hb
  unfold limbV
  go_enter Try.func129, Try.ntmps129
  go_wp2_with fail
  generalize hW0 : (w.alloc (Obj.cells #[.int .u64 (dig (a) 0 : Int), .int .u64 (dig (a) 1 : Int), .int .u64 (dig (a) 2 : Int), .int .u64 (dig (a) 3 : Int)] 89)).alloc (Obj.cells #[.int .u64 (dig (b) 0 : Int), .int .u64 (dig (b) 1 : Int), .int .u64 (dig (b) 2 : Int), .int .u64 (dig (b) 3 : Int)] 89) = W0 at *
  have hA : Blk W0 w.heap.size 89 (lim a) := by rw [← hW0]; exact (Blk.new w _ (lim a) _ rfl).alloc _
  have hB : Blk W0 (w.heap.size + 1) 89 (lim b) := by
    rw [← hW0]
    have h := Blk.new (w.alloc (Obj.cells #[.int .u64 (dig (a) 0 : Int), .int .u64 (dig (a) 1 : Int), .int .u64 (dig (a) 2 : Int), .int .u64 (dig (a) 3 : Int)] 89)) 89 (lim b) _ rfl
    rwa [World.size_alloc] at h
  have hBW : Below w.heap.size w W0 := by rw [← hW0]; exact ((Below.refl _ _).alloc (Nat.le_refl _) _).alloc (by simp) _
  have HA := Lib.hid hA
  have HB := Lib.hid hB
  have HBW := Lib.hid hBW
  have hlb := hB.lt
  clear hW0 hA hB hBW
  go_loopw [5] (fun i wr => ∃ j : Nat, j ≤ 4 ∧ i = .int .i64 ((j : Int) - 1) ∧ Hid (a / BB ^ j = b / BB ^ j) ∧ Hid (Below W0.heap.size W0 wr)) (fun i _ => (intOf i + 1).toNat)
  case atStart => exact ⟨4, Nat.le_refl _, rfl, by show _ = _; rw [Nat.div_eq_of_lt HLA.out, Nat.div_eq_of_lt HLB.out], Below.refl _ _⟩
  case round =>
    obtain ⟨j, hj, hi, HE, HN⟩ := hrel
    rcases Nat.eq_zero_or_pos j with rfl | hjp
    · subst hi
      go_wp2_with fail
      go_ret
      have h := HE.out
      rw [Nat.pow_zero, Nat.div_one, Nat.div_one] at h
      exact ⟨ret_int (by unfold cmpI; rw [if_neg (by omega), if_neg (by omega)]), HBW.out.trans (HN.out.mono (by omega))⟩
    · obtain ⟨p, rfl⟩ : ∃ p, j = p + 1 := ⟨j - 1, by omega⟩
      have ei : ((p + 1 : Nat) : Int) - 1 = (p : Int) := by omega
      rw [ei] at hi
      subst hi
      clear ei hjp
      have hxa := (HA.out.below HN.out (by omega)).cell (lim_at a p (by omega))
      have hxb := (HB.out.below HN.out (by omega)).cell (lim_at b p (by omega))
      have HBB := Lib.hid (HBW.out.trans (HN.out.mono (by omega)))
      rcases Nat.lt_trichotomy (dig a p) (dig b p) with hd | hd | hd
      · have hcmp : Hid (a < b) := lt_of_dig a b p HE.out hd
        go_wp2_with fail
        go_quiet (fail)
        go_wp2_with fail
        go_ret
        exact ⟨ret_int (by unfold cmpI; rw [if_pos hcmp.out]), below_drewN HBB.out _⟩
      · have HE2 := Lib.hid (eq_of_dig a b p HE.out hd)
        have hd1 : ¬ dig a p < dig b p := by omega
        have hd2 : ¬ dig b p < dig a p := by omega
        clear hd
        go_wp2_with fail
        go_quiet (fail)
        go_wp2_with fail
        go_quiet (fail)
        go_wp2_with fail
        go_roundw
        case rel => exact ⟨p, by omega, rfl, HE2.out, below_drewN HN.out _⟩
        case measure => first | (simp [intOf]; done) | (simp [intOf]; omega)
      · have hcmp : Hid (b < a) := lt_of_dig b a p HE.out.symm hd
        have hd1 : ¬ dig a p < dig b p := by omega
        go_wp2_with fail
        go_quiet (fail)
        go_wp2_with fail
        go_quiet (fail)
        go_wp2_with fail
        go_ret
        exact ⟨ret_int (by have := hcmp.out; unfold cmpI; rw [if_neg (by omega), if_pos this]), below_drewN (below_drewN HBB.out _) _⟩

end Go.Proofs.Ytipgjookfdkciaa

/- Limbs: written down and read. No condition. -/
namespace Go.Proofs.Ytipgjookfdkciaa
open Go.RowKit

theorem infoByte : (Try.prog.info? 5).map (fun i => (i.zero, i.size, i.bytes)) = some (some (.int .u8 0), 1, 1) := by kernel_rfl

def byteAt (a k : Nat) : Nat := a / 256 ^ k % 256

/-- The bytes of a number, the highest first; those from the k-th on (from behind) are nought. -/
def textL (a size k : Nat) : List Int := (List.range size).map fun p => if size - 1 - p < k then (byteAt a (size - 1 - p) : Int) else 0
def textS (a size : Nat) : ByteArray := strOfNums (textL a size size)

theorem textL_length (a size k : Nat) : (textL a size k).length = size := by simp [textL]
theorem textL_zero (a size : Nat) : textL a size 0 = List.replicate size 0 := by
  simp only [textL, Nat.not_lt_zero, if_false]
  refine List.ext_getElem (by simp) (fun i h1 h2 => by simp)
theorem textL_set (a size k : Nat) (hk : k < size) : (textL a size k).set (size - 1 - k) (byteAt a k : Int) = textL a size (k + 1) := by
  refine List.ext_getElem (by simp [textL]) (fun i h1 h2 => ?_)
  rw [textL_length] at h2
  rw [List.getElem_set]
  simp only [textL, List.getElem_map, List.getElem_range]
  by_cases h : size - 1 - k = i
  · rw [if_pos h, if_pos (by omega), show size - 1 - i = k by omega]
  · rw [if_neg h]
    by_cases h3 : size - 1 - i < k
    · rw [if_pos h3, if_pos (by omega)]
    · rw [if_neg h3, if_neg (by omega)]

theorem byte_digit (n i : Nat) : n / BB ^ (i / 8) % BB / 2 ^ (8 * (i % 8)) % 256 = n / 256 ^ i % 256 := by
  have hb : BB = 256 ^ 8 := rfl
  have h2 : (2 : Nat) ^ (8 * (i % 8)) = 256 ^ (i % 8) := by rw [Nat.pow_mul]
  rw [h2, hb, ← Nat.pow_mul]
  have hlt := Nat.mod_lt i (show 8 > 0 by omega)
  have e : (256 : Nat) ^ 8 = 256 ^ (i % 8) * (256 * 256 ^ (7 - i % 8)) := by
    rw [← Nat.pow_succ', ← Nat.pow_add]; congr 1; omega
  rw [e, Nat.mod_mul_right_div_self, Nat.mod_mul_right_mod, Nat.div_div_eq_div_mul, ← Nat.pow_add]
  congr 3
  omega

theorem bytes_made (n : Nat) : (madeCells #[Value.int .u8 0] n).toList = (List.replicate n (0 : Int)).map (Value.int .u8) := by
  refine List.ext_getElem (by simp [madeCells]) (fun i h1 h2 => by simp [madeCells, Nat.mod_one])

set_option maxHeartbeats 1000000 in
theorem text_any (a size : Nat) (hs : size ≤ 32) (w : World) : Calls Try.prog 135 #[limbV a, .int .i64 size] w fun e w' => e = .returned (.string (textS a size)) ∧ Below w.heap.size w w' := by
  obtain ⟨i0, hi, hz0, hz1, hz2⟩ := info_parts infoByte
  unfold limbV
  go_enter Try.func135, Try.ntmps135
  go_wp2_with (at_make; refine wpList_make_full _ rfl _ _ 189 rfl 0 5 i0 (.int .u8 0) 1 Try.underlying189 hi hz0 hz1 _ _ _ _ size rfl rfl ?c1 ?c2 ?c3 ?c4 ?c5 ?_)
  case c1 => rfl
  case c2 => rfl
  case c3 => rw [hz2]; omega
  case c4 => unfold maxLen; omega
  case c5 => omega
  intro w1 hown hgrow
  have hA : Blk (w.alloc (Obj.cells #[.int .u64 (dig (a) 0 : Int), .int .u64 (dig (a) 1 : Int), .int .u64 (dig (a) 2 : Int), .int .u64 (dig (a) 3 : Int)] 89)) w.heap.size 89 (lim a) := Blk.new w _ (lim a) _ rfl
  have hb1 : Below (w.heap.size + 1) (w.alloc (Obj.cells #[.int .u64 (dig (a) 0 : Int), .int .u64 (dig (a) 1 : Int), .int .u64 (dig (a) 2 : Int), .int .u64 (dig (a) 3 : Int)] 89)) w1 := (Below.refl _ _).grown hgrow (by simp) (by simp)
  have hA1 := hA.below hb1 (by omega)
  have hown1 : w1.ownsRow 0 5 1 (.slice (some ⟨w.heap.size + 1, 0, none⟩) size size) size ((textL a size 0).map (Value.int .u8)) := by
    have h := hown
    rw [textL_zero]
    rw [bytes_made] at h
    exact h
  have HB1 := Lib.hid hb1
  have HA1 := Lib.hid hA1
  have hal := hA1.lt
  clear hown hgrow hA hA1 hb1 hi
  go_wp2_with fail
  go_loopw [6, 11] (fun _ i wr => ∃ k : Nat, k ≤ size ∧ i = .int .i64 k ∧ Hid (wr.ownsRow 0 5 1 (.slice (some ⟨w.heap.size + 1, 0, none⟩) size size) size ((textL a size k).map (Value.int .u8))) ∧ Hid (Below (w.heap.size + 1) (w.alloc (Obj.cells #[.int .u64 (dig (a) 0 : Int), .int .u64 (dig (a) 1 : Int), .int .u64 (dig (a) 2 : Int), .int .u64 (dig (a) 3 : Int)] 89)) wr)) (fun _ i _ => size - (intOf i).toNat)
  case atStart => exact ⟨0, Nat.zero_le _, rfl, hown1, HB1.out⟩
  case round =>
    clear hown1 HB1 HA1 hal
    obtain ⟨k, hk, rfl, HO, HN⟩ := hrel
    by_cases hkl : k < size
    · have hlen : size - 1 - k < ((textL a size k).map (Value.int .u8)).length := by simp [textL_length]; omega
      have hc := HO.out.cellAt (size - 1 - k) (by omega)
      rw [List.getElem?_eq_getElem hlen] at hc
      have hf := HO.out.frozenAt (size - 1 - k)
      have HS := Lib.hid (HO.out.stored (size - 1 - k) (.int .u8 (byteAt a k : Int)))
      generalize ((textL a size k).map (Value.int .u8))[size - 1 - k] = old at hc
      have hA : Blk (w.alloc (Obj.cells #[.int .u64 (dig (a) 0 : Int), .int .u64 (dig (a) 1 : Int), .int .u64 (dig (a) 2 : Int), .int .u64 (dig (a) 3 : Int)] 89)) w.heap.size 89 (lim a) := Blk.new w _ (lim a) _ rfl
      have hx := (hA.below HN.out (by omega)).cell (lim_at a (k / 8) (by omega))
      have hxl := (hA.below HN.out (by omega)).lt
      have hbyte : IntKind.u8.wrap ((dig a (k / 8) : Int) / 2 ^ (8 * (k % 8))) = (byteAt a k : Int) := by
        unfold byteAt
        rw [← byte_digit, IntKind.wrap_u8]
        simp [dig]
      have hidx : (size : Int) - 1 - (k : Int) = ((size - 1 - k : Nat) : Int) := by omega
      clear hlen hA
      go_wp2_with fail
      go_roundw
      case rel => exact ⟨k + 1, by omega, by go_num, by have h := HS.out.1; rw [← List.map_set, textL_set _ _ _ hkl] at h; exact h, HN.out.setCell (p := ⟨w.heap.size + 1, size - 1 - k, none⟩) (Nat.le_refl _) _⟩
      case measure => simp [intOf]; omega
    · have hks : k = size := by omega
      subst hks
      have hcv := run_convert_bytes_arg (P := Try.prog) wr 189 5 Try.underlying189 Try.underlying5 (w.heap.size + 1) 0 k k (textL a k k) (textL_length _ _ _) (fun i hi => by
        have h := HO.out.cellAt i (by omega)
        rw [Nat.zero_add, h, List.getElem?_map, List.getElem?_eq_getElem (by rw [textL_length]; exact hi)]
        simp [List.getD, List.getElem?_eq_getElem (show i < (textL a k k).length by rw [textL_length]; exact hi)]) 9 Try.underlying9
      have hbl : Below w.heap.size w wr := ((Below.refl _ _).alloc (Nat.le_refl _) _).trans (HN.out.mono (by omega))
      have HBL := Lib.hid hbl
      clear hbl
      go_wp2_with fail
      go_ret
      exact ⟨rfl, HBL.out⟩

/-- The number that bytes are, the highest first. -/
def numL : List UInt8 → Nat
  | [] => 0
  | c :: t => c.toNat * 256 ^ t.length + numL t
def numOf (s : ByteArray) : Nat := numL s.data.toList

theorem numL_lt : ∀ l : List UInt8, numL l < 256 ^ l.length
  | [] => by simp [numL]
  | c :: t => by
    have h1 := numL_lt t
    have h2 := c.toNat_lt
    rw [numL, List.length_cons, Nat.pow_succ]
    have h3 : c.toNat * 256 ^ t.length ≤ 255 * 256 ^ t.length := Nat.mul_le_mul_right _ (by omega)
    omega

/-- What the last k bytes are. -/
def numTo (s : ByteArray) (k : Nat) : Nat := numL (s.data.toList.drop (s.size - k))
theorem numTo_lt (s : ByteArray) (k : Nat) (hk : k ≤ s.size) : numTo s k < 256 ^ k := by
  have h := numL_lt (s.data.toList.drop (s.size - k))
  have e : (s.data.toList.drop (s.size - k)).length = k := by simp; have : s.data.size = s.size := rfl; omega
  rwa [e] at h
theorem numTo_zero (s : ByteArray) : numTo s 0 = 0 := by
  have h : s.data.toList.drop (s.size - 0) = [] := List.drop_eq_nil_of_le (Nat.le_refl _)
  rw [numTo, h, numL]
theorem numTo_all (s : ByteArray) : numTo s s.size = numOf s := by simp [numTo, numOf]
theorem numTo_succ (s : ByteArray) (k : Nat) (hk : k < s.size) : numTo s (k + 1) = (s[s.size - 1 - k]'(by omega)).toNat * 256 ^ k + numTo s k := by
  have hsz : s.data.toList.length = s.size := rfl
  have h : s.data.toList.drop (s.size - (k + 1)) = s[s.size - 1 - k]'(by omega) :: s.data.toList.drop (s.size - k) := by
    rw [List.drop_eq_getElem_cons (by omega)]
    congr 1
    · have hi : s.size - (k + 1) = s.size - 1 - k := by omega
      simp only [hi]
      rfl
    · congr 1; omega
  have e : (s.data.toList.drop (s.size - k)).length = k := by rw [List.length_drop]; omega
  rw [numTo, h, numL, e, numTo]

theorem dig_put (v c k : Nat) (hv : v < 256 ^ k) (hc : c < 256) (j : Nat) : dig (c * 256 ^ k + v) j = if j = k / 8 then dig v j + c * 2 ^ (8 * (k % 8)) else dig v j := by
  have hb : BB = 256 ^ 8 := rfl
  have h2 : (2 : Nat) ^ (8 * (k % 8)) = 256 ^ (k % 8) := by rw [Nat.pow_mul]
  unfold dig
  rw [h2, hb, ← Nat.pow_mul]
  rcases Nat.lt_trichotomy j (k / 8) with h | h | h
  · rw [if_neg (by omega)]
    have e : (256 : Nat) ^ k = 256 ^ (8 * j) * (256 ^ 8 * 256 ^ (k - 8 * j - 8)) := by rw [← Nat.pow_add, ← Nat.pow_add]; congr 1; omega
    rw [e, Nat.mul_left_comm, Nat.add_comm, Nat.add_mul_div_left _ _ (Nat.pow_pos (by omega)), Nat.mul_left_comm c, Nat.add_mul_mod_self_left]
  · subst h
    rw [if_pos rfl]
    have hk : 8 * (k / 8) + k % 8 = k := Nat.div_add_mod k 8
    have e : (256 : Nat) ^ k = 256 ^ (8 * (k / 8)) * 256 ^ (k % 8) := by rw [← Nat.pow_add, hk]
    rw [e, Nat.mul_left_comm, Nat.add_comm, Nat.add_mul_div_left _ _ (Nat.pow_pos (by omega))]
    have hq : v / 256 ^ (8 * (k / 8)) < 256 ^ (k % 8) := Nat.div_lt_of_lt_mul (by rw [← e]; exact hv)
    have h8 : (256 : Nat) ^ (k % 8) * 256 ≤ 256 ^ 8 := by rw [← Nat.pow_succ]; exact Nat.pow_le_pow_right (by omega) (by omega)
    have h9 : c * 256 ^ (k % 8) ≤ 255 * 256 ^ (k % 8) := Nat.mul_le_mul_right _ (by omega)
    generalize (256 : Nat) ^ (k % 8) = p at *
    generalize v / 256 ^ (8 * (k / 8)) = q at *
    rw [Nat.mod_eq_of_lt (by omega), Nat.mod_eq_of_lt (a := q) (by omega)]
  · rw [if_neg (by omega)]
    have hle : (256 : Nat) ^ (k + 1) ≤ 256 ^ (8 * j) := Nat.pow_le_pow_right (by omega) (by omega)
    have h9 : c * 256 ^ k ≤ 255 * 256 ^ k := Nat.mul_le_mul_right _ (by omega)
    rw [Nat.pow_succ] at hle
    rw [Nat.div_eq_of_lt (by omega), Nat.div_eq_of_lt (by omega)]

theorem lim_put (v c k : Nat) (hv : v < 256 ^ k) (hc : c < 256) (hk : k < 32) : (lim v).set (k / 8) (dig (c * 256 ^ k + v) (k / 8) : Int) = lim (c * 256 ^ k + v) := by
  have h := dig_put v c k hv hc
  have hj : k / 8 < 4 := by omega
  have e : ∀ j, j ≠ k / 8 → dig (c * 256 ^ k + v) j = dig v j := fun j hj => by rw [h, if_neg hj]
  generalize k / 8 = i at *
  match i, hj with
  | 0, _ => simp [lim, e 1 (by omega), e 2 (by omega), e 3 (by omega)]
  | 1, _ => simp [lim, e 0 (by omega), e 2 (by omega), e 3 (by omega)]
  | 2, _ => simp [lim, e 0 (by omega), e 1 (by omega), e 3 (by omega)]
  | 3, _ => simp [lim, e 0 (by omega), e 1 (by omega), e 2 (by omega)]

theorem dig_or (v c k : Nat) (hv : v < 256 ^ k) (hc : c < 256) (hk : k < 32) : bits .or .u64 (dig v (k / 8) : Int) (IntKind.u64.wrap ((c : Int) * 2 ^ (8 * (k % 8)))) = (dig (c * 256 ^ k + v) (k / 8) : Int) := by
  have h := dig_put v c k hv hc (k / 8)
  rw [if_pos rfl] at h
  have hb : BB = 256 ^ 8 := rfl
  have h2 : (2 : Nat) ^ (8 * (k % 8)) = 256 ^ (k % 8) := by rw [Nat.pow_mul]
  have hlt : dig v (k / 8) < 2 ^ (8 * (k % 8)) := by
    unfold dig
    rw [h2, hb, ← Nat.pow_mul]
    refine Nat.lt_of_le_of_lt (Nat.mod_le _ _) (Nat.div_lt_of_lt_mul ?_)
    rw [← Nat.pow_add, Nat.div_add_mod]
    exact hv
  have h3 := dig_lt (c * 256 ^ k + v) (k / 8)
  have hcs : c * 2 ^ (8 * (k % 8)) < 2 ^ 64 := by
    show _ < 18446744073709551616
    have : BB = 18446744073709551616 := rfl
    omega
  have hw : IntKind.u64.wrap ((c : Int) * 2 ^ (8 * (k % 8))) = ((c * 2 ^ (8 * (k % 8)) : Nat) : Int) := by
    have e : ((c : Int) * 2 ^ (8 * (k % 8))) = ((c * 2 ^ (8 * (k % 8)) : Nat) : Int) := by simp
    rw [e]
    exact wraps_u64 _ (Int.natCast_nonneg _) (by exact_mod_cast hcs)
  rw [hw, (bits_nat .u64 64 (by decide) wraps_u64 (dig v (k / 8)) (c * 2 ^ (8 * (k % 8))) (dig_lt _ _) hcs).2, h]
  congr 1
  rw [Nat.or_comm, ← Nat.shiftLeft_eq, ← Nat.shiftLeft_add_eq_or_of_lt hlt, Nat.add_comm]

set_option maxHeartbeats 1000000 in
theorem read_long (s : ByteArray) (hs : 32 < s.size) (w : World) : Calls Try.prog 128 #[.string s] w fun e w' => e = .returned (.tuple #[limbV 0, .bool false]) ∧ Below w.heap.size w w' := by
  go_enter Try.func128, Try.ntmps128
  go_wp2_with fail
  simp [bodyPost, results, Try.results128, go_sem, limbV, dig]
  exact (Below.refl _ _).alloc (Nat.le_refl _) _

set_option maxHeartbeats 1000000 in
theorem read_any (s : ByteArray) (hs : s.size ≤ 32) (w : World) : Calls Try.prog 128 #[.string s] w fun e w' => e = .returned (.tuple #[limbV (numOf s), .bool true]) ∧ Below w.heap.size w w' := by
  go_enter Try.func128, Try.ntmps128
  go_wp2_with fail
  have hT : Blk (w.alloc (Obj.cells #[.int .u64 0, .int .u64 0, .int .u64 0, .int .u64 0] 89)) w.heap.size 89 (lim (numTo s 0)) := by rw [numTo_zero]; exact Blk.new w _ (lim 0) _ rfl
  have hBW : Below w.heap.size w (w.alloc (Obj.cells #[.int .u64 0, .int .u64 0, .int .u64 0, .int .u64 0] 89)) := (Below.refl _ _).alloc (Nat.le_refl _) _
  have HT := Lib.hid hT
  have HBW := Lib.hid hBW
  clear hT hBW
  go_loopw [4, 11] (fun _ i wr => ∃ k : Nat, k ≤ s.size ∧ i = .int .i64 k ∧ Hid (Blk wr w.heap.size 89 (lim (numTo s k))) ∧ Hid (Below w.heap.size w wr)) (fun _ i _ => s.size - (intOf i).toNat)
  case atStart => exact ⟨0, Nat.zero_le _, rfl, HT.out, HBW.out⟩
  case round =>
    clear HT HBW
    obtain ⟨k, hk, rfl, HT, HN⟩ := hrel
    have htl := HT.out.lt
    by_cases hkl : k < s.size
    · have hx := HT.out.cell (lim_at (numTo s k) (k / 8) (by omega))
      have hf := HT.out.frozen (k / 8)
      have hidx : (s.size : Int) - 1 - (k : Int) = ((s.size - 1 - k : Nat) : Int) := by omega
      have hlt : s.size - 1 - k < s.size := by omega
      have hc := (s[s.size - 1 - k]'hlt).toNat_lt
      have hor := dig_or (numTo s k) (s[s.size - 1 - k]'hlt).toNat k (numTo_lt s k hk) hc (by omega)
      have hlp := lim_put (numTo s k) (s[s.size - 1 - k]'hlt).toNat k (numTo_lt s k hk) hc (by omega)
      have hset := HT.out.set (k / 8) (dig (numTo s (k + 1)) (k / 8) : Int)
      rw [← numTo_succ s k hkl] at hor hlp
      rw [hlp] at hset
      have HS := Lib.hid hset
      have HB := Lib.hid (HN.out.setCell (p := ⟨w.heap.size, k / 8, none⟩) (Nat.le_refl _) (.int .u64 (dig (numTo s (k + 1)) (k / 8) : Int)))
      clear hset
      have HLP := Lib.hid hlp
      clear hlp
      go_wp2_with fail
      refine wp_region_otail 18 (by kernel_rfl) (by kernel_rfl) ?_
      simp only [List.take_succ_cons, List.take_zero, List.drop_succ_cons, List.drop_zero]
      have hov := fun (E : Over wr) o => E.cell (b := w.heap.size) o htl
      repeat (go_big_quiet_step (fail))
      refine wpQuiet_nil ?_
      rintro _ ⟨E, rfl⟩
      have HTE := Lib.hid (HT.out.below E.h HT.out.lt)
      have HNE := Lib.hid (HN.out.trans (E.h.mono (by omega)))
      clear hov hx hf HS HB
      generalize E.w = w5 at *
      have hx := HTE.out.cell (lim_at (numTo s k) (k / 8) (by omega))
      have hf := HTE.out.frozen (k / 8)
      have hset := HTE.out.set (k / 8) (dig (numTo s (k + 1)) (k / 8) : Int)
      rw [HLP.out] at hset
      have HS := Lib.hid hset
      clear hset
      go_wp2_with fail
      go_roundw
      case rel => exact ⟨k + 1, by omega, by go_num, HS.out, HNE.out.setCell (p := ⟨w.heap.size, k / 8, none⟩) (Nat.le_refl _) _⟩
      case measure => simp [intOf]; omega
    · have hks : k = s.size := by omega
      subst hks
      rw [numTo_all] at HT
      have hg_0 := HT.out.cell (i := 0) (x := (dig (numOf s) 0 : Int)) rfl
      have hg_1 := HT.out.cell (i := 1) (x := (dig (numOf s) 1 : Int)) rfl
      have hg_2 := HT.out.cell (i := 2) (x := (dig (numOf s) 2 : Int)) rfl
      have hg_3 := HT.out.cell (i := 3) (x := (dig (numOf s) 3 : Int)) rfl
      have hgf_0 := HT.out.frozen 0
      have hgf_1 := HT.out.frozen 1
      have hgf_2 := HT.out.frozen 2
      have hgf_3 := HT.out.frozen 3
      have HS := Lib.hid (HT.out.fill rfl (numOf s))
      have HB := Lib.hid (below_fill (n := numOf s) (b := w.heap.size) HN.out (Nat.le_refl _))
      go_wp2_with fail
      generalize (((((wr).setCell ⟨w.heap.size, 0, none⟩ (.int .u64 (dig (numOf s) 0 : Int))).setCell ⟨w.heap.size, 1, none⟩ (.int .u64 (dig (numOf s) 1 : Int))).setCell ⟨w.heap.size, 2, none⟩ (.int .u64 (dig (numOf s) 2 : Int))).setCell ⟨w.heap.size, 3, none⟩ (.int .u64 (dig (numOf s) 3 : Int))) = w5 at *
      clear hg_0 hg_1 hg_2 hg_3
      have hg_0 := HS.out.cell (i := 0) (x := (dig (numOf s) 0 : Int)) rfl
      have hg_1 := HS.out.cell (i := 1) (x := (dig (numOf s) 1 : Int)) rfl
      have hg_2 := HS.out.cell (i := 2) (x := (dig (numOf s) 2 : Int)) rfl
      have hg_3 := HS.out.cell (i := 3) (x := (dig (numOf s) 3 : Int)) rfl
      simp [bodyPost, results, Try.results128, go_sem, hg_0, hg_1, hg_2, hg_3]
      exact ⟨rfl, HB.out⟩

end Go.Proofs.Ytipgjookfdkciaa

/- The group of a kind: its scalars reckon. No condition. -/
namespace Go.Proofs.Ytipgjookfdkciaa
open Go.RowKit

theorem addM (R : RingP) (ok : R.Ok) (rb off x y : Nat) (w : World) (hR : RingAt w rb off R) :
    Calls Try.prog 145 #[.pointer (some ⟨rb, off, none⟩), limbV (mont R.m x), limbV (mont R.m y)] w fun e w' => e = .returned (limbV (mont R.m (x + y))) ∧ Below w.heap.size w w' :=
  ringAdd_any R rb off _ _ _ (by
    have h1 := mont_lt ok.pos x
    have h2 := mont_lt ok.pos y
    have h3 := ok.top
    simp only [BB] at h3
    show _ < 18446744073709551616 ^ 4
    omega) ok.lt4 (mont_add R.m x y ok.pos).symm w hR

theorem subM (R : RingP) (ok : R.Ok) (rb off x y : Nat) (hy : y ≤ R.m) (w : World) (hR : RingAt w rb off R) :
    Calls Try.prog 133 #[.pointer (some ⟨rb, off, none⟩), limbV (mont R.m x), limbV (mont R.m y)] w fun e w' => e = .returned (limbV (mont R.m (x + (R.m - y)))) ∧ Below w.heap.size w w' :=
  ringSub_any R rb off _ _ _ (mont_lt ok.pos x) (mont_lt ok.pos y) ok.lt4 (mont_sub R.m x y hy ok.pos).symm w hR

theorem outM (R : RingP) (ok : R.Ok) (rb off x : Nat) (w : World) (hR : RingAt w rb off R) :
    Calls Try.prog 134 #[.pointer (some ⟨rb, off, none⟩), limbV (mont R.m x)] w fun e w' => e = .returned (limbV (x % R.m)) ∧ Below w.heap.size w w' := by
  rw [← mont_mod]
  exact out_any R ok rb off _ (Nat.mod_lt _ ok.pos) w hR

/-- A group's numbers. -/
structure GP where
  kind : Nat
  size : Nat
  p : RingP
  q : RingP

structure GroupAt (W : World) (gb : Nat) (G : GP) : Prop where
  lt : gb < W.heap.size
  kind : W.cell? ⟨gb, 0, none⟩ = some (.int .i64 G.kind)
  size : W.cell? ⟨gb, 1, none⟩ = some (.int .i64 G.size)
  p : RingAt W gb 2 G.p
  q : RingAt W gb 15 G.q

theorem GroupAt.below {W W' : World} {gb n : Nat} {G : GP} (h : GroupAt W gb G) (hb : Below n W W') (hn : gb < n) : GroupAt W' gb G :=
  ⟨Nat.lt_of_lt_of_le h.lt hb.size, by rw [hb.cell (p := ⟨gb, 0, none⟩) hn]; exact h.kind, by rw [hb.cell (p := ⟨gb, 1, none⟩) hn]; exact h.size, h.p.below hb hn, h.q.below hb hn⟩
theorem GroupAt.up {W W' : World} {gb : Nat} {G : GP} (h : GroupAt W gb G) (hb : Below W.heap.size W W') : GroupAt W' gb G := h.below hb h.lt

structure GP.Ok (G : GP) : Prop where
  p : G.p.Ok
  q : G.q.Ok
  twice : G.p.m = 2 * G.q.m + 1
  size_le : G.size ≤ 32
  fits : G.q.m ≤ 256 ^ G.size
  odd : 256 < G.q.m

/-- Scalars and elements as values. -/
def scV (G : GP) (x : Nat) : Value := limbV (mont G.q.m x)
def elV (G : GP) (y : Nat) : Value := limbV (mont G.p.m y)

theorem limbV_small (c : Nat) (hc : c < BB) : limbV c = .agg #[.int .u64 (c : Int), .int .u64 0, .int .u64 0, .int .u64 0] := by
  have h0 : dig c 0 = c := by simp only [dig, Nat.pow_zero, Nat.div_one]; exact Nat.mod_eq_of_lt hc
  have h : ∀ i, 0 < i → dig c i = 0 := fun i hi => by
    unfold dig
    have : BB ≤ BB ^ i := by
      have := Nat.pow_le_pow_right (n := BB) (by decide) (show 1 ≤ i from hi)
      rwa [Nat.pow_one] at this
    rw [Nat.div_eq_of_lt (Nat.lt_of_lt_of_le hc this)]
    rfl
  simp only [limbV, h0, h 1 (by omega), h 2 (by omega), h 3 (by omega)]
  rfl

theorem subZ (R : RingP) (ok : R.Ok) (rb off y : Nat) (hy : y ≤ R.m) (w : World) (hR : RingAt w rb off R) :
    Calls Try.prog 133 #[.pointer (some ⟨rb, off, none⟩), .agg #[.int .u64 0, .int .u64 0, .int .u64 0, .int .u64 0], limbV (mont R.m y)] w fun e w' => e = .returned (limbV (mont R.m (R.m - y))) ∧ Below w.heap.size w w' := by
  have h := subM R ok rb off 0 y hy w hR
  rw [mont_zero, limbV_small 0 (by decide), Nat.zero_add] at h
  exact h

theorem inSmall (R : RingP) (ok : R.Ok) (rb off c : Nat) (hc : c < BB) (w : World) (hR : RingAt w rb off R) :
    Calls Try.prog 130 #[.pointer (some ⟨rb, off, none⟩), .agg #[.int .u64 (c : Int), .int .u64 0, .int .u64 0, .int .u64 0]] w fun e w' => e = .returned (limbV (mont R.m c)) ∧ Below w.heap.size w w' := by
  have h := in_any R ok rb off c (Nat.lt_trans hc (by decide)) w hR
  rwa [limbV_small c hc] at h

theorem onceSmall (R : RingP) (ok : R.Ok) (rb off c : Nat) (hc : c < 256) (h256 : 256 < R.m) (w : World) (hR : RingAt w rb off R) :
    Calls Try.prog 181 #[.pointer (some ⟨rb, off, none⟩), .agg #[.int .u64 (c : Int), .int .u64 0, .int .u64 0, .int .u64 0]] w fun e w' => e = .returned (.agg #[.int .u64 (c : Int), .int .u64 0, .int .u64 0, .int .u64 0]) ∧ Below w.heap.size w w' := by
  have hb : c < BB := Nat.lt_trans hc (by decide)
  have h := once_any R rb off c c (Nat.lt_trans hb (by decide)) ok.lt4 (by rw [if_neg (by omega)]) w hR
  rwa [limbV_small c hb] at h

set_option maxHeartbeats 1000000 in
theorem gAdd_any (G : GP) (ok : G.Ok) (gb : Nat) (x y : Nat)  (w : World) (hG : GroupAt w gb G) :
    Calls Try.prog 75 #[.pointer (some ⟨gb, 0, none⟩), scV G x, scV G y] w fun e w' => e = .returned (scV G (x + y)) ∧ Below w.heap.size w w' := by
  have OK := Lib.hid ok
  clear ok
  unfold scV limbV
  go_enter Try.func75, Try.ntmps75
  go_wp2_with fail
  obtain ⟨W0, hW0⟩ : ∃ W9 : World, (((w.alloc (Obj.cells #[.int .u64 (dig (mont G.q.m (x)) 0 : Int), .int .u64 (dig (mont G.q.m (x)) 1 : Int), .int .u64 (dig (mont G.q.m (x)) 2 : Int), .int .u64 (dig (mont G.q.m (x)) 3 : Int)] 91)).alloc (Obj.cells #[.int .u64 (dig (mont G.q.m (y)) 0 : Int), .int .u64 (dig (mont G.q.m (y)) 1 : Int), .int .u64 (dig (mont G.q.m (y)) 2 : Int), .int .u64 (dig (mont G.q.m (y)) 3 : Int)] 91)).alloc (Obj.cells #[.int .u64 0, .int .u64 0, .int .u64 0, .int .u64 0] 91)) = W9 := ⟨_, rfl⟩
  rw [hW0]
  have hX0 : Blk W0 (w.heap.size) 91 (lim (mont G.q.m (x))) := by
    rw [← hW0]
    have h := (((Blk.new w 91 (lim (mont G.q.m (x))) _ rfl).alloc (Obj.cells #[.int .u64 (dig (mont G.q.m (y)) 0 : Int), .int .u64 (dig (mont G.q.m (y)) 1 : Int), .int .u64 (dig (mont G.q.m (y)) 2 : Int), .int .u64 (dig (mont G.q.m (y)) 3 : Int)] 91)).alloc (Obj.cells #[.int .u64 0, .int .u64 0, .int .u64 0, .int .u64 0] 91))
    exact h
  have hX1 : Blk W0 (w.heap.size + 1) 91 (lim (mont G.q.m (y))) := by
    rw [← hW0]
    have h := ((Blk.new (w.alloc (Obj.cells #[.int .u64 (dig (mont G.q.m (x)) 0 : Int), .int .u64 (dig (mont G.q.m (x)) 1 : Int), .int .u64 (dig (mont G.q.m (x)) 2 : Int), .int .u64 (dig (mont G.q.m (x)) 3 : Int)] 91)) 91 (lim (mont G.q.m (y))) _ rfl).alloc (Obj.cells #[.int .u64 0, .int .u64 0, .int .u64 0, .int .u64 0] 91))
    rw [World.size_alloc] at h
    exact h
  have hC : Blk W0 (w.heap.size + 2) 91 [0, 0, 0, 0] := by
    rw [← hW0]
    have h := (Blk.new ((w.alloc (Obj.cells #[.int .u64 (dig (mont G.q.m (x)) 0 : Int), .int .u64 (dig (mont G.q.m (x)) 1 : Int), .int .u64 (dig (mont G.q.m (x)) 2 : Int), .int .u64 (dig (mont G.q.m (x)) 3 : Int)] 91)).alloc (Obj.cells #[.int .u64 (dig (mont G.q.m (y)) 0 : Int), .int .u64 (dig (mont G.q.m (y)) 1 : Int), .int .u64 (dig (mont G.q.m (y)) 2 : Int), .int .u64 (dig (mont G.q.m (y)) 3 : Int)] 91)) 91 [0, 0, 0, 0] _ rfl)
    rw [World.size_alloc, World.size_alloc] at h
    exact h
  have hBW : Below w.heap.size w W0 := by rw [← hW0]; exact ((((Below.refl w.heap.size w).alloc (Nat.le_refl _) _).alloc (by simp) _).alloc (by simp; omega) _)
  clear hW0
  have hG0 := hG.up hBW
  have hgl := hG0.lt
  have hgk := hG0.kind
  have hgs := hG0.size
  have hpm_0 : W0.cell? ⟨gb, 2, none⟩ = some (.int .u64 (dig G.p.m 0 : Int)) := hG0.p.cell 0 _ rfl
  have hpm_1 : W0.cell? ⟨gb, 3, none⟩ = some (.int .u64 (dig G.p.m 1 : Int)) := hG0.p.cell 1 _ rfl
  have hpm_2 : W0.cell? ⟨gb, 4, none⟩ = some (.int .u64 (dig G.p.m 2 : Int)) := hG0.p.cell 2 _ rfl
  have hpm_3 : W0.cell? ⟨gb, 5, none⟩ = some (.int .u64 (dig G.p.m 3 : Int)) := hG0.p.cell 3 _ rfl
  have hpo_0 : W0.cell? ⟨gb, 6, none⟩ = some (.int .u64 (dig (mont G.p.m 1) 0 : Int)) := by rw [← OK.out.p.one']; exact hG0.p.cell 4 _ rfl
  have hpo_1 : W0.cell? ⟨gb, 7, none⟩ = some (.int .u64 (dig (mont G.p.m 1) 1 : Int)) := by rw [← OK.out.p.one']; exact hG0.p.cell 5 _ rfl
  have hpo_2 : W0.cell? ⟨gb, 8, none⟩ = some (.int .u64 (dig (mont G.p.m 1) 2 : Int)) := by rw [← OK.out.p.one']; exact hG0.p.cell 6 _ rfl
  have hpo_3 : W0.cell? ⟨gb, 9, none⟩ = some (.int .u64 (dig (mont G.p.m 1) 3 : Int)) := by rw [← OK.out.p.one']; exact hG0.p.cell 7 _ rfl
  have hqm_0 : W0.cell? ⟨gb, 15, none⟩ = some (.int .u64 (dig G.q.m 0 : Int)) := hG0.q.cell 0 _ rfl
  have hqm_1 : W0.cell? ⟨gb, 16, none⟩ = some (.int .u64 (dig G.q.m 1 : Int)) := hG0.q.cell 1 _ rfl
  have hqm_2 : W0.cell? ⟨gb, 17, none⟩ = some (.int .u64 (dig G.q.m 2 : Int)) := hG0.q.cell 2 _ rfl
  have hqm_3 : W0.cell? ⟨gb, 18, none⟩ = some (.int .u64 (dig G.q.m 3 : Int)) := hG0.q.cell 3 _ rfl
  have hqo_0 : W0.cell? ⟨gb, 19, none⟩ = some (.int .u64 (dig (mont G.q.m 1) 0 : Int)) := by rw [← OK.out.q.one']; exact hG0.q.cell 4 _ rfl
  have hqo_1 : W0.cell? ⟨gb, 20, none⟩ = some (.int .u64 (dig (mont G.q.m 1) 1 : Int)) := by rw [← OK.out.q.one']; exact hG0.q.cell 5 _ rfl
  have hqo_2 : W0.cell? ⟨gb, 21, none⟩ = some (.int .u64 (dig (mont G.q.m 1) 2 : Int)) := by rw [← OK.out.q.one']; exact hG0.q.cell 6 _ rfl
  have hqo_3 : W0.cell? ⟨gb, 22, none⟩ = some (.int .u64 (dig (mont G.q.m 1) 3 : Int)) := by rw [← OK.out.q.one']; exact hG0.q.cell 7 _ rfl
  have hx0_0 := hX0.cell (i := 0) (x := (dig (mont G.q.m (x)) 0 : Int)) rfl
  have hx0_1 := hX0.cell (i := 1) (x := (dig (mont G.q.m (x)) 1 : Int)) rfl
  have hx0_2 := hX0.cell (i := 2) (x := (dig (mont G.q.m (x)) 2 : Int)) rfl
  have hx0_3 := hX0.cell (i := 3) (x := (dig (mont G.q.m (x)) 3 : Int)) rfl
  have hl0 := hX0.lt
  have hx1_0 := hX1.cell (i := 0) (x := (dig (mont G.q.m (y)) 0 : Int)) rfl
  have hx1_1 := hX1.cell (i := 1) (x := (dig (mont G.q.m (y)) 1 : Int)) rfl
  have hx1_2 := hX1.cell (i := 2) (x := (dig (mont G.q.m (y)) 2 : Int)) rfl
  have hx1_3 := hX1.cell (i := 3) (x := (dig (mont G.q.m (y)) 3 : Int)) rfl
  have hl1 := hX1.lt
  have HC := Lib.hid hC
  have HBW := Lib.hid hBW
  clear hC hBW hG hX0 hX1
  refine wp_region_otail 9 (by kernel_rfl) (by kernel_rfl) ?_
  simp only [List.take_succ_cons, List.take_zero, List.drop_succ_cons, List.drop_zero]
  have hovg := fun (E : Over W0) o => E.cell (b := gb) o hgl
  have hov0 := fun (E : Over W0) o => E.cell (b := w.heap.size) o hl0
  have hov1 := fun (E : Over W0) o => E.cell (b := w.heap.size + 1) o hl1
  repeat (go_big_quiet_step (first | (go_at_call 145; exact calls_over (addM G.q OK.out.q gb 15 x y _ (hG0.up (Over.h _)).q))))
  all_goals (try unfold limbV)
  repeat (go_big_quiet_step (first | (go_at_call 145; exact calls_over (addM G.q OK.out.q gb 15 x y _ (hG0.up (Over.h _)).q))))
  all_goals (try unfold limbV)
  repeat (go_big_quiet_step (first | (go_at_call 145; exact calls_over (addM G.q OK.out.q gb 15 x y _ (hG0.up (Over.h _)).q))))
  refine wpQuiet_nil ?_
  rintro _ ⟨E, rfl⟩
  have HZ := Lib.hid (HC.out.below E.h HC.out.lt)
  have HBB := Lib.hid (below_up HBW.out E.h)
  clear hovg hov0 hov1
  generalize E.w = w3 at *
  have HB5 := Lib.hid (below_fill (n := mont G.q.m (x + y)) (b := w.heap.size + 2) HBB.out (by omega))
  have HS5 := Lib.hid (HZ.out.fill rfl (mont G.q.m (x + y)))
  have hz_0 := HZ.out.cell (i := 0) (x := 0) rfl
  have hz_1 := HZ.out.cell (i := 1) (x := 0) rfl
  have hz_2 := HZ.out.cell (i := 2) (x := 0) rfl
  have hz_3 := HZ.out.cell (i := 3) (x := 0) rfl
  have hzf_0 := HZ.out.frozen 0
  have hzf_1 := HZ.out.frozen 1
  have hzf_2 := HZ.out.frozen 2
  have hzf_3 := HZ.out.frozen 3
  go_wp2_with fail
  generalize (((((w3).setCell ⟨w.heap.size + 2, 0, none⟩ (.int .u64 (dig (mont G.q.m (x + y)) 0 : Int))).setCell ⟨w.heap.size + 2, 1, none⟩ (.int .u64 (dig (mont G.q.m (x + y)) 1 : Int))).setCell ⟨w.heap.size + 2, 2, none⟩ (.int .u64 (dig (mont G.q.m (x + y)) 2 : Int))).setCell ⟨w.heap.size + 2, 3, none⟩ (.int .u64 (dig (mont G.q.m (x + y)) 3 : Int))) = w5 at *
  clear hz_0 hz_1 hz_2 hz_3
  have hg_0 := HS5.out.cell (i := 0) (x := (dig (mont G.q.m (x + y)) 0 : Int)) rfl
  have hg_1 := HS5.out.cell (i := 1) (x := (dig (mont G.q.m (x + y)) 1 : Int)) rfl
  have hg_2 := HS5.out.cell (i := 2) (x := (dig (mont G.q.m (x + y)) 2 : Int)) rfl
  have hg_3 := HS5.out.cell (i := 3) (x := (dig (mont G.q.m (x + y)) 3 : Int)) rfl
  simp [bodyPost, results, Try.results75, go_sem, hg_0, hg_1, hg_2, hg_3]
  exact HB5.out

set_option maxHeartbeats 1000000 in
theorem gSub_any (G : GP) (ok : G.Ok) (gb : Nat) (x y : Nat) (hy : y ≤ G.q.m) (w : World) (hG : GroupAt w gb G) :
    Calls Try.prog 61 #[.pointer (some ⟨gb, 0, none⟩), scV G x, scV G y] w fun e w' => e = .returned (scV G (x + (G.q.m - y))) ∧ Below w.heap.size w w' := by
  have OK := Lib.hid ok
  clear ok
  unfold scV limbV
  go_enter Try.func61, Try.ntmps61
  go_wp2_with fail
  obtain ⟨W0, hW0⟩ : ∃ W9 : World, (((w.alloc (Obj.cells #[.int .u64 (dig (mont G.q.m (x)) 0 : Int), .int .u64 (dig (mont G.q.m (x)) 1 : Int), .int .u64 (dig (mont G.q.m (x)) 2 : Int), .int .u64 (dig (mont G.q.m (x)) 3 : Int)] 91)).alloc (Obj.cells #[.int .u64 (dig (mont G.q.m (y)) 0 : Int), .int .u64 (dig (mont G.q.m (y)) 1 : Int), .int .u64 (dig (mont G.q.m (y)) 2 : Int), .int .u64 (dig (mont G.q.m (y)) 3 : Int)] 91)).alloc (Obj.cells #[.int .u64 0, .int .u64 0, .int .u64 0, .int .u64 0] 91)) = W9 := ⟨_, rfl⟩
  rw [hW0]
  have hX0 : Blk W0 (w.heap.size) 91 (lim (mont G.q.m (x))) := by
    rw [← hW0]
    have h := (((Blk.new w 91 (lim (mont G.q.m (x))) _ rfl).alloc (Obj.cells #[.int .u64 (dig (mont G.q.m (y)) 0 : Int), .int .u64 (dig (mont G.q.m (y)) 1 : Int), .int .u64 (dig (mont G.q.m (y)) 2 : Int), .int .u64 (dig (mont G.q.m (y)) 3 : Int)] 91)).alloc (Obj.cells #[.int .u64 0, .int .u64 0, .int .u64 0, .int .u64 0] 91))
    exact h
  have hX1 : Blk W0 (w.heap.size + 1) 91 (lim (mont G.q.m (y))) := by
    rw [← hW0]
    have h := ((Blk.new (w.alloc (Obj.cells #[.int .u64 (dig (mont G.q.m (x)) 0 : Int), .int .u64 (dig (mont G.q.m (x)) 1 : Int), .int .u64 (dig (mont G.q.m (x)) 2 : Int), .int .u64 (dig (mont G.q.m (x)) 3 : Int)] 91)) 91 (lim (mont G.q.m (y))) _ rfl).alloc (Obj.cells #[.int .u64 0, .int .u64 0, .int .u64 0, .int .u64 0] 91))
    rw [World.size_alloc] at h
    exact h
  have hC : Blk W0 (w.heap.size + 2) 91 [0, 0, 0, 0] := by
    rw [← hW0]
    have h := (Blk.new ((w.alloc (Obj.cells #[.int .u64 (dig (mont G.q.m (x)) 0 : Int), .int .u64 (dig (mont G.q.m (x)) 1 : Int), .int .u64 (dig (mont G.q.m (x)) 2 : Int), .int .u64 (dig (mont G.q.m (x)) 3 : Int)] 91)).alloc (Obj.cells #[.int .u64 (dig (mont G.q.m (y)) 0 : Int), .int .u64 (dig (mont G.q.m (y)) 1 : Int), .int .u64 (dig (mont G.q.m (y)) 2 : Int), .int .u64 (dig (mont G.q.m (y)) 3 : Int)] 91)) 91 [0, 0, 0, 0] _ rfl)
    rw [World.size_alloc, World.size_alloc] at h
    exact h
  have hBW : Below w.heap.size w W0 := by rw [← hW0]; exact ((((Below.refl w.heap.size w).alloc (Nat.le_refl _) _).alloc (by simp) _).alloc (by simp; omega) _)
  clear hW0
  have hG0 := hG.up hBW
  have hgl := hG0.lt
  have hgk := hG0.kind
  have hgs := hG0.size
  have hpm_0 : W0.cell? ⟨gb, 2, none⟩ = some (.int .u64 (dig G.p.m 0 : Int)) := hG0.p.cell 0 _ rfl
  have hpm_1 : W0.cell? ⟨gb, 3, none⟩ = some (.int .u64 (dig G.p.m 1 : Int)) := hG0.p.cell 1 _ rfl
  have hpm_2 : W0.cell? ⟨gb, 4, none⟩ = some (.int .u64 (dig G.p.m 2 : Int)) := hG0.p.cell 2 _ rfl
  have hpm_3 : W0.cell? ⟨gb, 5, none⟩ = some (.int .u64 (dig G.p.m 3 : Int)) := hG0.p.cell 3 _ rfl
  have hpo_0 : W0.cell? ⟨gb, 6, none⟩ = some (.int .u64 (dig (mont G.p.m 1) 0 : Int)) := by rw [← OK.out.p.one']; exact hG0.p.cell 4 _ rfl
  have hpo_1 : W0.cell? ⟨gb, 7, none⟩ = some (.int .u64 (dig (mont G.p.m 1) 1 : Int)) := by rw [← OK.out.p.one']; exact hG0.p.cell 5 _ rfl
  have hpo_2 : W0.cell? ⟨gb, 8, none⟩ = some (.int .u64 (dig (mont G.p.m 1) 2 : Int)) := by rw [← OK.out.p.one']; exact hG0.p.cell 6 _ rfl
  have hpo_3 : W0.cell? ⟨gb, 9, none⟩ = some (.int .u64 (dig (mont G.p.m 1) 3 : Int)) := by rw [← OK.out.p.one']; exact hG0.p.cell 7 _ rfl
  have hqm_0 : W0.cell? ⟨gb, 15, none⟩ = some (.int .u64 (dig G.q.m 0 : Int)) := hG0.q.cell 0 _ rfl
  have hqm_1 : W0.cell? ⟨gb, 16, none⟩ = some (.int .u64 (dig G.q.m 1 : Int)) := hG0.q.cell 1 _ rfl
  have hqm_2 : W0.cell? ⟨gb, 17, none⟩ = some (.int .u64 (dig G.q.m 2 : Int)) := hG0.q.cell 2 _ rfl
  have hqm_3 : W0.cell? ⟨gb, 18, none⟩ = some (.int .u64 (dig G.q.m 3 : Int)) := hG0.q.cell 3 _ rfl
  have hqo_0 : W0.cell? ⟨gb, 19, none⟩ = some (.int .u64 (dig (mont G.q.m 1) 0 : Int)) := by rw [← OK.out.q.one']; exact hG0.q.cell 4 _ rfl
  have hqo_1 : W0.cell? ⟨gb, 20, none⟩ = some (.int .u64 (dig (mont G.q.m 1) 1 : Int)) := by rw [← OK.out.q.one']; exact hG0.q.cell 5 _ rfl
  have hqo_2 : W0.cell? ⟨gb, 21, none⟩ = some (.int .u64 (dig (mont G.q.m 1) 2 : Int)) := by rw [← OK.out.q.one']; exact hG0.q.cell 6 _ rfl
  have hqo_3 : W0.cell? ⟨gb, 22, none⟩ = some (.int .u64 (dig (mont G.q.m 1) 3 : Int)) := by rw [← OK.out.q.one']; exact hG0.q.cell 7 _ rfl
  have hx0_0 := hX0.cell (i := 0) (x := (dig (mont G.q.m (x)) 0 : Int)) rfl
  have hx0_1 := hX0.cell (i := 1) (x := (dig (mont G.q.m (x)) 1 : Int)) rfl
  have hx0_2 := hX0.cell (i := 2) (x := (dig (mont G.q.m (x)) 2 : Int)) rfl
  have hx0_3 := hX0.cell (i := 3) (x := (dig (mont G.q.m (x)) 3 : Int)) rfl
  have hl0 := hX0.lt
  have hx1_0 := hX1.cell (i := 0) (x := (dig (mont G.q.m (y)) 0 : Int)) rfl
  have hx1_1 := hX1.cell (i := 1) (x := (dig (mont G.q.m (y)) 1 : Int)) rfl
  have hx1_2 := hX1.cell (i := 2) (x := (dig (mont G.q.m (y)) 2 : Int)) rfl
  have hx1_3 := hX1.cell (i := 3) (x := (dig (mont G.q.m (y)) 3 : Int)) rfl
  have hl1 := hX1.lt
  have HC := Lib.hid hC
  have HBW := Lib.hid hBW
  clear hC hBW hG hX0 hX1
  refine wp_region_otail 9 (by kernel_rfl) (by kernel_rfl) ?_
  simp only [List.take_succ_cons, List.take_zero, List.drop_succ_cons, List.drop_zero]
  have hovg := fun (E : Over W0) o => E.cell (b := gb) o hgl
  have hov0 := fun (E : Over W0) o => E.cell (b := w.heap.size) o hl0
  have hov1 := fun (E : Over W0) o => E.cell (b := w.heap.size + 1) o hl1
  repeat (go_big_quiet_step (first | (go_at_call 133; exact calls_over (subM G.q OK.out.q gb 15 x y hy _ (hG0.up (Over.h _)).q))))
  all_goals (try unfold limbV)
  repeat (go_big_quiet_step (first | (go_at_call 133; exact calls_over (subM G.q OK.out.q gb 15 x y hy _ (hG0.up (Over.h _)).q))))
  all_goals (try unfold limbV)
  repeat (go_big_quiet_step (first | (go_at_call 133; exact calls_over (subM G.q OK.out.q gb 15 x y hy _ (hG0.up (Over.h _)).q))))
  refine wpQuiet_nil ?_
  rintro _ ⟨E, rfl⟩
  have HZ := Lib.hid (HC.out.below E.h HC.out.lt)
  have HBB := Lib.hid (below_up HBW.out E.h)
  clear hovg hov0 hov1
  generalize E.w = w3 at *
  have HB5 := Lib.hid (below_fill (n := mont G.q.m (x + (G.q.m - y))) (b := w.heap.size + 2) HBB.out (by omega))
  have HS5 := Lib.hid (HZ.out.fill rfl (mont G.q.m (x + (G.q.m - y))))
  have hz_0 := HZ.out.cell (i := 0) (x := 0) rfl
  have hz_1 := HZ.out.cell (i := 1) (x := 0) rfl
  have hz_2 := HZ.out.cell (i := 2) (x := 0) rfl
  have hz_3 := HZ.out.cell (i := 3) (x := 0) rfl
  have hzf_0 := HZ.out.frozen 0
  have hzf_1 := HZ.out.frozen 1
  have hzf_2 := HZ.out.frozen 2
  have hzf_3 := HZ.out.frozen 3
  go_wp2_with fail
  generalize (((((w3).setCell ⟨w.heap.size + 2, 0, none⟩ (.int .u64 (dig (mont G.q.m (x + (G.q.m - y))) 0 : Int))).setCell ⟨w.heap.size + 2, 1, none⟩ (.int .u64 (dig (mont G.q.m (x + (G.q.m - y))) 1 : Int))).setCell ⟨w.heap.size + 2, 2, none⟩ (.int .u64 (dig (mont G.q.m (x + (G.q.m - y))) 2 : Int))).setCell ⟨w.heap.size + 2, 3, none⟩ (.int .u64 (dig (mont G.q.m (x + (G.q.m - y))) 3 : Int))) = w5 at *
  clear hz_0 hz_1 hz_2 hz_3
  have hg_0 := HS5.out.cell (i := 0) (x := (dig (mont G.q.m (x + (G.q.m - y))) 0 : Int)) rfl
  have hg_1 := HS5.out.cell (i := 1) (x := (dig (mont G.q.m (x + (G.q.m - y))) 1 : Int)) rfl
  have hg_2 := HS5.out.cell (i := 2) (x := (dig (mont G.q.m (x + (G.q.m - y))) 2 : Int)) rfl
  have hg_3 := HS5.out.cell (i := 3) (x := (dig (mont G.q.m (x + (G.q.m - y))) 3 : Int)) rfl
  simp [bodyPost, results, Try.results61, go_sem, hg_0, hg_1, hg_2, hg_3]
  exact HB5.out

set_option maxHeartbeats 1000000 in
theorem gMul_any (G : GP) (ok : G.Ok) (gb : Nat) (x y : Nat)  (w : World) (hG : GroupAt w gb G) :
    Calls Try.prog 63 #[.pointer (some ⟨gb, 0, none⟩), scV G x, scV G y] w fun e w' => e = .returned (scV G (x * y)) ∧ Below w.heap.size w w' := by
  have OK := Lib.hid ok
  clear ok
  unfold scV limbV
  go_enter Try.func63, Try.ntmps63
  go_wp2_with fail
  obtain ⟨W0, hW0⟩ : ∃ W9 : World, (((w.alloc (Obj.cells #[.int .u64 (dig (mont G.q.m (x)) 0 : Int), .int .u64 (dig (mont G.q.m (x)) 1 : Int), .int .u64 (dig (mont G.q.m (x)) 2 : Int), .int .u64 (dig (mont G.q.m (x)) 3 : Int)] 91)).alloc (Obj.cells #[.int .u64 (dig (mont G.q.m (y)) 0 : Int), .int .u64 (dig (mont G.q.m (y)) 1 : Int), .int .u64 (dig (mont G.q.m (y)) 2 : Int), .int .u64 (dig (mont G.q.m (y)) 3 : Int)] 91)).alloc (Obj.cells #[.int .u64 0, .int .u64 0, .int .u64 0, .int .u64 0] 91)) = W9 := ⟨_, rfl⟩
  rw [hW0]
  have hX0 : Blk W0 (w.heap.size) 91 (lim (mont G.q.m (x))) := by
    rw [← hW0]
    have h := (((Blk.new w 91 (lim (mont G.q.m (x))) _ rfl).alloc (Obj.cells #[.int .u64 (dig (mont G.q.m (y)) 0 : Int), .int .u64 (dig (mont G.q.m (y)) 1 : Int), .int .u64 (dig (mont G.q.m (y)) 2 : Int), .int .u64 (dig (mont G.q.m (y)) 3 : Int)] 91)).alloc (Obj.cells #[.int .u64 0, .int .u64 0, .int .u64 0, .int .u64 0] 91))
    exact h
  have hX1 : Blk W0 (w.heap.size + 1) 91 (lim (mont G.q.m (y))) := by
    rw [← hW0]
    have h := ((Blk.new (w.alloc (Obj.cells #[.int .u64 (dig (mont G.q.m (x)) 0 : Int), .int .u64 (dig (mont G.q.m (x)) 1 : Int), .int .u64 (dig (mont G.q.m (x)) 2 : Int), .int .u64 (dig (mont G.q.m (x)) 3 : Int)] 91)) 91 (lim (mont G.q.m (y))) _ rfl).alloc (Obj.cells #[.int .u64 0, .int .u64 0, .int .u64 0, .int .u64 0] 91))
    rw [World.size_alloc] at h
    exact h
  have hC : Blk W0 (w.heap.size + 2) 91 [0, 0, 0, 0] := by
    rw [← hW0]
    have h := (Blk.new ((w.alloc (Obj.cells #[.int .u64 (dig (mont G.q.m (x)) 0 : Int), .int .u64 (dig (mont G.q.m (x)) 1 : Int), .int .u64 (dig (mont G.q.m (x)) 2 : Int), .int .u64 (dig (mont G.q.m (x)) 3 : Int)] 91)).alloc (Obj.cells #[.int .u64 (dig (mont G.q.m (y)) 0 : Int), .int .u64 (dig (mont G.q.m (y)) 1 : Int), .int .u64 (dig (mont G.q.m (y)) 2 : Int), .int .u64 (dig (mont G.q.m (y)) 3 : Int)] 91)) 91 [0, 0, 0, 0] _ rfl)
    rw [World.size_alloc, World.size_alloc] at h
    exact h
  have hBW : Below w.heap.size w W0 := by rw [← hW0]; exact ((((Below.refl w.heap.size w).alloc (Nat.le_refl _) _).alloc (by simp) _).alloc (by simp; omega) _)
  clear hW0
  have hG0 := hG.up hBW
  have hgl := hG0.lt
  have hgk := hG0.kind
  have hgs := hG0.size
  have hpm_0 : W0.cell? ⟨gb, 2, none⟩ = some (.int .u64 (dig G.p.m 0 : Int)) := hG0.p.cell 0 _ rfl
  have hpm_1 : W0.cell? ⟨gb, 3, none⟩ = some (.int .u64 (dig G.p.m 1 : Int)) := hG0.p.cell 1 _ rfl
  have hpm_2 : W0.cell? ⟨gb, 4, none⟩ = some (.int .u64 (dig G.p.m 2 : Int)) := hG0.p.cell 2 _ rfl
  have hpm_3 : W0.cell? ⟨gb, 5, none⟩ = some (.int .u64 (dig G.p.m 3 : Int)) := hG0.p.cell 3 _ rfl
  have hpo_0 : W0.cell? ⟨gb, 6, none⟩ = some (.int .u64 (dig (mont G.p.m 1) 0 : Int)) := by rw [← OK.out.p.one']; exact hG0.p.cell 4 _ rfl
  have hpo_1 : W0.cell? ⟨gb, 7, none⟩ = some (.int .u64 (dig (mont G.p.m 1) 1 : Int)) := by rw [← OK.out.p.one']; exact hG0.p.cell 5 _ rfl
  have hpo_2 : W0.cell? ⟨gb, 8, none⟩ = some (.int .u64 (dig (mont G.p.m 1) 2 : Int)) := by rw [← OK.out.p.one']; exact hG0.p.cell 6 _ rfl
  have hpo_3 : W0.cell? ⟨gb, 9, none⟩ = some (.int .u64 (dig (mont G.p.m 1) 3 : Int)) := by rw [← OK.out.p.one']; exact hG0.p.cell 7 _ rfl
  have hqm_0 : W0.cell? ⟨gb, 15, none⟩ = some (.int .u64 (dig G.q.m 0 : Int)) := hG0.q.cell 0 _ rfl
  have hqm_1 : W0.cell? ⟨gb, 16, none⟩ = some (.int .u64 (dig G.q.m 1 : Int)) := hG0.q.cell 1 _ rfl
  have hqm_2 : W0.cell? ⟨gb, 17, none⟩ = some (.int .u64 (dig G.q.m 2 : Int)) := hG0.q.cell 2 _ rfl
  have hqm_3 : W0.cell? ⟨gb, 18, none⟩ = some (.int .u64 (dig G.q.m 3 : Int)) := hG0.q.cell 3 _ rfl
  have hqo_0 : W0.cell? ⟨gb, 19, none⟩ = some (.int .u64 (dig (mont G.q.m 1) 0 : Int)) := by rw [← OK.out.q.one']; exact hG0.q.cell 4 _ rfl
  have hqo_1 : W0.cell? ⟨gb, 20, none⟩ = some (.int .u64 (dig (mont G.q.m 1) 1 : Int)) := by rw [← OK.out.q.one']; exact hG0.q.cell 5 _ rfl
  have hqo_2 : W0.cell? ⟨gb, 21, none⟩ = some (.int .u64 (dig (mont G.q.m 1) 2 : Int)) := by rw [← OK.out.q.one']; exact hG0.q.cell 6 _ rfl
  have hqo_3 : W0.cell? ⟨gb, 22, none⟩ = some (.int .u64 (dig (mont G.q.m 1) 3 : Int)) := by rw [← OK.out.q.one']; exact hG0.q.cell 7 _ rfl
  have hx0_0 := hX0.cell (i := 0) (x := (dig (mont G.q.m (x)) 0 : Int)) rfl
  have hx0_1 := hX0.cell (i := 1) (x := (dig (mont G.q.m (x)) 1 : Int)) rfl
  have hx0_2 := hX0.cell (i := 2) (x := (dig (mont G.q.m (x)) 2 : Int)) rfl
  have hx0_3 := hX0.cell (i := 3) (x := (dig (mont G.q.m (x)) 3 : Int)) rfl
  have hl0 := hX0.lt
  have hx1_0 := hX1.cell (i := 0) (x := (dig (mont G.q.m (y)) 0 : Int)) rfl
  have hx1_1 := hX1.cell (i := 1) (x := (dig (mont G.q.m (y)) 1 : Int)) rfl
  have hx1_2 := hX1.cell (i := 2) (x := (dig (mont G.q.m (y)) 2 : Int)) rfl
  have hx1_3 := hX1.cell (i := 3) (x := (dig (mont G.q.m (y)) 3 : Int)) rfl
  have hl1 := hX1.lt
  have HC := Lib.hid hC
  have HBW := Lib.hid hBW
  clear hC hBW hG hX0 hX1
  refine wp_region_otail 9 (by kernel_rfl) (by kernel_rfl) ?_
  simp only [List.take_succ_cons, List.take_zero, List.drop_succ_cons, List.drop_zero]
  have hovg := fun (E : Over W0) o => E.cell (b := gb) o hgl
  have hov0 := fun (E : Over W0) o => E.cell (b := w.heap.size) o hl0
  have hov1 := fun (E : Over W0) o => E.cell (b := w.heap.size + 1) o hl1
  repeat (go_big_quiet_step (first | (go_at_call 136; exact calls_over (mulM G.q OK.out.q gb 15 x y _ (hG0.up (Over.h _)).q))))
  all_goals (try unfold limbV)
  repeat (go_big_quiet_step (first | (go_at_call 136; exact calls_over (mulM G.q OK.out.q gb 15 x y _ (hG0.up (Over.h _)).q))))
  all_goals (try unfold limbV)
  repeat (go_big_quiet_step (first | (go_at_call 136; exact calls_over (mulM G.q OK.out.q gb 15 x y _ (hG0.up (Over.h _)).q))))
  refine wpQuiet_nil ?_
  rintro _ ⟨E, rfl⟩
  have HZ := Lib.hid (HC.out.below E.h HC.out.lt)
  have HBB := Lib.hid (below_up HBW.out E.h)
  clear hovg hov0 hov1
  generalize E.w = w3 at *
  have HB5 := Lib.hid (below_fill (n := mont G.q.m (x * y)) (b := w.heap.size + 2) HBB.out (by omega))
  have HS5 := Lib.hid (HZ.out.fill rfl (mont G.q.m (x * y)))
  have hz_0 := HZ.out.cell (i := 0) (x := 0) rfl
  have hz_1 := HZ.out.cell (i := 1) (x := 0) rfl
  have hz_2 := HZ.out.cell (i := 2) (x := 0) rfl
  have hz_3 := HZ.out.cell (i := 3) (x := 0) rfl
  have hzf_0 := HZ.out.frozen 0
  have hzf_1 := HZ.out.frozen 1
  have hzf_2 := HZ.out.frozen 2
  have hzf_3 := HZ.out.frozen 3
  go_wp2_with fail
  generalize (((((w3).setCell ⟨w.heap.size + 2, 0, none⟩ (.int .u64 (dig (mont G.q.m (x * y)) 0 : Int))).setCell ⟨w.heap.size + 2, 1, none⟩ (.int .u64 (dig (mont G.q.m (x * y)) 1 : Int))).setCell ⟨w.heap.size + 2, 2, none⟩ (.int .u64 (dig (mont G.q.m (x * y)) 2 : Int))).setCell ⟨w.heap.size + 2, 3, none⟩ (.int .u64 (dig (mont G.q.m (x * y)) 3 : Int))) = w5 at *
  clear hz_0 hz_1 hz_2 hz_3
  have hg_0 := HS5.out.cell (i := 0) (x := (dig (mont G.q.m (x * y)) 0 : Int)) rfl
  have hg_1 := HS5.out.cell (i := 1) (x := (dig (mont G.q.m (x * y)) 1 : Int)) rfl
  have hg_2 := HS5.out.cell (i := 2) (x := (dig (mont G.q.m (x * y)) 2 : Int)) rfl
  have hg_3 := HS5.out.cell (i := 3) (x := (dig (mont G.q.m (x * y)) 3 : Int)) rfl
  simp [bodyPost, results, Try.results63, go_sem, hg_0, hg_1, hg_2, hg_3]
  exact HB5.out

set_option maxHeartbeats 1000000 in
theorem gNeg_any (G : GP) (ok : G.Ok) (gb : Nat) (y : Nat) (hy : y ≤ G.q.m) (w : World) (hG : GroupAt w gb G) :
    Calls Try.prog 161 #[.pointer (some ⟨gb, 0, none⟩), scV G y] w fun e w' => e = .returned (scV G (G.q.m - y)) ∧ Below w.heap.size w w' := by
  have OK := Lib.hid ok
  clear ok
  unfold scV limbV
  go_enter Try.func161, Try.ntmps161
  go_wp2_with fail
  obtain ⟨W0, hW0⟩ : ∃ W9 : World, ((w.alloc (Obj.cells #[.int .u64 (dig (mont G.q.m (y)) 0 : Int), .int .u64 (dig (mont G.q.m (y)) 1 : Int), .int .u64 (dig (mont G.q.m (y)) 2 : Int), .int .u64 (dig (mont G.q.m (y)) 3 : Int)] 91)).alloc (Obj.cells #[.int .u64 0, .int .u64 0, .int .u64 0, .int .u64 0] 91)) = W9 := ⟨_, rfl⟩
  rw [hW0]
  have hX0 : Blk W0 (w.heap.size) 91 (lim (mont G.q.m (y))) := by
    rw [← hW0]
    have h := ((Blk.new w 91 (lim (mont G.q.m (y))) _ rfl).alloc (Obj.cells #[.int .u64 0, .int .u64 0, .int .u64 0, .int .u64 0] 91))
    exact h
  have hC : Blk W0 (w.heap.size + 1) 91 [0, 0, 0, 0] := by
    rw [← hW0]
    have h := (Blk.new (w.alloc (Obj.cells #[.int .u64 (dig (mont G.q.m (y)) 0 : Int), .int .u64 (dig (mont G.q.m (y)) 1 : Int), .int .u64 (dig (mont G.q.m (y)) 2 : Int), .int .u64 (dig (mont G.q.m (y)) 3 : Int)] 91)) 91 [0, 0, 0, 0] _ rfl)
    rw [World.size_alloc] at h
    exact h
  have hBW : Below w.heap.size w W0 := by rw [← hW0]; exact (((Below.refl w.heap.size w).alloc (Nat.le_refl _) _).alloc (by simp) _)
  clear hW0
  have hG0 := hG.up hBW
  have hgl := hG0.lt
  have hgk := hG0.kind
  have hgs := hG0.size
  have hpm_0 : W0.cell? ⟨gb, 2, none⟩ = some (.int .u64 (dig G.p.m 0 : Int)) := hG0.p.cell 0 _ rfl
  have hpm_1 : W0.cell? ⟨gb, 3, none⟩ = some (.int .u64 (dig G.p.m 1 : Int)) := hG0.p.cell 1 _ rfl
  have hpm_2 : W0.cell? ⟨gb, 4, none⟩ = some (.int .u64 (dig G.p.m 2 : Int)) := hG0.p.cell 2 _ rfl
  have hpm_3 : W0.cell? ⟨gb, 5, none⟩ = some (.int .u64 (dig G.p.m 3 : Int)) := hG0.p.cell 3 _ rfl
  have hpo_0 : W0.cell? ⟨gb, 6, none⟩ = some (.int .u64 (dig (mont G.p.m 1) 0 : Int)) := by rw [← OK.out.p.one']; exact hG0.p.cell 4 _ rfl
  have hpo_1 : W0.cell? ⟨gb, 7, none⟩ = some (.int .u64 (dig (mont G.p.m 1) 1 : Int)) := by rw [← OK.out.p.one']; exact hG0.p.cell 5 _ rfl
  have hpo_2 : W0.cell? ⟨gb, 8, none⟩ = some (.int .u64 (dig (mont G.p.m 1) 2 : Int)) := by rw [← OK.out.p.one']; exact hG0.p.cell 6 _ rfl
  have hpo_3 : W0.cell? ⟨gb, 9, none⟩ = some (.int .u64 (dig (mont G.p.m 1) 3 : Int)) := by rw [← OK.out.p.one']; exact hG0.p.cell 7 _ rfl
  have hqm_0 : W0.cell? ⟨gb, 15, none⟩ = some (.int .u64 (dig G.q.m 0 : Int)) := hG0.q.cell 0 _ rfl
  have hqm_1 : W0.cell? ⟨gb, 16, none⟩ = some (.int .u64 (dig G.q.m 1 : Int)) := hG0.q.cell 1 _ rfl
  have hqm_2 : W0.cell? ⟨gb, 17, none⟩ = some (.int .u64 (dig G.q.m 2 : Int)) := hG0.q.cell 2 _ rfl
  have hqm_3 : W0.cell? ⟨gb, 18, none⟩ = some (.int .u64 (dig G.q.m 3 : Int)) := hG0.q.cell 3 _ rfl
  have hqo_0 : W0.cell? ⟨gb, 19, none⟩ = some (.int .u64 (dig (mont G.q.m 1) 0 : Int)) := by rw [← OK.out.q.one']; exact hG0.q.cell 4 _ rfl
  have hqo_1 : W0.cell? ⟨gb, 20, none⟩ = some (.int .u64 (dig (mont G.q.m 1) 1 : Int)) := by rw [← OK.out.q.one']; exact hG0.q.cell 5 _ rfl
  have hqo_2 : W0.cell? ⟨gb, 21, none⟩ = some (.int .u64 (dig (mont G.q.m 1) 2 : Int)) := by rw [← OK.out.q.one']; exact hG0.q.cell 6 _ rfl
  have hqo_3 : W0.cell? ⟨gb, 22, none⟩ = some (.int .u64 (dig (mont G.q.m 1) 3 : Int)) := by rw [← OK.out.q.one']; exact hG0.q.cell 7 _ rfl
  have hx0_0 := hX0.cell (i := 0) (x := (dig (mont G.q.m (y)) 0 : Int)) rfl
  have hx0_1 := hX0.cell (i := 1) (x := (dig (mont G.q.m (y)) 1 : Int)) rfl
  have hx0_2 := hX0.cell (i := 2) (x := (dig (mont G.q.m (y)) 2 : Int)) rfl
  have hx0_3 := hX0.cell (i := 3) (x := (dig (mont G.q.m (y)) 3 : Int)) rfl
  have hl0 := hX0.lt
  have HC := Lib.hid hC
  have HBW := Lib.hid hBW
  clear hC hBW hG hX0
  refine wp_region_otail 8 (by kernel_rfl) (by kernel_rfl) ?_
  simp only [List.take_succ_cons, List.take_zero, List.drop_succ_cons, List.drop_zero]
  have hovg := fun (E : Over W0) o => E.cell (b := gb) o hgl
  have hov0 := fun (E : Over W0) o => E.cell (b := w.heap.size) o hl0
  repeat (go_big_quiet_step (first | (go_at_call 133; exact calls_over (subZ G.q OK.out.q gb 15 y hy _ (hG0.up (Over.h _)).q))))
  all_goals (try unfold limbV)
  repeat (go_big_quiet_step (first | (go_at_call 133; exact calls_over (subZ G.q OK.out.q gb 15 y hy _ (hG0.up (Over.h _)).q))))
  all_goals (try unfold limbV)
  repeat (go_big_quiet_step (first | (go_at_call 133; exact calls_over (subZ G.q OK.out.q gb 15 y hy _ (hG0.up (Over.h _)).q))))
  refine wpQuiet_nil ?_
  rintro _ ⟨E, rfl⟩
  have HZ := Lib.hid (HC.out.below E.h HC.out.lt)
  have HBB := Lib.hid (below_up HBW.out E.h)
  clear hovg hov0
  generalize E.w = w3 at *
  have HB5 := Lib.hid (below_fill (n := mont G.q.m (G.q.m - y)) (b := w.heap.size + 1) HBB.out (by omega))
  have HS5 := Lib.hid (HZ.out.fill rfl (mont G.q.m (G.q.m - y)))
  have hz_0 := HZ.out.cell (i := 0) (x := 0) rfl
  have hz_1 := HZ.out.cell (i := 1) (x := 0) rfl
  have hz_2 := HZ.out.cell (i := 2) (x := 0) rfl
  have hz_3 := HZ.out.cell (i := 3) (x := 0) rfl
  have hzf_0 := HZ.out.frozen 0
  have hzf_1 := HZ.out.frozen 1
  have hzf_2 := HZ.out.frozen 2
  have hzf_3 := HZ.out.frozen 3
  go_wp2_with fail
  generalize (((((w3).setCell ⟨w.heap.size + 1, 0, none⟩ (.int .u64 (dig (mont G.q.m (G.q.m - y)) 0 : Int))).setCell ⟨w.heap.size + 1, 1, none⟩ (.int .u64 (dig (mont G.q.m (G.q.m - y)) 1 : Int))).setCell ⟨w.heap.size + 1, 2, none⟩ (.int .u64 (dig (mont G.q.m (G.q.m - y)) 2 : Int))).setCell ⟨w.heap.size + 1, 3, none⟩ (.int .u64 (dig (mont G.q.m (G.q.m - y)) 3 : Int))) = w5 at *
  clear hz_0 hz_1 hz_2 hz_3
  have hg_0 := HS5.out.cell (i := 0) (x := (dig (mont G.q.m (G.q.m - y)) 0 : Int)) rfl
  have hg_1 := HS5.out.cell (i := 1) (x := (dig (mont G.q.m (G.q.m - y)) 1 : Int)) rfl
  have hg_2 := HS5.out.cell (i := 2) (x := (dig (mont G.q.m (G.q.m - y)) 2 : Int)) rfl
  have hg_3 := HS5.out.cell (i := 3) (x := (dig (mont G.q.m (G.q.m - y)) 3 : Int)) rfl
  simp [bodyPost, results, Try.results161, go_sem, hg_0, hg_1, hg_2, hg_3]
  exact HB5.out

set_option maxHeartbeats 1000000 in
theorem gPlusOne_any (G : GP) (ok : G.Ok) (gb : Nat) (x : Nat)  (w : World) (hG : GroupAt w gb G) :
    Calls Try.prog 163 #[scV G x, .pointer (some ⟨gb, 0, none⟩)] w fun e w' => e = .returned (scV G (x + 1)) ∧ Below w.heap.size w w' := by
  have OK := Lib.hid ok
  clear ok
  unfold scV limbV
  go_enter Try.func163, Try.ntmps163
  go_wp2_with fail
  obtain ⟨W0, hW0⟩ : ∃ W9 : World, ((w.alloc (Obj.cells #[.int .u64 (dig (mont G.q.m (x)) 0 : Int), .int .u64 (dig (mont G.q.m (x)) 1 : Int), .int .u64 (dig (mont G.q.m (x)) 2 : Int), .int .u64 (dig (mont G.q.m (x)) 3 : Int)] 91)).alloc (Obj.cells #[.int .u64 0, .int .u64 0, .int .u64 0, .int .u64 0] 91)) = W9 := ⟨_, rfl⟩
  rw [hW0]
  have hX0 : Blk W0 (w.heap.size) 91 (lim (mont G.q.m (x))) := by
    rw [← hW0]
    have h := ((Blk.new w 91 (lim (mont G.q.m (x))) _ rfl).alloc (Obj.cells #[.int .u64 0, .int .u64 0, .int .u64 0, .int .u64 0] 91))
    exact h
  have hC : Blk W0 (w.heap.size + 1) 91 [0, 0, 0, 0] := by
    rw [← hW0]
    have h := (Blk.new (w.alloc (Obj.cells #[.int .u64 (dig (mont G.q.m (x)) 0 : Int), .int .u64 (dig (mont G.q.m (x)) 1 : Int), .int .u64 (dig (mont G.q.m (x)) 2 : Int), .int .u64 (dig (mont G.q.m (x)) 3 : Int)] 91)) 91 [0, 0, 0, 0] _ rfl)
    rw [World.size_alloc] at h
    exact h
  have hBW : Below w.heap.size w W0 := by rw [← hW0]; exact (((Below.refl w.heap.size w).alloc (Nat.le_refl _) _).alloc (by simp) _)
  clear hW0
  have hG0 := hG.up hBW
  have hgl := hG0.lt
  have hgk := hG0.kind
  have hgs := hG0.size
  have hpm_0 : W0.cell? ⟨gb, 2, none⟩ = some (.int .u64 (dig G.p.m 0 : Int)) := hG0.p.cell 0 _ rfl
  have hpm_1 : W0.cell? ⟨gb, 3, none⟩ = some (.int .u64 (dig G.p.m 1 : Int)) := hG0.p.cell 1 _ rfl
  have hpm_2 : W0.cell? ⟨gb, 4, none⟩ = some (.int .u64 (dig G.p.m 2 : Int)) := hG0.p.cell 2 _ rfl
  have hpm_3 : W0.cell? ⟨gb, 5, none⟩ = some (.int .u64 (dig G.p.m 3 : Int)) := hG0.p.cell 3 _ rfl
  have hpo_0 : W0.cell? ⟨gb, 6, none⟩ = some (.int .u64 (dig (mont G.p.m 1) 0 : Int)) := by rw [← OK.out.p.one']; exact hG0.p.cell 4 _ rfl
  have hpo_1 : W0.cell? ⟨gb, 7, none⟩ = some (.int .u64 (dig (mont G.p.m 1) 1 : Int)) := by rw [← OK.out.p.one']; exact hG0.p.cell 5 _ rfl
  have hpo_2 : W0.cell? ⟨gb, 8, none⟩ = some (.int .u64 (dig (mont G.p.m 1) 2 : Int)) := by rw [← OK.out.p.one']; exact hG0.p.cell 6 _ rfl
  have hpo_3 : W0.cell? ⟨gb, 9, none⟩ = some (.int .u64 (dig (mont G.p.m 1) 3 : Int)) := by rw [← OK.out.p.one']; exact hG0.p.cell 7 _ rfl
  have hqm_0 : W0.cell? ⟨gb, 15, none⟩ = some (.int .u64 (dig G.q.m 0 : Int)) := hG0.q.cell 0 _ rfl
  have hqm_1 : W0.cell? ⟨gb, 16, none⟩ = some (.int .u64 (dig G.q.m 1 : Int)) := hG0.q.cell 1 _ rfl
  have hqm_2 : W0.cell? ⟨gb, 17, none⟩ = some (.int .u64 (dig G.q.m 2 : Int)) := hG0.q.cell 2 _ rfl
  have hqm_3 : W0.cell? ⟨gb, 18, none⟩ = some (.int .u64 (dig G.q.m 3 : Int)) := hG0.q.cell 3 _ rfl
  have hqo_0 : W0.cell? ⟨gb, 19, none⟩ = some (.int .u64 (dig (mont G.q.m 1) 0 : Int)) := by rw [← OK.out.q.one']; exact hG0.q.cell 4 _ rfl
  have hqo_1 : W0.cell? ⟨gb, 20, none⟩ = some (.int .u64 (dig (mont G.q.m 1) 1 : Int)) := by rw [← OK.out.q.one']; exact hG0.q.cell 5 _ rfl
  have hqo_2 : W0.cell? ⟨gb, 21, none⟩ = some (.int .u64 (dig (mont G.q.m 1) 2 : Int)) := by rw [← OK.out.q.one']; exact hG0.q.cell 6 _ rfl
  have hqo_3 : W0.cell? ⟨gb, 22, none⟩ = some (.int .u64 (dig (mont G.q.m 1) 3 : Int)) := by rw [← OK.out.q.one']; exact hG0.q.cell 7 _ rfl
  have hx0_0 := hX0.cell (i := 0) (x := (dig (mont G.q.m (x)) 0 : Int)) rfl
  have hx0_1 := hX0.cell (i := 1) (x := (dig (mont G.q.m (x)) 1 : Int)) rfl
  have hx0_2 := hX0.cell (i := 2) (x := (dig (mont G.q.m (x)) 2 : Int)) rfl
  have hx0_3 := hX0.cell (i := 3) (x := (dig (mont G.q.m (x)) 3 : Int)) rfl
  have hl0 := hX0.lt
  have HC := Lib.hid hC
  have HBW := Lib.hid hBW
  clear hC hBW hG hX0
  refine wp_region_otail 12 (by kernel_rfl) (by kernel_rfl) ?_
  simp only [List.take_succ_cons, List.take_zero, List.drop_succ_cons, List.drop_zero]
  have hovg := fun (E : Over W0) o => E.cell (b := gb) o hgl
  have hov0 := fun (E : Over W0) o => E.cell (b := w.heap.size) o hl0
  repeat (go_big_quiet_step (first | (go_at_call 145; exact calls_over (addM G.q OK.out.q gb 15 x 1 _ (hG0.up (Over.h _)).q))))
  all_goals (try unfold limbV)
  repeat (go_big_quiet_step (first | (go_at_call 145; exact calls_over (addM G.q OK.out.q gb 15 x 1 _ (hG0.up (Over.h _)).q))))
  all_goals (try unfold limbV)
  repeat (go_big_quiet_step (first | (go_at_call 145; exact calls_over (addM G.q OK.out.q gb 15 x 1 _ (hG0.up (Over.h _)).q))))
  refine wpQuiet_nil ?_
  rintro _ ⟨E, rfl⟩
  have HZ := Lib.hid (HC.out.below E.h HC.out.lt)
  have HBB := Lib.hid (below_up HBW.out E.h)
  clear hovg hov0
  generalize E.w = w3 at *
  have HB5 := Lib.hid (below_fill (n := mont G.q.m (x + 1)) (b := w.heap.size + 1) HBB.out (by omega))
  have HS5 := Lib.hid (HZ.out.fill rfl (mont G.q.m (x + 1)))
  have hz_0 := HZ.out.cell (i := 0) (x := 0) rfl
  have hz_1 := HZ.out.cell (i := 1) (x := 0) rfl
  have hz_2 := HZ.out.cell (i := 2) (x := 0) rfl
  have hz_3 := HZ.out.cell (i := 3) (x := 0) rfl
  have hzf_0 := HZ.out.frozen 0
  have hzf_1 := HZ.out.frozen 1
  have hzf_2 := HZ.out.frozen 2
  have hzf_3 := HZ.out.frozen 3
  go_wp2_with fail
  generalize (((((w3).setCell ⟨w.heap.size + 1, 0, none⟩ (.int .u64 (dig (mont G.q.m (x + 1)) 0 : Int))).setCell ⟨w.heap.size + 1, 1, none⟩ (.int .u64 (dig (mont G.q.m (x + 1)) 1 : Int))).setCell ⟨w.heap.size + 1, 2, none⟩ (.int .u64 (dig (mont G.q.m (x + 1)) 2 : Int))).setCell ⟨w.heap.size + 1, 3, none⟩ (.int .u64 (dig (mont G.q.m (x + 1)) 3 : Int))) = w5 at *
  clear hz_0 hz_1 hz_2 hz_3
  have hg_0 := HS5.out.cell (i := 0) (x := (dig (mont G.q.m (x + 1)) 0 : Int)) rfl
  have hg_1 := HS5.out.cell (i := 1) (x := (dig (mont G.q.m (x + 1)) 1 : Int)) rfl
  have hg_2 := HS5.out.cell (i := 2) (x := (dig (mont G.q.m (x + 1)) 2 : Int)) rfl
  have hg_3 := HS5.out.cell (i := 3) (x := (dig (mont G.q.m (x + 1)) 3 : Int)) rfl
  simp [bodyPost, results, Try.results163, go_sem, hg_0, hg_1, hg_2, hg_3]
  exact HB5.out

set_option maxHeartbeats 1000000 in
theorem gTimes_any (G : GP) (ok : G.Ok) (gb : Nat) (x y : Nat)  (w : World) (hG : GroupAt w gb G) :
    Calls Try.prog 108 #[.pointer (some ⟨gb, 0, none⟩), elV G x, elV G y] w fun e w' => e = .returned (elV G (x * y)) ∧ Below w.heap.size w w' := by
  have OK := Lib.hid ok
  clear ok
  unfold elV limbV
  go_enter Try.func108, Try.ntmps108
  go_wp2_with fail
  obtain ⟨W0, hW0⟩ : ∃ W9 : World, (((w.alloc (Obj.cells #[.int .u64 (dig (mont G.p.m (x)) 0 : Int), .int .u64 (dig (mont G.p.m (x)) 1 : Int), .int .u64 (dig (mont G.p.m (x)) 2 : Int), .int .u64 (dig (mont G.p.m (x)) 3 : Int)] 111)).alloc (Obj.cells #[.int .u64 (dig (mont G.p.m (y)) 0 : Int), .int .u64 (dig (mont G.p.m (y)) 1 : Int), .int .u64 (dig (mont G.p.m (y)) 2 : Int), .int .u64 (dig (mont G.p.m (y)) 3 : Int)] 111)).alloc (Obj.cells #[.int .u64 0, .int .u64 0, .int .u64 0, .int .u64 0] 111)) = W9 := ⟨_, rfl⟩
  rw [hW0]
  have hX0 : Blk W0 (w.heap.size) 111 (lim (mont G.p.m (x))) := by
    rw [← hW0]
    have h := (((Blk.new w 111 (lim (mont G.p.m (x))) _ rfl).alloc (Obj.cells #[.int .u64 (dig (mont G.p.m (y)) 0 : Int), .int .u64 (dig (mont G.p.m (y)) 1 : Int), .int .u64 (dig (mont G.p.m (y)) 2 : Int), .int .u64 (dig (mont G.p.m (y)) 3 : Int)] 111)).alloc (Obj.cells #[.int .u64 0, .int .u64 0, .int .u64 0, .int .u64 0] 111))
    exact h
  have hX1 : Blk W0 (w.heap.size + 1) 111 (lim (mont G.p.m (y))) := by
    rw [← hW0]
    have h := ((Blk.new (w.alloc (Obj.cells #[.int .u64 (dig (mont G.p.m (x)) 0 : Int), .int .u64 (dig (mont G.p.m (x)) 1 : Int), .int .u64 (dig (mont G.p.m (x)) 2 : Int), .int .u64 (dig (mont G.p.m (x)) 3 : Int)] 111)) 111 (lim (mont G.p.m (y))) _ rfl).alloc (Obj.cells #[.int .u64 0, .int .u64 0, .int .u64 0, .int .u64 0] 111))
    rw [World.size_alloc] at h
    exact h
  have hC : Blk W0 (w.heap.size + 2) 111 [0, 0, 0, 0] := by
    rw [← hW0]
    have h := (Blk.new ((w.alloc (Obj.cells #[.int .u64 (dig (mont G.p.m (x)) 0 : Int), .int .u64 (dig (mont G.p.m (x)) 1 : Int), .int .u64 (dig (mont G.p.m (x)) 2 : Int), .int .u64 (dig (mont G.p.m (x)) 3 : Int)] 111)).alloc (Obj.cells #[.int .u64 (dig (mont G.p.m (y)) 0 : Int), .int .u64 (dig (mont G.p.m (y)) 1 : Int), .int .u64 (dig (mont G.p.m (y)) 2 : Int), .int .u64 (dig (mont G.p.m (y)) 3 : Int)] 111)) 111 [0, 0, 0, 0] _ rfl)
    rw [World.size_alloc, World.size_alloc] at h
    exact h
  have hBW : Below w.heap.size w W0 := by rw [← hW0]; exact ((((Below.refl w.heap.size w).alloc (Nat.le_refl _) _).alloc (by simp) _).alloc (by simp; omega) _)
  clear hW0
  have hG0 := hG.up hBW
  have hgl := hG0.lt
  have hgk := hG0.kind
  have hgs := hG0.size
  have hpm_0 : W0.cell? ⟨gb, 2, none⟩ = some (.int .u64 (dig G.p.m 0 : Int)) := hG0.p.cell 0 _ rfl
  have hpm_1 : W0.cell? ⟨gb, 3, none⟩ = some (.int .u64 (dig G.p.m 1 : Int)) := hG0.p.cell 1 _ rfl
  have hpm_2 : W0.cell? ⟨gb, 4, none⟩ = some (.int .u64 (dig G.p.m 2 : Int)) := hG0.p.cell 2 _ rfl
  have hpm_3 : W0.cell? ⟨gb, 5, none⟩ = some (.int .u64 (dig G.p.m 3 : Int)) := hG0.p.cell 3 _ rfl
  have hpo_0 : W0.cell? ⟨gb, 6, none⟩ = some (.int .u64 (dig (mont G.p.m 1) 0 : Int)) := by rw [← OK.out.p.one']; exact hG0.p.cell 4 _ rfl
  have hpo_1 : W0.cell? ⟨gb, 7, none⟩ = some (.int .u64 (dig (mont G.p.m 1) 1 : Int)) := by rw [← OK.out.p.one']; exact hG0.p.cell 5 _ rfl
  have hpo_2 : W0.cell? ⟨gb, 8, none⟩ = some (.int .u64 (dig (mont G.p.m 1) 2 : Int)) := by rw [← OK.out.p.one']; exact hG0.p.cell 6 _ rfl
  have hpo_3 : W0.cell? ⟨gb, 9, none⟩ = some (.int .u64 (dig (mont G.p.m 1) 3 : Int)) := by rw [← OK.out.p.one']; exact hG0.p.cell 7 _ rfl
  have hqm_0 : W0.cell? ⟨gb, 15, none⟩ = some (.int .u64 (dig G.q.m 0 : Int)) := hG0.q.cell 0 _ rfl
  have hqm_1 : W0.cell? ⟨gb, 16, none⟩ = some (.int .u64 (dig G.q.m 1 : Int)) := hG0.q.cell 1 _ rfl
  have hqm_2 : W0.cell? ⟨gb, 17, none⟩ = some (.int .u64 (dig G.q.m 2 : Int)) := hG0.q.cell 2 _ rfl
  have hqm_3 : W0.cell? ⟨gb, 18, none⟩ = some (.int .u64 (dig G.q.m 3 : Int)) := hG0.q.cell 3 _ rfl
  have hqo_0 : W0.cell? ⟨gb, 19, none⟩ = some (.int .u64 (dig (mont G.q.m 1) 0 : Int)) := by rw [← OK.out.q.one']; exact hG0.q.cell 4 _ rfl
  have hqo_1 : W0.cell? ⟨gb, 20, none⟩ = some (.int .u64 (dig (mont G.q.m 1) 1 : Int)) := by rw [← OK.out.q.one']; exact hG0.q.cell 5 _ rfl
  have hqo_2 : W0.cell? ⟨gb, 21, none⟩ = some (.int .u64 (dig (mont G.q.m 1) 2 : Int)) := by rw [← OK.out.q.one']; exact hG0.q.cell 6 _ rfl
  have hqo_3 : W0.cell? ⟨gb, 22, none⟩ = some (.int .u64 (dig (mont G.q.m 1) 3 : Int)) := by rw [← OK.out.q.one']; exact hG0.q.cell 7 _ rfl
  have hx0_0 := hX0.cell (i := 0) (x := (dig (mont G.p.m (x)) 0 : Int)) rfl
  have hx0_1 := hX0.cell (i := 1) (x := (dig (mont G.p.m (x)) 1 : Int)) rfl
  have hx0_2 := hX0.cell (i := 2) (x := (dig (mont G.p.m (x)) 2 : Int)) rfl
  have hx0_3 := hX0.cell (i := 3) (x := (dig (mont G.p.m (x)) 3 : Int)) rfl
  have hl0 := hX0.lt
  have hx1_0 := hX1.cell (i := 0) (x := (dig (mont G.p.m (y)) 0 : Int)) rfl
  have hx1_1 := hX1.cell (i := 1) (x := (dig (mont G.p.m (y)) 1 : Int)) rfl
  have hx1_2 := hX1.cell (i := 2) (x := (dig (mont G.p.m (y)) 2 : Int)) rfl
  have hx1_3 := hX1.cell (i := 3) (x := (dig (mont G.p.m (y)) 3 : Int)) rfl
  have hl1 := hX1.lt
  have HC := Lib.hid hC
  have HBW := Lib.hid hBW
  clear hC hBW hG hX0 hX1
  refine wp_region_otail 9 (by kernel_rfl) (by kernel_rfl) ?_
  simp only [List.take_succ_cons, List.take_zero, List.drop_succ_cons, List.drop_zero]
  have hovg := fun (E : Over W0) o => E.cell (b := gb) o hgl
  have hov0 := fun (E : Over W0) o => E.cell (b := w.heap.size) o hl0
  have hov1 := fun (E : Over W0) o => E.cell (b := w.heap.size + 1) o hl1
  repeat (go_big_quiet_step (first | (go_at_call 136; exact calls_over (mulM G.p OK.out.p gb 2 x y _ (hG0.up (Over.h _)).p))))
  all_goals (try unfold limbV)
  repeat (go_big_quiet_step (first | (go_at_call 136; exact calls_over (mulM G.p OK.out.p gb 2 x y _ (hG0.up (Over.h _)).p))))
  all_goals (try unfold limbV)
  repeat (go_big_quiet_step (first | (go_at_call 136; exact calls_over (mulM G.p OK.out.p gb 2 x y _ (hG0.up (Over.h _)).p))))
  refine wpQuiet_nil ?_
  rintro _ ⟨E, rfl⟩
  have HZ := Lib.hid (HC.out.below E.h HC.out.lt)
  have HBB := Lib.hid (below_up HBW.out E.h)
  clear hovg hov0 hov1
  generalize E.w = w3 at *
  have HB5 := Lib.hid (below_fill (n := mont G.p.m (x * y)) (b := w.heap.size + 2) HBB.out (by omega))
  have HS5 := Lib.hid (HZ.out.fill rfl (mont G.p.m (x * y)))
  have hz_0 := HZ.out.cell (i := 0) (x := 0) rfl
  have hz_1 := HZ.out.cell (i := 1) (x := 0) rfl
  have hz_2 := HZ.out.cell (i := 2) (x := 0) rfl
  have hz_3 := HZ.out.cell (i := 3) (x := 0) rfl
  have hzf_0 := HZ.out.frozen 0
  have hzf_1 := HZ.out.frozen 1
  have hzf_2 := HZ.out.frozen 2
  have hzf_3 := HZ.out.frozen 3
  go_wp2_with fail
  generalize (((((w3).setCell ⟨w.heap.size + 2, 0, none⟩ (.int .u64 (dig (mont G.p.m (x * y)) 0 : Int))).setCell ⟨w.heap.size + 2, 1, none⟩ (.int .u64 (dig (mont G.p.m (x * y)) 1 : Int))).setCell ⟨w.heap.size + 2, 2, none⟩ (.int .u64 (dig (mont G.p.m (x * y)) 2 : Int))).setCell ⟨w.heap.size + 2, 3, none⟩ (.int .u64 (dig (mont G.p.m (x * y)) 3 : Int))) = w5 at *
  clear hz_0 hz_1 hz_2 hz_3
  have hg_0 := HS5.out.cell (i := 0) (x := (dig (mont G.p.m (x * y)) 0 : Int)) rfl
  have hg_1 := HS5.out.cell (i := 1) (x := (dig (mont G.p.m (x * y)) 1 : Int)) rfl
  have hg_2 := HS5.out.cell (i := 2) (x := (dig (mont G.p.m (x * y)) 2 : Int)) rfl
  have hg_3 := HS5.out.cell (i := 3) (x := (dig (mont G.p.m (x * y)) 3 : Int)) rfl
  simp [bodyPost, results, Try.results108, go_sem, hg_0, hg_1, hg_2, hg_3]
  exact HB5.out

set_option maxHeartbeats 1000000 in
theorem gPower_any (G : GP) (ok : G.Ok) (gb : Nat) (x n : Nat)  (w : World) (hG : GroupAt w gb G) :
    Calls Try.prog 109 #[.pointer (some ⟨gb, 0, none⟩), elV G x, scV G n] w fun e w' => e = .returned (elV G (x ^ (n % G.q.m))) ∧ Below w.heap.size w w' := by
  have OK := Lib.hid ok
  clear ok
  unfold elV scV limbV
  go_enter Try.func109, Try.ntmps109
  go_wp2_with fail
  obtain ⟨W0, hW0⟩ : ∃ W9 : World, (((w.alloc (Obj.cells #[.int .u64 (dig (mont G.p.m (x)) 0 : Int), .int .u64 (dig (mont G.p.m (x)) 1 : Int), .int .u64 (dig (mont G.p.m (x)) 2 : Int), .int .u64 (dig (mont G.p.m (x)) 3 : Int)] 111)).alloc (Obj.cells #[.int .u64 (dig (mont G.q.m (n)) 0 : Int), .int .u64 (dig (mont G.q.m (n)) 1 : Int), .int .u64 (dig (mont G.q.m (n)) 2 : Int), .int .u64 (dig (mont G.q.m (n)) 3 : Int)] 91)).alloc (Obj.cells #[.int .u64 0, .int .u64 0, .int .u64 0, .int .u64 0] 111)) = W9 := ⟨_, rfl⟩
  rw [hW0]
  have hX0 : Blk W0 (w.heap.size) 111 (lim (mont G.p.m (x))) := by
    rw [← hW0]
    have h := (((Blk.new w 111 (lim (mont G.p.m (x))) _ rfl).alloc (Obj.cells #[.int .u64 (dig (mont G.q.m (n)) 0 : Int), .int .u64 (dig (mont G.q.m (n)) 1 : Int), .int .u64 (dig (mont G.q.m (n)) 2 : Int), .int .u64 (dig (mont G.q.m (n)) 3 : Int)] 91)).alloc (Obj.cells #[.int .u64 0, .int .u64 0, .int .u64 0, .int .u64 0] 111))
    exact h
  have hX1 : Blk W0 (w.heap.size + 1) 91 (lim (mont G.q.m (n))) := by
    rw [← hW0]
    have h := ((Blk.new (w.alloc (Obj.cells #[.int .u64 (dig (mont G.p.m (x)) 0 : Int), .int .u64 (dig (mont G.p.m (x)) 1 : Int), .int .u64 (dig (mont G.p.m (x)) 2 : Int), .int .u64 (dig (mont G.p.m (x)) 3 : Int)] 111)) 91 (lim (mont G.q.m (n))) _ rfl).alloc (Obj.cells #[.int .u64 0, .int .u64 0, .int .u64 0, .int .u64 0] 111))
    rw [World.size_alloc] at h
    exact h
  have hC : Blk W0 (w.heap.size + 2) 111 [0, 0, 0, 0] := by
    rw [← hW0]
    have h := (Blk.new ((w.alloc (Obj.cells #[.int .u64 (dig (mont G.p.m (x)) 0 : Int), .int .u64 (dig (mont G.p.m (x)) 1 : Int), .int .u64 (dig (mont G.p.m (x)) 2 : Int), .int .u64 (dig (mont G.p.m (x)) 3 : Int)] 111)).alloc (Obj.cells #[.int .u64 (dig (mont G.q.m (n)) 0 : Int), .int .u64 (dig (mont G.q.m (n)) 1 : Int), .int .u64 (dig (mont G.q.m (n)) 2 : Int), .int .u64 (dig (mont G.q.m (n)) 3 : Int)] 91)) 111 [0, 0, 0, 0] _ rfl)
    rw [World.size_alloc, World.size_alloc] at h
    exact h
  have hBW : Below w.heap.size w W0 := by rw [← hW0]; exact ((((Below.refl w.heap.size w).alloc (Nat.le_refl _) _).alloc (by simp) _).alloc (by simp; omega) _)
  clear hW0
  have hG0 := hG.up hBW
  have hgl := hG0.lt
  have hgk := hG0.kind
  have hgs := hG0.size
  have hpm_0 : W0.cell? ⟨gb, 2, none⟩ = some (.int .u64 (dig G.p.m 0 : Int)) := hG0.p.cell 0 _ rfl
  have hpm_1 : W0.cell? ⟨gb, 3, none⟩ = some (.int .u64 (dig G.p.m 1 : Int)) := hG0.p.cell 1 _ rfl
  have hpm_2 : W0.cell? ⟨gb, 4, none⟩ = some (.int .u64 (dig G.p.m 2 : Int)) := hG0.p.cell 2 _ rfl
  have hpm_3 : W0.cell? ⟨gb, 5, none⟩ = some (.int .u64 (dig G.p.m 3 : Int)) := hG0.p.cell 3 _ rfl
  have hpo_0 : W0.cell? ⟨gb, 6, none⟩ = some (.int .u64 (dig (mont G.p.m 1) 0 : Int)) := by rw [← OK.out.p.one']; exact hG0.p.cell 4 _ rfl
  have hpo_1 : W0.cell? ⟨gb, 7, none⟩ = some (.int .u64 (dig (mont G.p.m 1) 1 : Int)) := by rw [← OK.out.p.one']; exact hG0.p.cell 5 _ rfl
  have hpo_2 : W0.cell? ⟨gb, 8, none⟩ = some (.int .u64 (dig (mont G.p.m 1) 2 : Int)) := by rw [← OK.out.p.one']; exact hG0.p.cell 6 _ rfl
  have hpo_3 : W0.cell? ⟨gb, 9, none⟩ = some (.int .u64 (dig (mont G.p.m 1) 3 : Int)) := by rw [← OK.out.p.one']; exact hG0.p.cell 7 _ rfl
  have hqm_0 : W0.cell? ⟨gb, 15, none⟩ = some (.int .u64 (dig G.q.m 0 : Int)) := hG0.q.cell 0 _ rfl
  have hqm_1 : W0.cell? ⟨gb, 16, none⟩ = some (.int .u64 (dig G.q.m 1 : Int)) := hG0.q.cell 1 _ rfl
  have hqm_2 : W0.cell? ⟨gb, 17, none⟩ = some (.int .u64 (dig G.q.m 2 : Int)) := hG0.q.cell 2 _ rfl
  have hqm_3 : W0.cell? ⟨gb, 18, none⟩ = some (.int .u64 (dig G.q.m 3 : Int)) := hG0.q.cell 3 _ rfl
  have hqo_0 : W0.cell? ⟨gb, 19, none⟩ = some (.int .u64 (dig (mont G.q.m 1) 0 : Int)) := by rw [← OK.out.q.one']; exact hG0.q.cell 4 _ rfl
  have hqo_1 : W0.cell? ⟨gb, 20, none⟩ = some (.int .u64 (dig (mont G.q.m 1) 1 : Int)) := by rw [← OK.out.q.one']; exact hG0.q.cell 5 _ rfl
  have hqo_2 : W0.cell? ⟨gb, 21, none⟩ = some (.int .u64 (dig (mont G.q.m 1) 2 : Int)) := by rw [← OK.out.q.one']; exact hG0.q.cell 6 _ rfl
  have hqo_3 : W0.cell? ⟨gb, 22, none⟩ = some (.int .u64 (dig (mont G.q.m 1) 3 : Int)) := by rw [← OK.out.q.one']; exact hG0.q.cell 7 _ rfl
  have hx0_0 := hX0.cell (i := 0) (x := (dig (mont G.p.m (x)) 0 : Int)) rfl
  have hx0_1 := hX0.cell (i := 1) (x := (dig (mont G.p.m (x)) 1 : Int)) rfl
  have hx0_2 := hX0.cell (i := 2) (x := (dig (mont G.p.m (x)) 2 : Int)) rfl
  have hx0_3 := hX0.cell (i := 3) (x := (dig (mont G.p.m (x)) 3 : Int)) rfl
  have hl0 := hX0.lt
  have hx1_0 := hX1.cell (i := 0) (x := (dig (mont G.q.m (n)) 0 : Int)) rfl
  have hx1_1 := hX1.cell (i := 1) (x := (dig (mont G.q.m (n)) 1 : Int)) rfl
  have hx1_2 := hX1.cell (i := 2) (x := (dig (mont G.q.m (n)) 2 : Int)) rfl
  have hx1_3 := hX1.cell (i := 3) (x := (dig (mont G.q.m (n)) 3 : Int)) rfl
  have hl1 := hX1.lt
  have HC := Lib.hid hC
  have HBW := Lib.hid hBW
  clear hC hBW hG hX0 hX1
  refine wp_region_otail 13 (by kernel_rfl) (by kernel_rfl) ?_
  simp only [List.take_succ_cons, List.take_zero, List.drop_succ_cons, List.drop_zero]
  have hovg := fun (E : Over W0) o => E.cell (b := gb) o hgl
  have hov0 := fun (E : Over W0) o => E.cell (b := w.heap.size) o hl0
  have hov1 := fun (E : Over W0) o => E.cell (b := w.heap.size + 1) o hl1
  repeat (go_big_quiet_step (first | (go_at_call 134; exact calls_over (outM G.q OK.out.q gb 15 n _ (hG0.up (Over.h _)).q)) | (go_at_call 132; exact calls_over (pow_any G.p OK.out.p gb 2 x (n % G.q.m) (Nat.lt_trans (Nat.mod_lt _ OK.out.q.pos) OK.out.q.lt4) _ (hG0.up (Over.h _)).p))))
  all_goals (try unfold limbV)
  repeat (go_big_quiet_step (first | (go_at_call 134; exact calls_over (outM G.q OK.out.q gb 15 n _ (hG0.up (Over.h _)).q)) | (go_at_call 132; exact calls_over (pow_any G.p OK.out.p gb 2 x (n % G.q.m) (Nat.lt_trans (Nat.mod_lt _ OK.out.q.pos) OK.out.q.lt4) _ (hG0.up (Over.h _)).p))))
  all_goals (try unfold limbV)
  repeat (go_big_quiet_step (first | (go_at_call 134; exact calls_over (outM G.q OK.out.q gb 15 n _ (hG0.up (Over.h _)).q)) | (go_at_call 132; exact calls_over (pow_any G.p OK.out.p gb 2 x (n % G.q.m) (Nat.lt_trans (Nat.mod_lt _ OK.out.q.pos) OK.out.q.lt4) _ (hG0.up (Over.h _)).p))))
  refine wpQuiet_nil ?_
  rintro _ ⟨E, rfl⟩
  have HZ := Lib.hid (HC.out.below E.h HC.out.lt)
  have HBB := Lib.hid (below_up HBW.out E.h)
  clear hovg hov0 hov1
  generalize E.w = w3 at *
  have HB5 := Lib.hid (below_fill (n := mont G.p.m (x ^ (n % G.q.m))) (b := w.heap.size + 2) HBB.out (by omega))
  have HS5 := Lib.hid (HZ.out.fill rfl (mont G.p.m (x ^ (n % G.q.m))))
  have hz_0 := HZ.out.cell (i := 0) (x := 0) rfl
  have hz_1 := HZ.out.cell (i := 1) (x := 0) rfl
  have hz_2 := HZ.out.cell (i := 2) (x := 0) rfl
  have hz_3 := HZ.out.cell (i := 3) (x := 0) rfl
  have hzf_0 := HZ.out.frozen 0
  have hzf_1 := HZ.out.frozen 1
  have hzf_2 := HZ.out.frozen 2
  have hzf_3 := HZ.out.frozen 3
  go_wp2_with fail
  generalize (((((w3).setCell ⟨w.heap.size + 2, 0, none⟩ (.int .u64 (dig (mont G.p.m (x ^ (n % G.q.m))) 0 : Int))).setCell ⟨w.heap.size + 2, 1, none⟩ (.int .u64 (dig (mont G.p.m (x ^ (n % G.q.m))) 1 : Int))).setCell ⟨w.heap.size + 2, 2, none⟩ (.int .u64 (dig (mont G.p.m (x ^ (n % G.q.m))) 2 : Int))).setCell ⟨w.heap.size + 2, 3, none⟩ (.int .u64 (dig (mont G.p.m (x ^ (n % G.q.m))) 3 : Int))) = w5 at *
  clear hz_0 hz_1 hz_2 hz_3
  have hg_0 := HS5.out.cell (i := 0) (x := (dig (mont G.p.m (x ^ (n % G.q.m))) 0 : Int)) rfl
  have hg_1 := HS5.out.cell (i := 1) (x := (dig (mont G.p.m (x ^ (n % G.q.m))) 1 : Int)) rfl
  have hg_2 := HS5.out.cell (i := 2) (x := (dig (mont G.p.m (x ^ (n % G.q.m))) 2 : Int)) rfl
  have hg_3 := HS5.out.cell (i := 3) (x := (dig (mont G.p.m (x ^ (n % G.q.m))) 3 : Int)) rfl
  simp [bodyPost, results, Try.results109, go_sem, hg_0, hg_1, hg_2, hg_3]
  exact HB5.out

set_option maxHeartbeats 1000000 in
theorem gBase_any (G : GP) (ok : G.Ok) (gb : Nat)  (w : World) (hG : GroupAt w gb G) :
    Calls Try.prog 99 #[.pointer (some ⟨gb, 0, none⟩)] w fun e w' => e = .returned (elV G (2)) ∧ Below w.heap.size w w' := by
  have OK := Lib.hid ok
  clear ok
  unfold elV limbV
  go_enter Try.func99, Try.ntmps99
  go_wp2_with fail
  obtain ⟨W0, hW0⟩ : ∃ W9 : World, (w.alloc (Obj.cells #[.int .u64 0, .int .u64 0, .int .u64 0, .int .u64 0] 111)) = W9 := ⟨_, rfl⟩
  rw [hW0]
  have hC : Blk W0 (w.heap.size) 111 [0, 0, 0, 0] := by
    rw [← hW0]
    have h := (Blk.new w 111 [0, 0, 0, 0] _ rfl)
    exact h
  have hBW : Below w.heap.size w W0 := by rw [← hW0]; exact ((Below.refl w.heap.size w).alloc (Nat.le_refl _) _)
  clear hW0
  have hG0 := hG.up hBW
  have hgl := hG0.lt
  have hgk := hG0.kind
  have hgs := hG0.size
  have hpm_0 : W0.cell? ⟨gb, 2, none⟩ = some (.int .u64 (dig G.p.m 0 : Int)) := hG0.p.cell 0 _ rfl
  have hpm_1 : W0.cell? ⟨gb, 3, none⟩ = some (.int .u64 (dig G.p.m 1 : Int)) := hG0.p.cell 1 _ rfl
  have hpm_2 : W0.cell? ⟨gb, 4, none⟩ = some (.int .u64 (dig G.p.m 2 : Int)) := hG0.p.cell 2 _ rfl
  have hpm_3 : W0.cell? ⟨gb, 5, none⟩ = some (.int .u64 (dig G.p.m 3 : Int)) := hG0.p.cell 3 _ rfl
  have hpo_0 : W0.cell? ⟨gb, 6, none⟩ = some (.int .u64 (dig (mont G.p.m 1) 0 : Int)) := by rw [← OK.out.p.one']; exact hG0.p.cell 4 _ rfl
  have hpo_1 : W0.cell? ⟨gb, 7, none⟩ = some (.int .u64 (dig (mont G.p.m 1) 1 : Int)) := by rw [← OK.out.p.one']; exact hG0.p.cell 5 _ rfl
  have hpo_2 : W0.cell? ⟨gb, 8, none⟩ = some (.int .u64 (dig (mont G.p.m 1) 2 : Int)) := by rw [← OK.out.p.one']; exact hG0.p.cell 6 _ rfl
  have hpo_3 : W0.cell? ⟨gb, 9, none⟩ = some (.int .u64 (dig (mont G.p.m 1) 3 : Int)) := by rw [← OK.out.p.one']; exact hG0.p.cell 7 _ rfl
  have hqm_0 : W0.cell? ⟨gb, 15, none⟩ = some (.int .u64 (dig G.q.m 0 : Int)) := hG0.q.cell 0 _ rfl
  have hqm_1 : W0.cell? ⟨gb, 16, none⟩ = some (.int .u64 (dig G.q.m 1 : Int)) := hG0.q.cell 1 _ rfl
  have hqm_2 : W0.cell? ⟨gb, 17, none⟩ = some (.int .u64 (dig G.q.m 2 : Int)) := hG0.q.cell 2 _ rfl
  have hqm_3 : W0.cell? ⟨gb, 18, none⟩ = some (.int .u64 (dig G.q.m 3 : Int)) := hG0.q.cell 3 _ rfl
  have hqo_0 : W0.cell? ⟨gb, 19, none⟩ = some (.int .u64 (dig (mont G.q.m 1) 0 : Int)) := by rw [← OK.out.q.one']; exact hG0.q.cell 4 _ rfl
  have hqo_1 : W0.cell? ⟨gb, 20, none⟩ = some (.int .u64 (dig (mont G.q.m 1) 1 : Int)) := by rw [← OK.out.q.one']; exact hG0.q.cell 5 _ rfl
  have hqo_2 : W0.cell? ⟨gb, 21, none⟩ = some (.int .u64 (dig (mont G.q.m 1) 2 : Int)) := by rw [← OK.out.q.one']; exact hG0.q.cell 6 _ rfl
  have hqo_3 : W0.cell? ⟨gb, 22, none⟩ = some (.int .u64 (dig (mont G.q.m 1) 3 : Int)) := by rw [← OK.out.q.one']; exact hG0.q.cell 7 _ rfl
  have HC := Lib.hid hC
  have HBW := Lib.hid hBW
  clear hC hBW hG 
  refine wp_region_otail 15 (by kernel_rfl) (by kernel_rfl) ?_
  simp only [List.take_succ_cons, List.take_zero, List.drop_succ_cons, List.drop_zero]
  have hovg := fun (E : Over W0) o => E.cell (b := gb) o hgl
  repeat (go_big_quiet_step (first | (go_at_call 145; exact calls_over (addM G.p OK.out.p gb 2 1 1 _ (hG0.up (Over.h _)).p))))
  all_goals (try unfold limbV)
  repeat (go_big_quiet_step (first | (go_at_call 145; exact calls_over (addM G.p OK.out.p gb 2 1 1 _ (hG0.up (Over.h _)).p))))
  all_goals (try unfold limbV)
  repeat (go_big_quiet_step (first | (go_at_call 145; exact calls_over (addM G.p OK.out.p gb 2 1 1 _ (hG0.up (Over.h _)).p))))
  refine wpQuiet_nil ?_
  rintro _ ⟨E, rfl⟩
  have HZ := Lib.hid (HC.out.below E.h HC.out.lt)
  have HBB := Lib.hid (below_up HBW.out E.h)
  clear hovg 
  generalize E.w = w3 at *
  have HB5 := Lib.hid (below_fill (n := mont G.p.m (2)) (b := w.heap.size) HBB.out (by omega))
  have HS5 := Lib.hid (HZ.out.fill rfl (mont G.p.m (2)))
  have hz_0 := HZ.out.cell (i := 0) (x := 0) rfl
  have hz_1 := HZ.out.cell (i := 1) (x := 0) rfl
  have hz_2 := HZ.out.cell (i := 2) (x := 0) rfl
  have hz_3 := HZ.out.cell (i := 3) (x := 0) rfl
  have hzf_0 := HZ.out.frozen 0
  have hzf_1 := HZ.out.frozen 1
  have hzf_2 := HZ.out.frozen 2
  have hzf_3 := HZ.out.frozen 3
  go_wp2_with fail
  generalize (((((w3).setCell ⟨w.heap.size, 0, none⟩ (.int .u64 (dig (mont G.p.m (2)) 0 : Int))).setCell ⟨w.heap.size, 1, none⟩ (.int .u64 (dig (mont G.p.m (2)) 1 : Int))).setCell ⟨w.heap.size, 2, none⟩ (.int .u64 (dig (mont G.p.m (2)) 2 : Int))).setCell ⟨w.heap.size, 3, none⟩ (.int .u64 (dig (mont G.p.m (2)) 3 : Int))) = w5 at *
  clear hz_0 hz_1 hz_2 hz_3
  have hg_0 := HS5.out.cell (i := 0) (x := (dig (mont G.p.m (2)) 0 : Int)) rfl
  have hg_1 := HS5.out.cell (i := 1) (x := (dig (mont G.p.m (2)) 1 : Int)) rfl
  have hg_2 := HS5.out.cell (i := 2) (x := (dig (mont G.p.m (2)) 2 : Int)) rfl
  have hg_3 := HS5.out.cell (i := 3) (x := (dig (mont G.p.m (2)) 3 : Int)) rfl
  simp [bodyPost, results, Try.results99, go_sem, hg_0, hg_1, hg_2, hg_3]
  exact HB5.out

set_option maxHeartbeats 1000000 in
theorem gOne_any (G : GP) (ok : G.Ok) (gb : Nat) (w : World) (hG : GroupAt w gb G) :
    Calls Try.prog 107 #[.pointer (some ⟨gb, 0, none⟩)] w fun e w' => e = .returned (elV G 1) ∧ Below w.heap.size w w' := by
  have OK := Lib.hid ok
  clear ok
  unfold elV limbV
  have hG0 := hG
  have hgl := hG0.lt
  have hgk := hG0.kind
  have hgs := hG0.size
  have hpm_0 : w.cell? ⟨gb, 2, none⟩ = some (.int .u64 (dig G.p.m 0 : Int)) := hG0.p.cell 0 _ rfl
  have hpm_1 : w.cell? ⟨gb, 3, none⟩ = some (.int .u64 (dig G.p.m 1 : Int)) := hG0.p.cell 1 _ rfl
  have hpm_2 : w.cell? ⟨gb, 4, none⟩ = some (.int .u64 (dig G.p.m 2 : Int)) := hG0.p.cell 2 _ rfl
  have hpm_3 : w.cell? ⟨gb, 5, none⟩ = some (.int .u64 (dig G.p.m 3 : Int)) := hG0.p.cell 3 _ rfl
  have hpo_0 : w.cell? ⟨gb, 6, none⟩ = some (.int .u64 (dig (mont G.p.m 1) 0 : Int)) := by rw [← OK.out.p.one']; exact hG0.p.cell 4 _ rfl
  have hpo_1 : w.cell? ⟨gb, 7, none⟩ = some (.int .u64 (dig (mont G.p.m 1) 1 : Int)) := by rw [← OK.out.p.one']; exact hG0.p.cell 5 _ rfl
  have hpo_2 : w.cell? ⟨gb, 8, none⟩ = some (.int .u64 (dig (mont G.p.m 1) 2 : Int)) := by rw [← OK.out.p.one']; exact hG0.p.cell 6 _ rfl
  have hpo_3 : w.cell? ⟨gb, 9, none⟩ = some (.int .u64 (dig (mont G.p.m 1) 3 : Int)) := by rw [← OK.out.p.one']; exact hG0.p.cell 7 _ rfl
  have hqm_0 : w.cell? ⟨gb, 15, none⟩ = some (.int .u64 (dig G.q.m 0 : Int)) := hG0.q.cell 0 _ rfl
  have hqm_1 : w.cell? ⟨gb, 16, none⟩ = some (.int .u64 (dig G.q.m 1 : Int)) := hG0.q.cell 1 _ rfl
  have hqm_2 : w.cell? ⟨gb, 17, none⟩ = some (.int .u64 (dig G.q.m 2 : Int)) := hG0.q.cell 2 _ rfl
  have hqm_3 : w.cell? ⟨gb, 18, none⟩ = some (.int .u64 (dig G.q.m 3 : Int)) := hG0.q.cell 3 _ rfl
  have hqo_0 : w.cell? ⟨gb, 19, none⟩ = some (.int .u64 (dig (mont G.q.m 1) 0 : Int)) := by rw [← OK.out.q.one']; exact hG0.q.cell 4 _ rfl
  have hqo_1 : w.cell? ⟨gb, 20, none⟩ = some (.int .u64 (dig (mont G.q.m 1) 1 : Int)) := by rw [← OK.out.q.one']; exact hG0.q.cell 5 _ rfl
  have hqo_2 : w.cell? ⟨gb, 21, none⟩ = some (.int .u64 (dig (mont G.q.m 1) 2 : Int)) := by rw [← OK.out.q.one']; exact hG0.q.cell 6 _ rfl
  have hqo_3 : w.cell? ⟨gb, 22, none⟩ = some (.int .u64 (dig (mont G.q.m 1) 3 : Int)) := by rw [← OK.out.q.one']; exact hG0.q.cell 7 _ rfl
  go_enter Try.func107, Try.ntmps107
  go_wp2_with fail
  simp [bodyPost, results, Try.results107, go_sem]
  exact (Below.refl _ _).alloc (Nat.le_refl _) _

end Go.Proofs.Ytipgjookfdkciaa

/- Four limbs, compared. No condition. -/
namespace Go.Proofs.Ytipgjookfdkciaa
open Go.RowKit

theorem run_equalIn_four {P : Program} (w : World) (d : Nat) (t e : TypeId) (ht : P.underlying t = some (.array 4 e)) (he : P.underlying e = some (.int .u64)) (i : TypeInfo) (hi : P.info? e = some i) (hc : P.cellsOf e = 1) (hp : P.plainKey e = true) (x0 x1 x2 x3 y0 y1 y2 y3 : Int) :
    (Op.equalIn (d + 2) t (.agg #[.int .u64 x0, .int .u64 x1, .int .u64 x2, .int .u64 x3]) (.agg #[.int .u64 y0, .int .u64 y1, .int .u64 y2, .int .u64 y3])).run P w = .ok (x0 == y0 && (x1 == y1 && (x2 == y2 && x3 == y3))) w := by
  rw [Op.equalIn]
  simp only [Sem.run_bind, run_underlying ht, Result.andThen_ok, run_sizeOf w hi, hc]
  have hx : ∀ (xs : Array Value) (k : Nat) (v : Value), xs[k]? = some v → (part e xs (k * 1)).run P w = .ok v w := fun xs k v h => run_part_plain w hp (by simpa using h)
  have eqi : ∀ a b : Int, (Op.equalIn (d + 1) e (.int .u64 a) (.int .u64 b)).run P w = .ok (a == b) w := fun a b => run_equalIn_int w d e .u64 .u64 a b he
  have h0 := hx #[.int .u64 x0, .int .u64 x1, .int .u64 x2, .int .u64 x3] 0 _ rfl
  have h1 := hx #[.int .u64 x0, .int .u64 x1, .int .u64 x2, .int .u64 x3] 1 _ rfl
  have h2 := hx #[.int .u64 x0, .int .u64 x1, .int .u64 x2, .int .u64 x3] 2 _ rfl
  have h3 := hx #[.int .u64 x0, .int .u64 x1, .int .u64 x2, .int .u64 x3] 3 _ rfl
  have g0 := hx #[.int .u64 y0, .int .u64 y1, .int .u64 y2, .int .u64 y3] 0 _ rfl
  have g1 := hx #[.int .u64 y0, .int .u64 y1, .int .u64 y2, .int .u64 y3] 1 _ rfl
  have g2 := hx #[.int .u64 y0, .int .u64 y1, .int .u64 y2, .int .u64 y3] 2 _ rfl
  have g3 := hx #[.int .u64 y0, .int .u64 y1, .int .u64 y2, .int .u64 y3] 3 _ rfl
  clear hx
  simp only [Std.Legacy.Range.forIn_eq_forIn_range', Std.Legacy.Range.size]
  have r4 : List.range' 0 ((4 - 0 + 1 - 1) / 1) 1 = [0, 1, 2, 3] := rfl
  rw [r4]
  simp only [List.forIn_cons, List.forIn_nil, Sem.run_bind, Sem.run_ite, Sem.run_pure, Result.andThen_ok, h0, g0, eqi]
  cases h0' : (x0 == y0) <;> cases h1' : (x1 == y1) <;> cases h2' : (x2 == y2) <;> cases h3' : (x3 == y3) <;> first | (simp [Sem.run_bind, h1, h2, h3, g1, g2, g3, eqi, h1', h2', h3']; done) | (simp [Sem.run_bind, h1, h2, h3, g1, g2, g3, eqi, h1', h2', h3']; simpa using h0')

/-- An operation that yields a value, by its own law. -/
theorem wpList_value {P : Program} (w : World) {ops : Array Oper} {rest : List Oper} {o : Oper} {a : Act} {Q : Exit → Act → World → Prop} (hgd : o.guard = none) (op : BinOp) (x y : Operand) (t t2 : TypeId) (ho : o.op = .binOp op t x y t2)
    (u v r : Value) (hx : a.eval x = u) (hy : a.eval y = v) (hg : (eqGuard op t x y u v).run P w = .ok () w) (hb : (binOp op t u v).run P w = .ok r w)
    (h : wpList P ops Q rest (a.put o.dst r) w) : wpList P ops Q (o :: rest) a w := by
  refine wpList_plain hgd fun K hK => ?_
  unfold Oper.wp execOp
  simp only [ho, hx, hy, Sem.run_bind, hg, hb, Result.andThen_ok, Sem.run_pure]
  exact hK _ _ h

theorem wpQuiet_bin {P : Program} {ops : Array Oper} {C : World → Prop} {Q : Act → Prop} {a : Act} {o : Oper} {rest : List Oper} (hw : Region.wanted o (yielded ops a.tmps) = true) (op : BinOp) (x y : Operand) (t t2 : TypeId) (ho : o.op = .binOp op t x y t2)
    (u v r : Value) (hx : a.eval x = u) (hy : a.eval y = v) (hg : ∀ w, (eqGuard op t x y u v).run P w = .ok () w) (hb : ∀ w, (binOp op t u v).run P w = .ok r w)
    (h : wpQuiet P ops C Q rest (a.put o.dst r)) : wpQuiet P ops C Q (o :: rest) a := by
  refine wpQuiet_step fun K hK => ?_
  rw [if_pos hw]
  refine ⟨r, fun w _ => ?_, hK _ h⟩
  unfold Oper.quietAt execOp
  simp only [ho, hx, hy, Sem.run_bind, hg, hb, Result.andThen_ok, Sem.run_pure]
  exact ⟨rfl, rfl⟩

theorem oper_value {P : Program} {o : Oper} {a : Act} {w w' : World} {v : Value} {K : Act → World → Prop} {Q : Exit → Act → World → Prop} (h : (execOp a.eval o).run P w = .ok (.value v) w') (hk : K (a.put o.dst v) w') : Oper.wp P o a w K Q := by
  unfold Oper.wp
  rw [h]
  exact hk

theorem if_wanted {o : Oper} {ys : Nat → Option Bool} {A B : Prop} (h : o.guard = none) (hk : A) : if Region.wanted o ys = true then A else B := by
  have hw : Region.wanted o ys = true := by unfold Region.wanted; rw [h]
  rw [if_pos hw]; exact hk

end Go.Proofs.Ytipgjookfdkciaa

/- The group of a kind: what is read and written, inverses. No condition. -/
namespace Go.Proofs.Ytipgjookfdkciaa
open Go.RowKit

theorem minus2 (m : Nat) (h2 : 2 ≤ m) (hm : m < BB ^ 4) (w : World) : Calls Try.prog 131 #[limbV m, .agg #[.int .u64 2, .int .u64 0, .int .u64 0, .int .u64 0]] w fun e w' => e = .returned (.tuple #[limbV (m - 2), .int .u64 0]) ∧ Below w.heap.size w w' := by
  have h := minus_any m 2 (by decide) w
  rw [limbV_small 2 (by decide), sub256_ok m 2 hm h2, under_four m 2 hm (by decide), if_neg (by omega)] at h
  exact h

set_option maxHeartbeats 1000000 in
theorem gInv_any (G : GP) (ok : G.Ok) (gb x : Nat) (w : World) (hG : GroupAt w gb G) :
    Calls Try.prog 60 #[.pointer (some ⟨gb, 0, none⟩), scV G x] w fun e w' => e = .returned (scV G (x ^ (G.q.m - 2))) ∧ Below w.heap.size w w' := by
  have OK := Lib.hid ok
  clear ok
  unfold scV limbV
  have hG0 := hG
  have hgl := hG0.lt
  have hgk := hG0.kind
  have hgs := hG0.size
  have hpm_0 : w.cell? ⟨gb, 2, none⟩ = some (.int .u64 (dig G.p.m 0 : Int)) := hG0.p.cell 0 _ rfl
  have hpm_1 : w.cell? ⟨gb, 3, none⟩ = some (.int .u64 (dig G.p.m 1 : Int)) := hG0.p.cell 1 _ rfl
  have hpm_2 : w.cell? ⟨gb, 4, none⟩ = some (.int .u64 (dig G.p.m 2 : Int)) := hG0.p.cell 2 _ rfl
  have hpm_3 : w.cell? ⟨gb, 5, none⟩ = some (.int .u64 (dig G.p.m 3 : Int)) := hG0.p.cell 3 _ rfl
  have hpo_0 : w.cell? ⟨gb, 6, none⟩ = some (.int .u64 (dig (mont G.p.m 1) 0 : Int)) := by rw [← OK.out.p.one']; exact hG0.p.cell 4 _ rfl
  have hpo_1 : w.cell? ⟨gb, 7, none⟩ = some (.int .u64 (dig (mont G.p.m 1) 1 : Int)) := by rw [← OK.out.p.one']; exact hG0.p.cell 5 _ rfl
  have hpo_2 : w.cell? ⟨gb, 8, none⟩ = some (.int .u64 (dig (mont G.p.m 1) 2 : Int)) := by rw [← OK.out.p.one']; exact hG0.p.cell 6 _ rfl
  have hpo_3 : w.cell? ⟨gb, 9, none⟩ = some (.int .u64 (dig (mont G.p.m 1) 3 : Int)) := by rw [← OK.out.p.one']; exact hG0.p.cell 7 _ rfl
  have hqm_0 : w.cell? ⟨gb, 15, none⟩ = some (.int .u64 (dig G.q.m 0 : Int)) := hG0.q.cell 0 _ rfl
  have hqm_1 : w.cell? ⟨gb, 16, none⟩ = some (.int .u64 (dig G.q.m 1 : Int)) := hG0.q.cell 1 _ rfl
  have hqm_2 : w.cell? ⟨gb, 17, none⟩ = some (.int .u64 (dig G.q.m 2 : Int)) := hG0.q.cell 2 _ rfl
  have hqm_3 : w.cell? ⟨gb, 18, none⟩ = some (.int .u64 (dig G.q.m 3 : Int)) := hG0.q.cell 3 _ rfl
  have hqo_0 : w.cell? ⟨gb, 19, none⟩ = some (.int .u64 (dig (mont G.q.m 1) 0 : Int)) := by rw [← OK.out.q.one']; exact hG0.q.cell 4 _ rfl
  have hqo_1 : w.cell? ⟨gb, 20, none⟩ = some (.int .u64 (dig (mont G.q.m 1) 1 : Int)) := by rw [← OK.out.q.one']; exact hG0.q.cell 5 _ rfl
  have hqo_2 : w.cell? ⟨gb, 21, none⟩ = some (.int .u64 (dig (mont G.q.m 1) 2 : Int)) := by rw [← OK.out.q.one']; exact hG0.q.cell 6 _ rfl
  have hqo_3 : w.cell? ⟨gb, 22, none⟩ = some (.int .u64 (dig (mont G.q.m 1) 3 : Int)) := by rw [← OK.out.q.one']; exact hG0.q.cell 7 _ rfl
  have hgl1 : gb < w.heap.size + 1 := by omega
  clear hG0
  go_enter Try.func60, Try.ntmps60
  go_wp2_with fail
  clear hgl1 hgk hgs hpm_0 hpm_1 hpm_2 hpm_3 hpo_0 hpo_1 hpo_2 hpo_3 hqm_0 hqm_1 hqm_2 hqm_3 hqo_0 hqo_1 hqo_2 hqo_3
  obtain ⟨W0, hW0⟩ : ∃ W9 : World, ((w.alloc (Obj.cells #[.int .u64 (dig (mont G.q.m x) 0 : Int), .int .u64 (dig (mont G.q.m x) 1 : Int), .int .u64 (dig (mont G.q.m x) 2 : Int), .int .u64 (dig (mont G.q.m x) 3 : Int)] 91)).alloc (Obj.cells #[.int .u64 0, .int .u64 0, .int .u64 0, .int .u64 0] 91)) = W9 := ⟨_, rfl⟩
  rw [hW0]
  have hX : Blk W0 (w.heap.size) 91 (lim (mont G.q.m x)) := by
    rw [← hW0]
    have h := ((Blk.new w 91 (lim (mont G.q.m x)) _ rfl).alloc (Obj.cells #[.int .u64 0, .int .u64 0, .int .u64 0, .int .u64 0] 91))
    exact h
  have hC : Blk W0 (w.heap.size + 1) 91 [0, 0, 0, 0] := by
    rw [← hW0]
    have h := (Blk.new (w.alloc (Obj.cells #[.int .u64 (dig (mont G.q.m x) 0 : Int), .int .u64 (dig (mont G.q.m x) 1 : Int), .int .u64 (dig (mont G.q.m x) 2 : Int), .int .u64 (dig (mont G.q.m x) 3 : Int)] 91)) 91 [0, 0, 0, 0] _ rfl)
    rw [World.size_alloc] at h
    exact h
  have hBW : Below w.heap.size w W0 := by rw [← hW0]; exact (((Below.refl w.heap.size w).alloc (Nat.le_refl _) _).alloc (by simp) _)
  clear hW0
  have HG0 := Lib.hid (hG.up hBW)
  have HX := Lib.hid hX
  have HC := Lib.hid hC
  have HBW := Lib.hid hBW
  have hcl := hC.lt
  clear hG hX hC hBW
  refine (minus2 G.q.m (by have := OK.out.q.big; omega) OK.out.q.lt4 W0).mono ?_
  rintro e w2 ⟨rfl, hb2⟩
  have hz2 := hb2.size
  have HN : Hid (Blk (w2.alloc (Obj.cells #[.int .u64 (dig (G.q.m - 2) 0 : Int), .int .u64 (dig (G.q.m - 2) 1 : Int), .int .u64 (dig (G.q.m - 2) 2 : Int), .int .u64 (dig (G.q.m - 2) 3 : Int)] 89)) w2.heap.size 89 (lim (G.q.m - 2))) := Blk.new w2 _ _ _ rfl
  have HB3 := Lib.hid (hb2.alloc hz2 (Obj.cells #[.int .u64 (dig (G.q.m - 2) 0 : Int), .int .u64 (dig (G.q.m - 2) 1 : Int), .int .u64 (dig (G.q.m - 2) 2 : Int), .int .u64 (dig (G.q.m - 2) 3 : Int)] 89))
  clear hb2
  unfold limbV
  go_wp2_with fail
  generalize w2.alloc (Obj.cells #[.int .u64 (dig (G.q.m - 2) 0 : Int), .int .u64 (dig (G.q.m - 2) 1 : Int), .int .u64 (dig (G.q.m - 2) 2 : Int), .int .u64 (dig (G.q.m - 2) 3 : Int)] 89) = W3 at *
  have hX3 := HX.out.below HB3.out HX.out.lt
  have hG3 := HG0.out.up HB3.out
  have hx_0 := hX3.cell (i := 0) (x := (dig (mont G.q.m x) 0 : Int)) rfl
  have hx_1 := hX3.cell (i := 1) (x := (dig (mont G.q.m x) 1 : Int)) rfl
  have hx_2 := hX3.cell (i := 2) (x := (dig (mont G.q.m x) 2 : Int)) rfl
  have hx_3 := hX3.cell (i := 3) (x := (dig (mont G.q.m x) 3 : Int)) rfl
  have hn_0 := HN.out.cell (i := 0) (x := (dig (G.q.m - 2) 0 : Int)) rfl
  have hn_1 := HN.out.cell (i := 1) (x := (dig (G.q.m - 2) 1 : Int)) rfl
  have hn_2 := HN.out.cell (i := 2) (x := (dig (G.q.m - 2) 2 : Int)) rfl
  have hn_3 := HN.out.cell (i := 3) (x := (dig (G.q.m - 2) 3 : Int)) rfl
  have hlx := hX3.lt
  have hln := HN.out.lt
  clear hX3
  refine wp_region_otail 8 (by kernel_rfl) (by kernel_rfl) ?_
  simp only [List.take_succ_cons, List.take_zero, List.drop_succ_cons, List.drop_zero]
  have hov0 := fun (E : Over W3) o => E.cell (b := w.heap.size) o hlx
  have hov1 := fun (E : Over W3) o => E.cell (b := w2.heap.size) o hln
  repeat (go_big_quiet_step (first | (go_at_call 132; exact calls_over (pow_any G.q OK.out.q gb 15 x (G.q.m - 2) (Nat.lt_of_le_of_lt (Nat.sub_le _ _) OK.out.q.lt4) _ (hG3.up (Over.h _)).q))))
  all_goals (try unfold limbV)
  repeat (go_big_quiet_step (first | (go_at_call 132; exact calls_over (pow_any G.q OK.out.q gb 15 x (G.q.m - 2) (Nat.lt_of_le_of_lt (Nat.sub_le _ _) OK.out.q.lt4) _ (hG3.up (Over.h _)).q))))
  all_goals (try unfold limbV)
  repeat (go_big_quiet_step (first | (go_at_call 132; exact calls_over (pow_any G.q OK.out.q gb 15 x (G.q.m - 2) (Nat.lt_of_le_of_lt (Nat.sub_le _ _) OK.out.q.lt4) _ (hG3.up (Over.h _)).q))))
  refine wpQuiet_nil ?_
  rintro _ ⟨E, rfl⟩
  have HZ := Lib.hid ((HC.out.below HB3.out HC.out.lt).below E.h (by have := HB3.out.size; omega))
  have HBB := Lib.hid (below_up (below_up HBW.out HB3.out) E.h)
  clear hov0 hov1
  generalize E.w = w3 at *
  have HB5 := Lib.hid (below_fill (n := mont G.q.m (x ^ (G.q.m - 2))) (b := w.heap.size + 1) HBB.out (by omega))
  have HS5 := Lib.hid (HZ.out.fill rfl (mont G.q.m (x ^ (G.q.m - 2))))
  have hz_0 := HZ.out.cell (i := 0) (x := 0) rfl
  have hz_1 := HZ.out.cell (i := 1) (x := 0) rfl
  have hz_2 := HZ.out.cell (i := 2) (x := 0) rfl
  have hz_3 := HZ.out.cell (i := 3) (x := 0) rfl
  have hzf_0 := HZ.out.frozen 0
  have hzf_1 := HZ.out.frozen 1
  have hzf_2 := HZ.out.frozen 2
  have hzf_3 := HZ.out.frozen 3
  go_wp2_with fail
  generalize (((((w3).setCell ⟨w.heap.size + 1, 0, none⟩ (.int .u64 (dig (mont G.q.m (x ^ (G.q.m - 2))) 0 : Int))).setCell ⟨w.heap.size + 1, 1, none⟩ (.int .u64 (dig (mont G.q.m (x ^ (G.q.m - 2))) 1 : Int))).setCell ⟨w.heap.size + 1, 2, none⟩ (.int .u64 (dig (mont G.q.m (x ^ (G.q.m - 2))) 2 : Int))).setCell ⟨w.heap.size + 1, 3, none⟩ (.int .u64 (dig (mont G.q.m (x ^ (G.q.m - 2))) 3 : Int))) = w5 at *
  clear hz_0 hz_1 hz_2 hz_3
  have hg_0 := HS5.out.cell (i := 0) (x := (dig (mont G.q.m (x ^ (G.q.m - 2))) 0 : Int)) rfl
  have hg_1 := HS5.out.cell (i := 1) (x := (dig (mont G.q.m (x ^ (G.q.m - 2))) 1 : Int)) rfl
  have hg_2 := HS5.out.cell (i := 2) (x := (dig (mont G.q.m (x ^ (G.q.m - 2))) 2 : Int)) rfl
  have hg_3 := HS5.out.cell (i := 3) (x := (dig (mont G.q.m (x ^ (G.q.m - 2))) 3 : Int)) rfl
  simp [bodyPost, results, Try.results60, go_sem, hg_0, hg_1, hg_2, hg_3]
  exact HB5.out

set_option maxHeartbeats 1000000 in
theorem gUnder_any (G : GP) (ok : G.Ok) (gb x : Nat) (w : World) (hG : GroupAt w gb G) :
    Calls Try.prog 147 #[.pointer (some ⟨gb, 0, none⟩), elV G x] w fun e w' => e = .returned (elV G (x ^ (G.p.m - 2))) ∧ Below w.heap.size w w' := by
  have OK := Lib.hid ok
  clear ok
  unfold elV limbV
  have hG0 := hG
  have hgl := hG0.lt
  have hgk := hG0.kind
  have hgs := hG0.size
  have hpm_0 : w.cell? ⟨gb, 2, none⟩ = some (.int .u64 (dig G.p.m 0 : Int)) := hG0.p.cell 0 _ rfl
  have hpm_1 : w.cell? ⟨gb, 3, none⟩ = some (.int .u64 (dig G.p.m 1 : Int)) := hG0.p.cell 1 _ rfl
  have hpm_2 : w.cell? ⟨gb, 4, none⟩ = some (.int .u64 (dig G.p.m 2 : Int)) := hG0.p.cell 2 _ rfl
  have hpm_3 : w.cell? ⟨gb, 5, none⟩ = some (.int .u64 (dig G.p.m 3 : Int)) := hG0.p.cell 3 _ rfl
  have hpo_0 : w.cell? ⟨gb, 6, none⟩ = some (.int .u64 (dig (mont G.p.m 1) 0 : Int)) := by rw [← OK.out.p.one']; exact hG0.p.cell 4 _ rfl
  have hpo_1 : w.cell? ⟨gb, 7, none⟩ = some (.int .u64 (dig (mont G.p.m 1) 1 : Int)) := by rw [← OK.out.p.one']; exact hG0.p.cell 5 _ rfl
  have hpo_2 : w.cell? ⟨gb, 8, none⟩ = some (.int .u64 (dig (mont G.p.m 1) 2 : Int)) := by rw [← OK.out.p.one']; exact hG0.p.cell 6 _ rfl
  have hpo_3 : w.cell? ⟨gb, 9, none⟩ = some (.int .u64 (dig (mont G.p.m 1) 3 : Int)) := by rw [← OK.out.p.one']; exact hG0.p.cell 7 _ rfl
  have hqm_0 : w.cell? ⟨gb, 15, none⟩ = some (.int .u64 (dig G.q.m 0 : Int)) := hG0.q.cell 0 _ rfl
  have hqm_1 : w.cell? ⟨gb, 16, none⟩ = some (.int .u64 (dig G.q.m 1 : Int)) := hG0.q.cell 1 _ rfl
  have hqm_2 : w.cell? ⟨gb, 17, none⟩ = some (.int .u64 (dig G.q.m 2 : Int)) := hG0.q.cell 2 _ rfl
  have hqm_3 : w.cell? ⟨gb, 18, none⟩ = some (.int .u64 (dig G.q.m 3 : Int)) := hG0.q.cell 3 _ rfl
  have hqo_0 : w.cell? ⟨gb, 19, none⟩ = some (.int .u64 (dig (mont G.q.m 1) 0 : Int)) := by rw [← OK.out.q.one']; exact hG0.q.cell 4 _ rfl
  have hqo_1 : w.cell? ⟨gb, 20, none⟩ = some (.int .u64 (dig (mont G.q.m 1) 1 : Int)) := by rw [← OK.out.q.one']; exact hG0.q.cell 5 _ rfl
  have hqo_2 : w.cell? ⟨gb, 21, none⟩ = some (.int .u64 (dig (mont G.q.m 1) 2 : Int)) := by rw [← OK.out.q.one']; exact hG0.q.cell 6 _ rfl
  have hqo_3 : w.cell? ⟨gb, 22, none⟩ = some (.int .u64 (dig (mont G.q.m 1) 3 : Int)) := by rw [← OK.out.q.one']; exact hG0.q.cell 7 _ rfl
  have hgl1 : gb < w.heap.size + 1 := by omega
  clear hG0
  go_enter Try.func147, Try.ntmps147
  go_wp2_with fail
  clear hgl1 hgk hgs hpm_0 hpm_1 hpm_2 hpm_3 hpo_0 hpo_1 hpo_2 hpo_3 hqm_0 hqm_1 hqm_2 hqm_3 hqo_0 hqo_1 hqo_2 hqo_3
  obtain ⟨W0, hW0⟩ : ∃ W9 : World, ((w.alloc (Obj.cells #[.int .u64 (dig (mont G.p.m x) 0 : Int), .int .u64 (dig (mont G.p.m x) 1 : Int), .int .u64 (dig (mont G.p.m x) 2 : Int), .int .u64 (dig (mont G.p.m x) 3 : Int)] 111)).alloc (Obj.cells #[.int .u64 0, .int .u64 0, .int .u64 0, .int .u64 0] 111)) = W9 := ⟨_, rfl⟩
  rw [hW0]
  have hX : Blk W0 (w.heap.size) 111 (lim (mont G.p.m x)) := by
    rw [← hW0]
    have h := ((Blk.new w 111 (lim (mont G.p.m x)) _ rfl).alloc (Obj.cells #[.int .u64 0, .int .u64 0, .int .u64 0, .int .u64 0] 111))
    exact h
  have hC : Blk W0 (w.heap.size + 1) 111 [0, 0, 0, 0] := by
    rw [← hW0]
    have h := (Blk.new (w.alloc (Obj.cells #[.int .u64 (dig (mont G.p.m x) 0 : Int), .int .u64 (dig (mont G.p.m x) 1 : Int), .int .u64 (dig (mont G.p.m x) 2 : Int), .int .u64 (dig (mont G.p.m x) 3 : Int)] 111)) 111 [0, 0, 0, 0] _ rfl)
    rw [World.size_alloc] at h
    exact h
  have hBW : Below w.heap.size w W0 := by rw [← hW0]; exact (((Below.refl w.heap.size w).alloc (Nat.le_refl _) _).alloc (by simp) _)
  clear hW0
  have HG0 := Lib.hid (hG.up hBW)
  have HX := Lib.hid hX
  have HC := Lib.hid hC
  have HBW := Lib.hid hBW
  have hcl := hC.lt
  clear hG hX hC hBW
  refine (minus2 G.p.m (by have := OK.out.p.big; omega) OK.out.p.lt4 W0).mono ?_
  rintro e w2 ⟨rfl, hb2⟩
  have hz2 := hb2.size
  have HN : Hid (Blk (w2.alloc (Obj.cells #[.int .u64 (dig (G.p.m - 2) 0 : Int), .int .u64 (dig (G.p.m - 2) 1 : Int), .int .u64 (dig (G.p.m - 2) 2 : Int), .int .u64 (dig (G.p.m - 2) 3 : Int)] 89)) w2.heap.size 89 (lim (G.p.m - 2))) := Blk.new w2 _ _ _ rfl
  have HB3 := Lib.hid (hb2.alloc hz2 (Obj.cells #[.int .u64 (dig (G.p.m - 2) 0 : Int), .int .u64 (dig (G.p.m - 2) 1 : Int), .int .u64 (dig (G.p.m - 2) 2 : Int), .int .u64 (dig (G.p.m - 2) 3 : Int)] 89))
  clear hb2
  unfold limbV
  go_wp2_with fail
  generalize w2.alloc (Obj.cells #[.int .u64 (dig (G.p.m - 2) 0 : Int), .int .u64 (dig (G.p.m - 2) 1 : Int), .int .u64 (dig (G.p.m - 2) 2 : Int), .int .u64 (dig (G.p.m - 2) 3 : Int)] 89) = W3 at *
  have hX3 := HX.out.below HB3.out HX.out.lt
  have hG3 := HG0.out.up HB3.out
  have hx_0 := hX3.cell (i := 0) (x := (dig (mont G.p.m x) 0 : Int)) rfl
  have hx_1 := hX3.cell (i := 1) (x := (dig (mont G.p.m x) 1 : Int)) rfl
  have hx_2 := hX3.cell (i := 2) (x := (dig (mont G.p.m x) 2 : Int)) rfl
  have hx_3 := hX3.cell (i := 3) (x := (dig (mont G.p.m x) 3 : Int)) rfl
  have hn_0 := HN.out.cell (i := 0) (x := (dig (G.p.m - 2) 0 : Int)) rfl
  have hn_1 := HN.out.cell (i := 1) (x := (dig (G.p.m - 2) 1 : Int)) rfl
  have hn_2 := HN.out.cell (i := 2) (x := (dig (G.p.m - 2) 2 : Int)) rfl
  have hn_3 := HN.out.cell (i := 3) (x := (dig (G.p.m - 2) 3 : Int)) rfl
  have hlx := hX3.lt
  have hln := HN.out.lt
  clear hX3
  refine wp_region_otail 8 (by kernel_rfl) (by kernel_rfl) ?_
  simp only [List.take_succ_cons, List.take_zero, List.drop_succ_cons, List.drop_zero]
  have hov0 := fun (E : Over W3) o => E.cell (b := w.heap.size) o hlx
  have hov1 := fun (E : Over W3) o => E.cell (b := w2.heap.size) o hln
  repeat (go_big_quiet_step (first | (go_at_call 132; exact calls_over (pow_any G.p OK.out.p gb 2 x (G.p.m - 2) (Nat.lt_of_le_of_lt (Nat.sub_le _ _) OK.out.p.lt4) _ (hG3.up (Over.h _)).p))))
  all_goals (try unfold limbV)
  repeat (go_big_quiet_step (first | (go_at_call 132; exact calls_over (pow_any G.p OK.out.p gb 2 x (G.p.m - 2) (Nat.lt_of_le_of_lt (Nat.sub_le _ _) OK.out.p.lt4) _ (hG3.up (Over.h _)).p))))
  all_goals (try unfold limbV)
  repeat (go_big_quiet_step (first | (go_at_call 132; exact calls_over (pow_any G.p OK.out.p gb 2 x (G.p.m - 2) (Nat.lt_of_le_of_lt (Nat.sub_le _ _) OK.out.p.lt4) _ (hG3.up (Over.h _)).p))))
  refine wpQuiet_nil ?_
  rintro _ ⟨E, rfl⟩
  have HZ := Lib.hid ((HC.out.below HB3.out HC.out.lt).below E.h (by have := HB3.out.size; omega))
  have HBB := Lib.hid (below_up (below_up HBW.out HB3.out) E.h)
  clear hov0 hov1
  generalize E.w = w3 at *
  have HB5 := Lib.hid (below_fill (n := mont G.p.m (x ^ (G.p.m - 2))) (b := w.heap.size + 1) HBB.out (by omega))
  have HS5 := Lib.hid (HZ.out.fill rfl (mont G.p.m (x ^ (G.p.m - 2))))
  have hz_0 := HZ.out.cell (i := 0) (x := 0) rfl
  have hz_1 := HZ.out.cell (i := 1) (x := 0) rfl
  have hz_2 := HZ.out.cell (i := 2) (x := 0) rfl
  have hz_3 := HZ.out.cell (i := 3) (x := 0) rfl
  have hzf_0 := HZ.out.frozen 0
  have hzf_1 := HZ.out.frozen 1
  have hzf_2 := HZ.out.frozen 2
  have hzf_3 := HZ.out.frozen 3
  go_wp2_with fail
  generalize (((((w3).setCell ⟨w.heap.size + 1, 0, none⟩ (.int .u64 (dig (mont G.p.m (x ^ (G.p.m - 2))) 0 : Int))).setCell ⟨w.heap.size + 1, 1, none⟩ (.int .u64 (dig (mont G.p.m (x ^ (G.p.m - 2))) 1 : Int))).setCell ⟨w.heap.size + 1, 2, none⟩ (.int .u64 (dig (mont G.p.m (x ^ (G.p.m - 2))) 2 : Int))).setCell ⟨w.heap.size + 1, 3, none⟩ (.int .u64 (dig (mont G.p.m (x ^ (G.p.m - 2))) 3 : Int))) = w5 at *
  clear hz_0 hz_1 hz_2 hz_3
  have hg_0 := HS5.out.cell (i := 0) (x := (dig (mont G.p.m (x ^ (G.p.m - 2))) 0 : Int)) rfl
  have hg_1 := HS5.out.cell (i := 1) (x := (dig (mont G.p.m (x ^ (G.p.m - 2))) 1 : Int)) rfl
  have hg_2 := HS5.out.cell (i := 2) (x := (dig (mont G.p.m (x ^ (G.p.m - 2))) 2 : Int)) rfl
  have hg_3 := HS5.out.cell (i := 3) (x := (dig (mont G.p.m (x ^ (G.p.m - 2))) 3 : Int)) rfl
  simp [bodyPost, results, Try.results147, go_sem, hg_0, hg_1, hg_2, hg_3]
  exact HB5.out

theorem lim_eq (x y : Nat) (hx : x < BB ^ 4) (hy : y < BB ^ 4) (h0 : dig x 0 = dig y 0) (h1 : dig x 1 = dig y 1) (h2 : dig x 2 = dig y 2) (h3 : dig x 3 = dig y 3) : x = y := by
  have e : ∀ z, z < BB ^ 4 → z = dig z 0 + BB * dig z 1 + BB ^ 2 * dig z 2 + BB ^ 3 * dig z 3 := fun z hz => by
    have a3 := mod_succ z 3
    have a2 := mod_succ z 2
    have a1 := mod_succ z 1
    have a0 := mod_succ z 0
    rw [Nat.mod_eq_of_lt hz] at a3
    simp only [Nat.pow_zero, Nat.mod_one, Nat.zero_add, Nat.pow_one, Nat.one_mul] at a0 a1
    simp only [Nat.reduceAdd] at a1 a2
    omega
  have ex := e x hx
  have ey := e y hy
  rw [h0, h1, h2, h3] at ex
  generalize hs : dig y 0 + BB * dig y 1 + BB ^ 2 * dig y 2 + BB ^ 3 * dig y 3 = s at *
  omega

theorem infoU64 : (Try.prog.info? 87).isSome = true := by kernel_rfl
theorem cellsU64 : Try.prog.cellsOf 87 = 1 := by kernel_rfl
theorem plainU64 : Try.prog.plainKey 87 = true := by kernel_rfl

/-- Two numbers' limbs, compared. -/
theorem eqLimbs (x y : Nat) (hx : x < BB ^ 4) (hy : y < BB ^ 4) (w : World) (b : Bool) (hb : b = decide (x = y)) :
    (Op.equalIn 10000 89 (.agg #[.int .u64 (dig x 0 : Int), .int .u64 (dig x 1 : Int), .int .u64 (dig x 2 : Int), .int .u64 (dig x 3 : Int)]) (.agg #[.int .u64 (dig y 0 : Int), .int .u64 (dig y 1 : Int), .int .u64 (dig y 2 : Int), .int .u64 (dig y 3 : Int)])).run Try.prog w = .ok b w := by
  obtain ⟨i, hi⟩ := Option.isSome_iff_exists.1 infoU64
  rw [run_equalIn_four w 9998 _ _ Try.underlying89 Try.underlying87 i hi cellsU64 plainU64, hb]
  refine congrArg (fun b => Result.ok b w) ?_
  rw [Bool.eq_iff_iff]
  simp only [Bool.and_eq_true, beq_iff_eq, Int.natCast_inj, decide_eq_true_eq]
  exact ⟨fun ⟨h0, h1, h2, h3⟩ => lim_eq x y hx hy h0 h1 h2 h3, fun e => by rw [e]; exact ⟨rfl, rfl, rfl, rfl⟩⟩

theorem guardLimbs (op : BinOp) (x y : Operand) (xs ys : Array Value) (w : World) : (eqGuard op 89 x y (.agg xs) (.agg ys)).run Try.prog w = .ok () w := run_eqGuard_agg w op _ x y xs ys (by kernel_rfl)
theorem binLimbs {xs ys : Array Value} {b : Bool} {w : World} (h : (Op.equalIn 10000 89 (.agg xs) (.agg ys)).run Try.prog w = .ok b w) : (binOp .eql 89 (.agg xs) (.agg ys)).run Try.prog w = .ok (.bool b) w := by
  rw [run_eql_struct, h]
  rfl

theorem eqZero (x : Nat) (hx : x < BB ^ 4) (w : World) (b : Bool) (hb : b = decide (x = 0)) :
    (Op.equalIn 10000 89 (.agg #[.int .u64 (dig x 0 : Int), .int .u64 (dig x 1 : Int), .int .u64 (dig x 2 : Int), .int .u64 (dig x 3 : Int)]) (.agg #[.int .u64 0, .int .u64 0, .int .u64 0, .int .u64 0])).run Try.prog w = .ok b w := by
  have h := eqLimbs x 0 hx (by decide) w b hb
  simpa [dig] using h

set_option maxHeartbeats 1000000 in
theorem gPut_any (G : GP) (ok : G.Ok) (gb x : Nat) (w : World) (hG : GroupAt w gb G) :
    Calls Try.prog 62 #[.pointer (some ⟨gb, 0, none⟩), scV G x] w fun e w' => e = .returned (.string (textS (x % G.q.m) G.size)) ∧ Below w.heap.size w w' := by
  have OK := Lib.hid ok
  clear ok
  unfold scV limbV
  go_enter Try.func62, Try.ntmps62
  go_wp2_with fail
  obtain ⟨W0, hW0⟩ : ∃ W9 : World, (w.alloc (Obj.cells #[.int .u64 (dig (mont G.q.m x) 0 : Int), .int .u64 (dig (mont G.q.m x) 1 : Int), .int .u64 (dig (mont G.q.m x) 2 : Int), .int .u64 (dig (mont G.q.m x) 3 : Int)] 91)) = W9 := ⟨_, rfl⟩
  rw [hW0]
  have hX : Blk W0 (w.heap.size) 91 (lim (mont G.q.m x)) := by
    rw [← hW0]
    have h := (Blk.new w 91 (lim (mont G.q.m x)) _ rfl)
    exact h
  have hBW : Below w.heap.size w W0 := by rw [← hW0]; exact ((Below.refl w.heap.size w).alloc (Nat.le_refl _) _)
  clear hW0
  have hG0 := hG.up hBW
  have hgl := hG0.lt
  have hgk := hG0.kind
  have hgs := hG0.size
  have hpm_0 : W0.cell? ⟨gb, 2, none⟩ = some (.int .u64 (dig G.p.m 0 : Int)) := hG0.p.cell 0 _ rfl
  have hpm_1 : W0.cell? ⟨gb, 3, none⟩ = some (.int .u64 (dig G.p.m 1 : Int)) := hG0.p.cell 1 _ rfl
  have hpm_2 : W0.cell? ⟨gb, 4, none⟩ = some (.int .u64 (dig G.p.m 2 : Int)) := hG0.p.cell 2 _ rfl
  have hpm_3 : W0.cell? ⟨gb, 5, none⟩ = some (.int .u64 (dig G.p.m 3 : Int)) := hG0.p.cell 3 _ rfl
  have hpo_0 : W0.cell? ⟨gb, 6, none⟩ = some (.int .u64 (dig (mont G.p.m 1) 0 : Int)) := by rw [← OK.out.p.one']; exact hG0.p.cell 4 _ rfl
  have hpo_1 : W0.cell? ⟨gb, 7, none⟩ = some (.int .u64 (dig (mont G.p.m 1) 1 : Int)) := by rw [← OK.out.p.one']; exact hG0.p.cell 5 _ rfl
  have hpo_2 : W0.cell? ⟨gb, 8, none⟩ = some (.int .u64 (dig (mont G.p.m 1) 2 : Int)) := by rw [← OK.out.p.one']; exact hG0.p.cell 6 _ rfl
  have hpo_3 : W0.cell? ⟨gb, 9, none⟩ = some (.int .u64 (dig (mont G.p.m 1) 3 : Int)) := by rw [← OK.out.p.one']; exact hG0.p.cell 7 _ rfl
  have hqm_0 : W0.cell? ⟨gb, 15, none⟩ = some (.int .u64 (dig G.q.m 0 : Int)) := hG0.q.cell 0 _ rfl
  have hqm_1 : W0.cell? ⟨gb, 16, none⟩ = some (.int .u64 (dig G.q.m 1 : Int)) := hG0.q.cell 1 _ rfl
  have hqm_2 : W0.cell? ⟨gb, 17, none⟩ = some (.int .u64 (dig G.q.m 2 : Int)) := hG0.q.cell 2 _ rfl
  have hqm_3 : W0.cell? ⟨gb, 18, none⟩ = some (.int .u64 (dig G.q.m 3 : Int)) := hG0.q.cell 3 _ rfl
  have hqo_0 : W0.cell? ⟨gb, 19, none⟩ = some (.int .u64 (dig (mont G.q.m 1) 0 : Int)) := by rw [← OK.out.q.one']; exact hG0.q.cell 4 _ rfl
  have hqo_1 : W0.cell? ⟨gb, 20, none⟩ = some (.int .u64 (dig (mont G.q.m 1) 1 : Int)) := by rw [← OK.out.q.one']; exact hG0.q.cell 5 _ rfl
  have hqo_2 : W0.cell? ⟨gb, 21, none⟩ = some (.int .u64 (dig (mont G.q.m 1) 2 : Int)) := by rw [← OK.out.q.one']; exact hG0.q.cell 6 _ rfl
  have hqo_3 : W0.cell? ⟨gb, 22, none⟩ = some (.int .u64 (dig (mont G.q.m 1) 3 : Int)) := by rw [← OK.out.q.one']; exact hG0.q.cell 7 _ rfl
  have hx_0 := hX.cell (i := 0) (x := (dig (mont G.q.m x) 0 : Int)) rfl
  have hx_1 := hX.cell (i := 1) (x := (dig (mont G.q.m x) 1 : Int)) rfl
  have hx_2 := hX.cell (i := 2) (x := (dig (mont G.q.m x) 2 : Int)) rfl
  have hx_3 := hX.cell (i := 3) (x := (dig (mont G.q.m x) 3 : Int)) rfl
  have hlx := hX.lt
  have HBW := Lib.hid hBW
  clear hX hBW hG
  refine wp_region_over (by kernel_rfl) (by kernel_rfl) ?_
  have hovg := fun (E : Over W0) o => E.cell (b := gb) o hgl
  have hov0 := fun (E : Over W0) o => E.cell (b := w.heap.size) o hlx
  repeat (go_big_quiet_step (first | (go_at_call 134; exact calls_over (outM G.q OK.out.q gb 15 x _ (hG0.up (Over.h _)).q)) | (go_at_call 135; exact calls_over (text_any (x % G.q.m) G.size OK.out.size_le _))))
  refine wpQuiet_nil ?_
  rintro _ ⟨E, rfl⟩
  have HBB := Lib.hid (below_up HBW.out E.h)
  clear hovg hov0
  generalize E.w = w3 at *
  go_wp2_with fail
  go_ret
  exact ⟨rfl, HBB.out⟩

set_option maxRecDepth 10000 in
theorem gZero_b (M : Nat) (b : Bool) (hz : ∀ W, (binOp .eql 89 (.agg #[.int .u64 (dig M 0 : Int), .int .u64 (dig M 1 : Int), .int .u64 (dig M 2 : Int), .int .u64 (dig M 3 : Int)]) (.agg #[.int .u64 0, .int .u64 0, .int .u64 0, .int .u64 0])).run Try.prog W = .ok (.bool b) W) (w : World) :
    Calls Try.prog 95 #[limbV M] w fun e w' => e = .returned (.bool b) ∧ Below w.heap.size w w' := by
  unfold limbV
  have HZ := Lib.hid hz
  clear hz
  go_enter Try.func95, Try.ntmps95
  go_upto_region 1 with (fail)
  go_wp2_with (refine wpList_value _ rfl .eql _ _ 89 _ rfl _ _ (.bool b) rfl rfl ?g ?b ?_; exact guardLimbs _ _ _ _ _ _; exact HZ.out _; skip)
  go_ret
  exact ⟨rfl, (Below.refl _ _).alloc (Nat.le_refl _) _⟩

theorem gZero_any (G : GP) (ok : G.Ok) (x : Nat) (w : World) :
    Calls Try.prog 95 #[scV G x] w fun e w' => e = .returned (.bool (decide (x % G.q.m = 0))) ∧ Below w.heap.size w w' := by
  refine gZero_b _ _ (fun W => binLimbs (eqZero (mont G.q.m x) (ok.q.mont x) W _ ?_)) w
  refine decide_eq_decide.2 ?_
  rw [← mont_mod]
  exact (mont_eq_zero ok.q.low (Nat.mod_lt _ ok.q.pos)).symm

end Go.Proofs.Ytipgjookfdkciaa
