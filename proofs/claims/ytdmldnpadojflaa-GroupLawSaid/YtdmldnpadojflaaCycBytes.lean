/- Limbs: written down and read. No condition. -/
import Derived.Test.YtdmldnpadojflaaCycText
import Derived.Laws.BytesArg
namespace Go.Proofs.Ytdmldnpadojflaa
open Go.RowKit

theorem infoByte : (Try.prog.info? 5).map (fun i => (i.zero, i.size, i.bytes)) = some (some (.int .u8 0), 1, 1) := by kernel_rfl

def byteAt (a k : Nat) : Nat := a / 256 ^ k % 256

/-- The bytes of a number, the highest first; those from the k-th on (from behind) are nought. -/
def textL (a size k : Nat) : List Int := (List.range size).map fun p => if size - 1 - p < k then (byteAt a (size - 1 - p) : Int) else 0
def textS (a size : Nat) : ByteArray := strOfNums (textL a size size)

theorem textL_length (a size k : Nat) : (textL a size k).length = size := by simp [textL]
theorem textL_zero (a size : Nat) : textL a size 0 = List.replicate size 0 := by
  simp only [textL, Nat.not_lt_zero, if_false]
  refine List.ext_getElem (by simp) (fun i h1 h2 => by simp)
theorem textL_set (a size k : Nat) (hk : k < size) : (textL a size k).set (size - 1 - k) (byteAt a k : Int) = textL a size (k + 1) := by
  refine List.ext_getElem (by simp [textL]) (fun i h1 h2 => ?_)
  rw [textL_length] at h2
  rw [List.getElem_set]
  simp only [textL, List.getElem_map, List.getElem_range]
  by_cases h : size - 1 - k = i
  · rw [if_pos h, if_pos (by omega), show size - 1 - i = k by omega]
  · rw [if_neg h]
    by_cases h3 : size - 1 - i < k
    · rw [if_pos h3, if_pos (by omega)]
    · rw [if_neg h3, if_neg (by omega)]

theorem byte_digit (n i : Nat) : n / BB ^ (i / 8) % BB / 2 ^ (8 * (i % 8)) % 256 = n / 256 ^ i % 256 := by
  have hb : BB = 256 ^ 8 := rfl
  have h2 : (2 : Nat) ^ (8 * (i % 8)) = 256 ^ (i % 8) := by rw [Nat.pow_mul]
  rw [h2, hb, ← Nat.pow_mul]
  have hlt := Nat.mod_lt i (show 8 > 0 by omega)
  have e : (256 : Nat) ^ 8 = 256 ^ (i % 8) * (256 * 256 ^ (7 - i % 8)) := by
    rw [← Nat.pow_succ', ← Nat.pow_add]; congr 1; omega
  rw [e, Nat.mod_mul_right_div_self, Nat.mod_mul_right_mod, Nat.div_div_eq_div_mul, ← Nat.pow_add]
  congr 3
  omega

theorem bytes_made (n : Nat) : (madeCells #[Value.int .u8 0] n).toList = (List.replicate n (0 : Int)).map (Value.int .u8) := by
  refine List.ext_getElem (by simp [madeCells]) (fun i h1 h2 => by simp [madeCells, Nat.mod_one])

set_option maxHeartbeats 1000000 in
theorem text_any (a size : Nat) (hs : size ≤ 32) (w : World) : Calls Try.prog 106 #[limbV a, .int .i64 size] w fun e w' => e = .returned (.string (textS a size)) ∧ Below w.heap.size w w' := by
  obtain ⟨i0, hi, hz0, hz1, hz2⟩ := info_parts infoByte
  unfold limbV
  go_enter Try.func106, Try.ntmps106
  go_wp2_with (at_make; refine wpList_make_full _ rfl _ _ 85 rfl 0 5 i0 (.int .u8 0) 1 Try.underlying85 hi hz0 hz1 _ _ _ _ size rfl rfl ?c1 ?c2 ?c3 ?c4 ?c5 ?_)
  case c1 => rfl
  case c2 => rfl
  case c3 => rw [hz2]; omega
  case c4 => unfold maxLen; omega
  case c5 => omega
  intro w1 hown hgrow
  have hA : Blk (w.alloc (Obj.cells #[.int .u64 (dig (a) 0 : Int), .int .u64 (dig (a) 1 : Int), .int .u64 (dig (a) 2 : Int), .int .u64 (dig (a) 3 : Int)] 76)) w.heap.size 76 (lim a) := Blk.new w _ (lim a) _ rfl
  have hb1 : Below (w.heap.size + 1) (w.alloc (Obj.cells #[.int .u64 (dig (a) 0 : Int), .int .u64 (dig (a) 1 : Int), .int .u64 (dig (a) 2 : Int), .int .u64 (dig (a) 3 : Int)] 76)) w1 := (Below.refl _ _).grown hgrow (by simp) (by simp)
  have hA1 := hA.below hb1 (by omega)
  have hown1 : w1.ownsRow 0 5 1 (.slice (some ⟨w.heap.size + 1, 0, none⟩) size size) size ((textL a size 0).map (Value.int .u8)) := by
    have h := hown
    rw [textL_zero]
    rw [bytes_made] at h
    exact h
  have HB1 := Lib.hid hb1
  have HA1 := Lib.hid hA1
  have hal := hA1.lt
  clear hown hgrow hA hA1 hb1 hi
  go_wp2_with fail
  go_loopw [6, 11] (fun _ i wr => ∃ k : Nat, k ≤ size ∧ i = .int .i64 k ∧ Hid (wr.ownsRow 0 5 1 (.slice (some ⟨w.heap.size + 1, 0, none⟩) size size) size ((textL a size k).map (Value.int .u8))) ∧ Hid (Below (w.heap.size + 1) (w.alloc (Obj.cells #[.int .u64 (dig (a) 0 : Int), .int .u64 (dig (a) 1 : Int), .int .u64 (dig (a) 2 : Int), .int .u64 (dig (a) 3 : Int)] 76)) wr)) (fun _ i _ => size - (intOf i).toNat)
  case atStart => exact ⟨0, Nat.zero_le _, rfl, hown1, HB1.out⟩
  case round =>
    clear hown1 HB1 HA1 hal
    obtain ⟨k, hk, rfl, HO, HN⟩ := hrel
    by_cases hkl : k < size
    · have hlen : size - 1 - k < ((textL a size k).map (Value.int .u8)).length := by simp [textL_length]; omega
      have hc := HO.out.cellAt (size - 1 - k) (by omega)
      rw [List.getElem?_eq_getElem hlen] at hc
      have hf := HO.out.frozenAt (size - 1 - k)
      have HS := Lib.hid (HO.out.stored (size - 1 - k) (.int .u8 (byteAt a k : Int)))
      generalize ((textL a size k).map (Value.int .u8))[size - 1 - k] = old at hc
      have hA : Blk (w.alloc (Obj.cells #[.int .u64 (dig (a) 0 : Int), .int .u64 (dig (a) 1 : Int), .int .u64 (dig (a) 2 : Int), .int .u64 (dig (a) 3 : Int)] 76)) w.heap.size 76 (lim a) := Blk.new w _ (lim a) _ rfl
      have hx := (hA.below HN.out (by omega)).cell (lim_at a (k / 8) (by omega))
      have hxl := (hA.below HN.out (by omega)).lt
      have hbyte : IntKind.u8.wrap ((dig a (k / 8) : Int) / 2 ^ (8 * (k % 8))) = (byteAt a k : Int) := by
        unfold byteAt
        rw [← byte_digit, IntKind.wrap_u8]
        simp [dig]
      have hidx : (size : Int) - 1 - (k : Int) = ((size - 1 - k : Nat) : Int) := by omega
      clear hlen hA
      go_wp2_with fail
      go_roundw
      case rel => exact ⟨k + 1, by omega, by go_num, by have h := HS.out.1; rw [← List.map_set, textL_set _ _ _ hkl] at h; exact h, HN.out.setCell (p := ⟨w.heap.size + 1, size - 1 - k, none⟩) (Nat.le_refl _) _⟩
      case measure => simp [intOf]; omega
    · have hks : k = size := by omega
      subst hks
      have hcv := run_convert_bytes_arg (P := Try.prog) wr 85 5 Try.underlying85 Try.underlying5 (w.heap.size + 1) 0 k k (textL a k k) (textL_length _ _ _) (fun i hi => by
        have h := HO.out.cellAt i (by omega)
        rw [Nat.zero_add, h, List.getElem?_map, List.getElem?_eq_getElem (by rw [textL_length]; exact hi)]
        simp [List.getD, List.getElem?_eq_getElem (show i < (textL a k k).length by rw [textL_length]; exact hi)]) 9 Try.underlying9
      have hbl : Below w.heap.size w wr := ((Below.refl _ _).alloc (Nat.le_refl _) _).trans (HN.out.mono (by omega))
      have HBL := Lib.hid hbl
      clear hbl
      go_wp2_with fail
      go_ret
      exact ⟨rfl, HBL.out⟩

/-- The number that bytes are, the highest first. -/
def numL : List UInt8 → Nat
  | [] => 0
  | c :: t => c.toNat * 256 ^ t.length + numL t
def numOf (s : ByteArray) : Nat := numL s.data.toList

theorem numL_lt : ∀ l : List UInt8, numL l < 256 ^ l.length
  | [] => by simp [numL]
  | c :: t => by
    have h1 := numL_lt t
    have h2 := c.toNat_lt
    rw [numL, List.length_cons, Nat.pow_succ]
    have h3 : c.toNat * 256 ^ t.length ≤ 255 * 256 ^ t.length := Nat.mul_le_mul_right _ (by omega)
    omega

/-- What the last k bytes are. -/
def numTo (s : ByteArray) (k : Nat) : Nat := numL (s.data.toList.drop (s.size - k))
theorem numTo_lt (s : ByteArray) (k : Nat) (hk : k ≤ s.size) : numTo s k < 256 ^ k := by
  have h := numL_lt (s.data.toList.drop (s.size - k))
  have e : (s.data.toList.drop (s.size - k)).length = k := by simp; have : s.data.size = s.size := rfl; omega
  rwa [e] at h
theorem numTo_zero (s : ByteArray) : numTo s 0 = 0 := by
  have h : s.data.toList.drop (s.size - 0) = [] := List.drop_eq_nil_of_le (Nat.le_refl _)
  rw [numTo, h, numL]
theorem numTo_all (s : ByteArray) : numTo s s.size = numOf s := by simp [numTo, numOf]
theorem numTo_succ (s : ByteArray) (k : Nat) (hk : k < s.size) : numTo s (k + 1) = (s[s.size - 1 - k]'(by omega)).toNat * 256 ^ k + numTo s k := by
  have hsz : s.data.toList.length = s.size := rfl
  have h : s.data.toList.drop (s.size - (k + 1)) = s[s.size - 1 - k]'(by omega) :: s.data.toList.drop (s.size - k) := by
    rw [List.drop_eq_getElem_cons (by omega)]
    congr 1
    · have hi : s.size - (k + 1) = s.size - 1 - k := by omega
      simp only [hi]
      rfl
    · congr 1; omega
  have e : (s.data.toList.drop (s.size - k)).length = k := by rw [List.length_drop]; omega
  rw [numTo, h, numL, e, numTo]

theorem dig_put (v c k : Nat) (hv : v < 256 ^ k) (hc : c < 256) (j : Nat) : dig (c * 256 ^ k + v) j = if j = k / 8 then dig v j + c * 2 ^ (8 * (k % 8)) else dig v j := by
  have hb : BB = 256 ^ 8 := rfl
  have h2 : (2 : Nat) ^ (8 * (k % 8)) = 256 ^ (k % 8) := by rw [Nat.pow_mul]
  unfold dig
  rw [h2, hb, ← Nat.pow_mul]
  rcases Nat.lt_trichotomy j (k / 8) with h | h | h
  · rw [if_neg (by omega)]
    have e : (256 : Nat) ^ k = 256 ^ (8 * j) * (256 ^ 8 * 256 ^ (k - 8 * j - 8)) := by rw [← Nat.pow_add, ← Nat.pow_add]; congr 1; omega
    rw [e, Nat.mul_left_comm, Nat.add_comm, Nat.add_mul_div_left _ _ (Nat.pow_pos (by omega)), Nat.mul_left_comm c, Nat.add_mul_mod_self_left]
  · subst h
    rw [if_pos rfl]
    have hk : 8 * (k / 8) + k % 8 = k := Nat.div_add_mod k 8
    have e : (256 : Nat) ^ k = 256 ^ (8 * (k / 8)) * 256 ^ (k % 8) := by rw [← Nat.pow_add, hk]
    rw [e, Nat.mul_left_comm, Nat.add_comm, Nat.add_mul_div_left _ _ (Nat.pow_pos (by omega))]
    have hq : v / 256 ^ (8 * (k / 8)) < 256 ^ (k % 8) := Nat.div_lt_of_lt_mul (by rw [← e]; exact hv)
    have h8 : (256 : Nat) ^ (k % 8) * 256 ≤ 256 ^ 8 := by rw [← Nat.pow_succ]; exact Nat.pow_le_pow_right (by omega) (by omega)
    have h9 : c * 256 ^ (k % 8) ≤ 255 * 256 ^ (k % 8) := Nat.mul_le_mul_right _ (by omega)
    generalize (256 : Nat) ^ (k % 8) = p at *
    generalize v / 256 ^ (8 * (k / 8)) = q at *
    rw [Nat.mod_eq_of_lt (by omega), Nat.mod_eq_of_lt (a := q) (by omega)]
  · rw [if_neg (by omega)]
    have hle : (256 : Nat) ^ (k + 1) ≤ 256 ^ (8 * j) := Nat.pow_le_pow_right (by omega) (by omega)
    have h9 : c * 256 ^ k ≤ 255 * 256 ^ k := Nat.mul_le_mul_right _ (by omega)
    rw [Nat.pow_succ] at hle
    rw [Nat.div_eq_of_lt (by omega), Nat.div_eq_of_lt (by omega)]

theorem lim_put (v c k : Nat) (hv : v < 256 ^ k) (hc : c < 256) (hk : k < 32) : (lim v).set (k / 8) (dig (c * 256 ^ k + v) (k / 8) : Int) = lim (c * 256 ^ k + v) := by
  have h := dig_put v c k hv hc
  have hj : k / 8 < 4 := by omega
  have e : ∀ j, j ≠ k / 8 → dig (c * 256 ^ k + v) j = dig v j := fun j hj => by rw [h, if_neg hj]
  generalize k / 8 = i at *
  match i, hj with
  | 0, _ => simp [lim, e 1 (by omega), e 2 (by omega), e 3 (by omega)]
  | 1, _ => simp [lim, e 0 (by omega), e 2 (by omega), e 3 (by omega)]
  | 2, _ => simp [lim, e 0 (by omega), e 1 (by omega), e 3 (by omega)]
  | 3, _ => simp [lim, e 0 (by omega), e 1 (by omega), e 2 (by omega)]

theorem dig_or (v c k : Nat) (hv : v < 256 ^ k) (hc : c < 256) (hk : k < 32) : bits .or .u64 (dig v (k / 8) : Int) (IntKind.u64.wrap ((c : Int) * 2 ^ (8 * (k % 8)))) = (dig (c * 256 ^ k + v) (k / 8) : Int) := by
  have h := dig_put v c k hv hc (k / 8)
  rw [if_pos rfl] at h
  have hb : BB = 256 ^ 8 := rfl
  have h2 : (2 : Nat) ^ (8 * (k % 8)) = 256 ^ (k % 8) := by rw [Nat.pow_mul]
  have hlt : dig v (k / 8) < 2 ^ (8 * (k % 8)) := by
    unfold dig
    rw [h2, hb, ← Nat.pow_mul]
    refine Nat.lt_of_le_of_lt (Nat.mod_le _ _) (Nat.div_lt_of_lt_mul ?_)
    rw [← Nat.pow_add, Nat.div_add_mod]
    exact hv
  have h3 := dig_lt (c * 256 ^ k + v) (k / 8)
  have hcs : c * 2 ^ (8 * (k % 8)) < 2 ^ 64 := by
    show _ < 18446744073709551616
    have : BB = 18446744073709551616 := rfl
    omega
  have hw : IntKind.u64.wrap ((c : Int) * 2 ^ (8 * (k % 8))) = ((c * 2 ^ (8 * (k % 8)) : Nat) : Int) := by
    have e : ((c : Int) * 2 ^ (8 * (k % 8))) = ((c * 2 ^ (8 * (k % 8)) : Nat) : Int) := by simp
    rw [e]
    exact wraps_u64 _ (Int.natCast_nonneg _) (by exact_mod_cast hcs)
  rw [hw, (bits_nat .u64 64 (by decide) wraps_u64 (dig v (k / 8)) (c * 2 ^ (8 * (k % 8))) (dig_lt _ _) hcs).2, h]
  congr 1
  rw [Nat.or_comm, ← Nat.shiftLeft_eq, ← Nat.shiftLeft_add_eq_or_of_lt hlt, Nat.add_comm]

set_option maxHeartbeats 1000000 in
theorem read_long (s : ByteArray) (hs : 32 < s.size) (w : World) : Calls Try.prog 111 #[.string s] w fun e w' => e = .returned (.tuple #[limbV 0, .bool false]) ∧ Below w.heap.size w w' := by
  go_enter Try.func111, Try.ntmps111
  go_wp2_with fail
  simp [bodyPost, results, Try.results111, go_sem, limbV, dig]
  exact (Below.refl _ _).alloc (Nat.le_refl _) _

set_option maxHeartbeats 1000000 in
theorem read_any (s : ByteArray) (hs : s.size ≤ 32) (w : World) : Calls Try.prog 111 #[.string s] w fun e w' => e = .returned (.tuple #[limbV (numOf s), .bool true]) ∧ Below w.heap.size w w' := by
  go_enter Try.func111, Try.ntmps111
  go_wp2_with fail
  have hT : Blk (w.alloc (Obj.cells #[.int .u64 0, .int .u64 0, .int .u64 0, .int .u64 0] 76)) w.heap.size 76 (lim (numTo s 0)) := by rw [numTo_zero]; exact Blk.new w _ (lim 0) _ rfl
  have hBW : Below w.heap.size w (w.alloc (Obj.cells #[.int .u64 0, .int .u64 0, .int .u64 0, .int .u64 0] 76)) := (Below.refl _ _).alloc (Nat.le_refl _) _
  have HT := Lib.hid hT
  have HBW := Lib.hid hBW
  clear hT hBW
  go_loopw [4, 11] (fun _ i wr => ∃ k : Nat, k ≤ s.size ∧ i = .int .i64 k ∧ Hid (Blk wr w.heap.size 76 (lim (numTo s k))) ∧ Hid (Below w.heap.size w wr)) (fun _ i _ => s.size - (intOf i).toNat)
  case atStart => exact ⟨0, Nat.zero_le _, rfl, HT.out, HBW.out⟩
  case round =>
    clear HT HBW
    obtain ⟨k, hk, rfl, HT, HN⟩ := hrel
    have htl := HT.out.lt
    by_cases hkl : k < s.size
    · have hx := HT.out.cell (lim_at (numTo s k) (k / 8) (by omega))
      have hf := HT.out.frozen (k / 8)
      have hidx : (s.size : Int) - 1 - (k : Int) = ((s.size - 1 - k : Nat) : Int) := by omega
      have hlt : s.size - 1 - k < s.size := by omega
      have hc := (s[s.size - 1 - k]'hlt).toNat_lt
      have hor := dig_or (numTo s k) (s[s.size - 1 - k]'hlt).toNat k (numTo_lt s k hk) hc (by omega)
      have hlp := lim_put (numTo s k) (s[s.size - 1 - k]'hlt).toNat k (numTo_lt s k hk) hc (by omega)
      have hset := HT.out.set (k / 8) (dig (numTo s (k + 1)) (k / 8) : Int)
      rw [← numTo_succ s k hkl] at hor hlp
      rw [hlp] at hset
      have HS := Lib.hid hset
      have HB := Lib.hid (HN.out.setCell (p := ⟨w.heap.size, k / 8, none⟩) (Nat.le_refl _) (.int .u64 (dig (numTo s (k + 1)) (k / 8) : Int)))
      clear hset
      have HLP := Lib.hid hlp
      clear hlp
      go_wp2_with fail
      refine wp_region_otail 18 (by kernel_rfl) (by kernel_rfl) ?_
      simp only [List.take_succ_cons, List.take_zero, List.drop_succ_cons, List.drop_zero]
      have hov := fun (E : Over wr) o => E.cell (b := w.heap.size) o htl
      repeat (go_big_quiet_step (fail))
      refine wpQuiet_nil ?_
      rintro _ ⟨E, rfl⟩
      have HTE := Lib.hid (HT.out.below E.h HT.out.lt)
      have HNE := Lib.hid (HN.out.trans (E.h.mono (by omega)))
      clear hov hx hf HS HB
      generalize E.w = w5 at *
      have hx := HTE.out.cell (lim_at (numTo s k) (k / 8) (by omega))
      have hf := HTE.out.frozen (k / 8)
      have hset := HTE.out.set (k / 8) (dig (numTo s (k + 1)) (k / 8) : Int)
      rw [HLP.out] at hset
      have HS := Lib.hid hset
      clear hset
      go_wp2_with fail
      go_roundw
      case rel => exact ⟨k + 1, by omega, by go_num, HS.out, HNE.out.setCell (p := ⟨w.heap.size, k / 8, none⟩) (Nat.le_refl _) _⟩
      case measure => simp [intOf]; omega
    · have hks : k = s.size := by omega
      subst hks
      rw [numTo_all] at HT
      have hg_0 := HT.out.cell (i := 0) (x := (dig (numOf s) 0 : Int)) rfl
      have hg_1 := HT.out.cell (i := 1) (x := (dig (numOf s) 1 : Int)) rfl
      have hg_2 := HT.out.cell (i := 2) (x := (dig (numOf s) 2 : Int)) rfl
      have hg_3 := HT.out.cell (i := 3) (x := (dig (numOf s) 3 : Int)) rfl
      have hgf_0 := HT.out.frozen 0
      have hgf_1 := HT.out.frozen 1
      have hgf_2 := HT.out.frozen 2
      have hgf_3 := HT.out.frozen 3
      have HS := Lib.hid (HT.out.fill rfl (numOf s))
      have HB := Lib.hid (below_fill (n := numOf s) (b := w.heap.size) HN.out (Nat.le_refl _))
      go_wp2_with fail
      generalize (((((wr).setCell ⟨w.heap.size, 0, none⟩ (.int .u64 (dig (numOf s) 0 : Int))).setCell ⟨w.heap.size, 1, none⟩ (.int .u64 (dig (numOf s) 1 : Int))).setCell ⟨w.heap.size, 2, none⟩ (.int .u64 (dig (numOf s) 2 : Int))).setCell ⟨w.heap.size, 3, none⟩ (.int .u64 (dig (numOf s) 3 : Int))) = w5 at *
      clear hg_0 hg_1 hg_2 hg_3
      have hg_0 := HS.out.cell (i := 0) (x := (dig (numOf s) 0 : Int)) rfl
      have hg_1 := HS.out.cell (i := 1) (x := (dig (numOf s) 1 : Int)) rfl
      have hg_2 := HS.out.cell (i := 2) (x := (dig (numOf s) 2 : Int)) rfl
      have hg_3 := HS.out.cell (i := 3) (x := (dig (numOf s) 3 : Int)) rfl
      simp [bodyPost, results, Try.results111, go_sem, hg_0, hg_1, hg_2, hg_3]
      exact ⟨rfl, HB.out⟩

end Go.Proofs.Ytdmldnpadojflaa
