/- Texts of this seat, one behind the other: what SigmaExtracts leans on. No condition beyond those that each names. -/
import Derived.Test.YtipgjookfdkciaaZSigmaExtracts1
import Derived.Laws.BytesArg
import Derived.Laws.StructEq
import Derived.ChangeKeysEq
import Derived.Deep.Cut

/- Limbs: written down and read. No condition. -/
namespace Go.Proofs.Ytipgjookfdkciaa
open Go.RowKit

theorem infoByte : (Try.prog.info? 5).map (fun i => (i.zero, i.size, i.bytes)) = some (some (.int .u8 0), 1, 1) := by kernel_rfl

def byteAt (a k : Nat) : Nat := a / 256 ^ k % 256

/-- The bytes of a number, the highest first; those from the k-th on (from behind) are nought. -/
def textL (a size k : Nat) : List Int := (List.range size).map fun p => if size - 1 - p < k then (byteAt a (size - 1 - p) : Int) else 0
def textS (a size : Nat) : ByteArray := strOfNums (textL a size size)

theorem textL_length (a size k : Nat) : (textL a size k).length = size := by simp [textL]
theorem textL_zero (a size : Nat) : textL a size 0 = List.replicate size 0 := by
  simp only [textL, Nat.not_lt_zero, if_false]
  refine List.ext_getElem (by simp) (fun i h1 h2 => by simp)
theorem textL_set (a size k : Nat) (hk : k < size) : (textL a size k).set (size - 1 - k) (byteAt a k : Int) = textL a size (k + 1) := by
  refine List.ext_getElem (by simp [textL]) (fun i h1 h2 => ?_)
  rw [textL_length] at h2
  rw [List.getElem_set]
  simp only [textL, List.getElem_map, List.getElem_range]
  by_cases h : size - 1 - k = i
  · rw [if_pos h, if_pos (by omega), show size - 1 - i = k by omega]
  · rw [if_neg h]
    by_cases h3 : size - 1 - i < k
    · rw [if_pos h3, if_pos (by omega)]
    · rw [if_neg h3, if_neg (by omega)]

theorem byte_digit (n i : Nat) : n / BB ^ (i / 8) % BB / 2 ^ (8 * (i % 8)) % 256 = n / 256 ^ i % 256 := by
  have hb : BB = 256 ^ 8 := rfl
  have h2 : (2 : Nat) ^ (8 * (i % 8)) = 256 ^ (i % 8) := by rw [Nat.pow_mul]
  rw [h2, hb, ← Nat.pow_mul]
  have hlt := Nat.mod_lt i (show 8 > 0 by omega)
  have e : (256 : Nat) ^ 8 = 256 ^ (i % 8) * (256 * 256 ^ (7 - i % 8)) := by
    rw [← Nat.pow_succ', ← Nat.pow_add]; congr 1; omega
  rw [e, Nat.mod_mul_right_div_self, Nat.mod_mul_right_mod, Nat.div_div_eq_div_mul, ← Nat.pow_add]
  congr 3
  omega

theorem bytes_made (n : Nat) : (madeCells #[Value.int .u8 0] n).toList = (List.replicate n (0 : Int)).map (Value.int .u8) := by
  refine List.ext_getElem (by simp [madeCells]) (fun i h1 h2 => by simp [madeCells, Nat.mod_one])

set_option maxHeartbeats 1000000 in
theorem text_any (a size : Nat) (hs : size ≤ 32) (w : World) : Calls Try.prog 135 #[limbV a, .int .i64 size] w fun e w' => e = .returned (.string (textS a size)) ∧ Below w.heap.size w w' := by
  obtain ⟨i0, hi, hz0, hz1, hz2⟩ := info_parts infoByte
  unfold limbV
  go_enter Try.func135, Try.ntmps135
  go_wp2_with (at_make; refine wpList_make_full _ rfl _ _ 189 rfl 0 5 i0 (.int .u8 0) 1 Try.underlying189 hi hz0 hz1 _ _ _ _ size rfl rfl ?c1 ?c2 ?c3 ?c4 ?c5 ?_)
  case c1 => rfl
  case c2 => rfl
  case c3 => rw [hz2]; omega
  case c4 => unfold maxLen; omega
  case c5 => omega
  intro w1 hown hgrow
  have hA : Blk (w.alloc (Obj.cells #[.int .u64 (dig (a) 0 : Int), .int .u64 (dig (a) 1 : Int), .int .u64 (dig (a) 2 : Int), .int .u64 (dig (a) 3 : Int)] 89)) w.heap.size 89 (lim a) := Blk.new w _ (lim a) _ rfl
  have hb1 : Below (w.heap.size + 1) (w.alloc (Obj.cells #[.int .u64 (dig (a) 0 : Int), .int .u64 (dig (a) 1 : Int), .int .u64 (dig (a) 2 : Int), .int .u64 (dig (a) 3 : Int)] 89)) w1 := (Below.refl _ _).grown hgrow (by simp) (by simp)
  have hA1 := hA.below hb1 (by omega)
  have hown1 : w1.ownsRow 0 5 1 (.slice (some ⟨w.heap.size + 1, 0, none⟩) size size) size ((textL a size 0).map (Value.int .u8)) := by
    have h := hown
    rw [textL_zero]
    rw [bytes_made] at h
    exact h
  have HB1 := Lib.hid hb1
  have HA1 := Lib.hid hA1
  have hal := hA1.lt
  clear hown hgrow hA hA1 hb1 hi
  go_wp2_with fail
  go_loopw [6, 11] (fun _ i wr => ∃ k : Nat, k ≤ size ∧ i = .int .i64 k ∧ Hid (wr.ownsRow 0 5 1 (.slice (some ⟨w.heap.size + 1, 0, none⟩) size size) size ((textL a size k).map (Value.int .u8))) ∧ Hid (Below (w.heap.size + 1) (w.alloc (Obj.cells #[.int .u64 (dig (a) 0 : Int), .int .u64 (dig (a) 1 : Int), .int .u64 (dig (a) 2 : Int), .int .u64 (dig (a) 3 : Int)] 89)) wr)) (fun _ i _ => size - (intOf i).toNat)
  case atStart => exact ⟨0, Nat.zero_le _, rfl, hown1, HB1.out⟩
  case round =>
    clear hown1 HB1 HA1 hal
    obtain ⟨k, hk, rfl, HO, HN⟩ := hrel
    by_cases hkl : k < size
    · have hlen : size - 1 - k < ((textL a size k).map (Value.int .u8)).length := by simp [textL_length]; omega
      have hc := HO.out.cellAt (size - 1 - k) (by omega)
      rw [List.getElem?_eq_getElem hlen] at hc
      have hf := HO.out.frozenAt (size - 1 - k)
      have HS := Lib.hid (HO.out.stored (size - 1 - k) (.int .u8 (byteAt a k : Int)))
      generalize ((textL a size k).map (Value.int .u8))[size - 1 - k] = old at hc
      have hA : Blk (w.alloc (Obj.cells #[.int .u64 (dig (a) 0 : Int), .int .u64 (dig (a) 1 : Int), .int .u64 (dig (a) 2 : Int), .int .u64 (dig (a) 3 : Int)] 89)) w.heap.size 89 (lim a) := Blk.new w _ (lim a) _ rfl
      have hx := (hA.below HN.out (by omega)).cell (lim_at a (k / 8) (by omega))
      have hxl := (hA.below HN.out (by omega)).lt
      have hbyte : IntKind.u8.wrap ((dig a (k / 8) : Int) / 2 ^ (8 * (k % 8))) = (byteAt a k : Int) := by
        unfold byteAt
        rw [← byte_digit, IntKind.wrap_u8]
        simp [dig]
      have hidx : (size : Int) - 1 - (k : Int) = ((size - 1 - k : Nat) : Int) := by omega
      clear hlen hA
      go_wp2_with fail
      go_roundw
      case rel => exact ⟨k + 1, by omega, by go_num, by have h := HS.out.1; rw [← List.map_set, textL_set _ _ _ hkl] at h; exact h, HN.out.setCell (p := ⟨w.heap.size + 1, size - 1 - k, none⟩) (Nat.le_refl _) _⟩
      case measure => simp [intOf]; omega
    · have hks : k = size := by omega
      subst hks
      have hcv := run_convert_bytes_arg (P := Try.prog) wr 189 5 Try.underlying189 Try.underlying5 (w.heap.size + 1) 0 k k (textL a k k) (textL_length _ _ _) (fun i hi => by
        have h := HO.out.cellAt i (by omega)
        rw [Nat.zero_add, h, List.getElem?_map, List.getElem?_eq_getElem (by rw [textL_length]; exact hi)]
        simp [List.getD, List.getElem?_eq_getElem (show i < (textL a k k).length by rw [textL_length]; exact hi)]) 9 Try.underlying9
      have hbl : Below w.heap.size w wr := ((Below.refl _ _).alloc (Nat.le_refl _) _).trans (HN.out.mono (by omega))
      have HBL := Lib.hid hbl
      clear hbl
      go_wp2_with fail
      go_ret
      exact ⟨rfl, HBL.out⟩

/-- The number that bytes are, the highest first. -/
def numL : List UInt8 → Nat
  | [] => 0
  | c :: t => c.toNat * 256 ^ t.length + numL t
def numOf (s : ByteArray) : Nat := numL s.data.toList

theorem numL_lt : ∀ l : List UInt8, numL l < 256 ^ l.length
  | [] => by simp [numL]
  | c :: t => by
    have h1 := numL_lt t
    have h2 := c.toNat_lt
    rw [numL, List.length_cons, Nat.pow_succ]
    have h3 : c.toNat * 256 ^ t.length ≤ 255 * 256 ^ t.length := Nat.mul_le_mul_right _ (by omega)
    omega

/-- What the last k bytes are. -/
def numTo (s : ByteArray) (k : Nat) : Nat := numL (s.data.toList.drop (s.size - k))
theorem numTo_lt (s : ByteArray) (k : Nat) (hk : k ≤ s.size) : numTo s k < 256 ^ k := by
  have h := numL_lt (s.data.toList.drop (s.size - k))
  have e : (s.data.toList.drop (s.size - k)).length = k := by simp; have : s.data.size = s.size := rfl; omega
  rwa [e] at h
theorem numTo_zero (s : ByteArray) : numTo s 0 = 0 := by
  have h : s.data.toList.drop (s.size - 0) = [] := List.drop_eq_nil_of_le (Nat.le_refl _)
  rw [numTo, h, numL]
theorem numTo_all (s : ByteArray) : numTo s s.size = numOf s := by simp [numTo, numOf]
theorem numTo_succ (s : ByteArray) (k : Nat) (hk : k < s.size) : numTo s (k + 1) = (s[s.size - 1 - k]'(by omega)).toNat * 256 ^ k + numTo s k := by
  have hsz : s.data.toList.length = s.size := rfl
  have h : s.data.toList.drop (s.size - (k + 1)) = s[s.size - 1 - k]'(by omega) :: s.data.toList.drop (s.size - k) := by
    rw [List.drop_eq_getElem_cons (by omega)]
    congr 1
    · have hi : s.size - (k + 1) = s.size - 1 - k := by omega
      simp only [hi]
      rfl
    · congr 1; omega
  have e : (s.data.toList.drop (s.size - k)).length = k := by rw [List.length_drop]; omega
  rw [numTo, h, numL, e, numTo]

theorem dig_put (v c k : Nat) (hv : v < 256 ^ k) (hc : c < 256) (j : Nat) : dig (c * 256 ^ k + v) j = if j = k / 8 then dig v j + c * 2 ^ (8 * (k % 8)) else dig v j := by
  have hb : BB = 256 ^ 8 := rfl
  have h2 : (2 : Nat) ^ (8 * (k % 8)) = 256 ^ (k % 8) := by rw [Nat.pow_mul]
  unfold dig
  rw [h2, hb, ← Nat.pow_mul]
  rcases Nat.lt_trichotomy j (k / 8) with h | h | h
  · rw [if_neg (by omega)]
    have e : (256 : Nat) ^ k = 256 ^ (8 * j) * (256 ^ 8 * 256 ^ (k - 8 * j - 8)) := by rw [← Nat.pow_add, ← Nat.pow_add]; congr 1; omega
    rw [e, Nat.mul_left_comm, Nat.add_comm, Nat.add_mul_div_left _ _ (Nat.pow_pos (by omega)), Nat.mul_left_comm c, Nat.add_mul_mod_self_left]
  · subst h
    rw [if_pos rfl]
    have hk : 8 * (k / 8) + k % 8 = k := Nat.div_add_mod k 8
    have e : (256 : Nat) ^ k = 256 ^ (8 * (k / 8)) * 256 ^ (k % 8) := by rw [← Nat.pow_add, hk]
    rw [e, Nat.mul_left_comm, Nat.add_comm, Nat.add_mul_div_left _ _ (Nat.pow_pos (by omega))]
    have hq : v / 256 ^ (8 * (k / 8)) < 256 ^ (k % 8) := Nat.div_lt_of_lt_mul (by rw [← e]; exact hv)
    have h8 : (256 : Nat) ^ (k % 8) * 256 ≤ 256 ^ 8 := by rw [← Nat.pow_succ]; exact Nat.pow_le_pow_right (by omega) (by omega)
    have h9 : c * 256 ^ (k % 8) ≤ 255 * 256 ^ (k % 8) := Nat.mul_le_mul_right _ (by omega)
    generalize (256 : Nat) ^ (k % 8) = p at *
    generalize v / 256 ^ (8 * (k / 8)) = q at *
    rw [Nat.mod_eq_of_lt (by omega), Nat.mod_eq_of_lt (a := q) (by omega)]
  · rw [if_neg (by omega)]
    have hle : (256 : Nat) ^ (k + 1) ≤ 256 ^ (8 * j) := Nat.pow_le_pow_right (by omega) (by omega)
    have h9 : c * 256 ^ k ≤ 255 * 256 ^ k := Nat.mul_le_mul_right _ (by omega)
    rw [Nat.pow_succ] at hle
    rw [Nat.div_eq_of_lt (by omega), Nat.div_eq_of_lt (by omega)]

theorem lim_put (v c k : Nat) (hv : v < 256 ^ k) (hc : c < 256) (hk : k < 32) : (lim v).set (k / 8) (dig (c * 256 ^ k + v) (k / 8) : Int) = lim (c * 256 ^ k + v) := by
  have h := dig_put v c k hv hc
  have hj : k / 8 < 4 := by omega
  have e : ∀ j, j ≠ k / 8 → dig (c * 256 ^ k + v) j = dig v j := fun j hj => by rw [h, if_neg hj]
  generalize k / 8 = i at *
  match i, hj with
  | 0, _ => simp [lim, e 1 (by omega), e 2 (by omega), e 3 (by omega)]
  | 1, _ => simp [lim, e 0 (by omega), e 2 (by omega), e 3 (by omega)]
  | 2, _ => simp [lim, e 0 (by omega), e 1 (by omega), e 3 (by omega)]
  | 3, _ => simp [lim, e 0 (by omega), e 1 (by omega), e 2 (by omega)]

theorem dig_or (v c k : Nat) (hv : v < 256 ^ k) (hc : c < 256) (hk : k < 32) : bits .or .u64 (dig v (k / 8) : Int) (IntKind.u64.wrap ((c : Int) * 2 ^ (8 * (k % 8)))) = (dig (c * 256 ^ k + v) (k / 8) : Int) := by
  have h := dig_put v c k hv hc (k / 8)
  rw [if_pos rfl] at h
  have hb : BB = 256 ^ 8 := rfl
  have h2 : (2 : Nat) ^ (8 * (k % 8)) = 256 ^ (k % 8) := by rw [Nat.pow_mul]
  have hlt : dig v (k / 8) < 2 ^ (8 * (k % 8)) := by
    unfold dig
    rw [h2, hb, ← Nat.pow_mul]
    refine Nat.lt_of_le_of_lt (Nat.mod_le _ _) (Nat.div_lt_of_lt_mul ?_)
    rw [← Nat.pow_add, Nat.div_add_mod]
    exact hv
  have h3 := dig_lt (c * 256 ^ k + v) (k / 8)
  have hcs : c * 2 ^ (8 * (k % 8)) < 2 ^ 64 := by
    show _ < 18446744073709551616
    have : BB = 18446744073709551616 := rfl
    omega
  have hw : IntKind.u64.wrap ((c : Int) * 2 ^ (8 * (k % 8))) = ((c * 2 ^ (8 * (k % 8)) : Nat) : Int) := by
    have e : ((c : Int) * 2 ^ (8 * (k % 8))) = ((c * 2 ^ (8 * (k % 8)) : Nat) : Int) := by simp
    rw [e]
    exact wraps_u64 _ (Int.natCast_nonneg _) (by exact_mod_cast hcs)
  rw [hw, (bits_nat .u64 64 (by decide) wraps_u64 (dig v (k / 8)) (c * 2 ^ (8 * (k % 8))) (dig_lt _ _) hcs).2, h]
  congr 1
  rw [Nat.or_comm, ← Nat.shiftLeft_eq, ← Nat.shiftLeft_add_eq_or_of_lt hlt, Nat.add_comm]

set_option maxHeartbeats 1000000 in
theorem read_long (s : ByteArray) (hs : 32 < s.size) (w : World) : Calls Try.prog 128 #[.string s] w fun e w' => e = .returned (.tuple #[limbV 0, .bool false]) ∧ Below w.heap.size w w' := by
  go_enter Try.func128, Try.ntmps128
  go_wp2_with fail
  simp [bodyPost, results, Try.results128, go_sem, limbV, dig]
  exact (Below.refl _ _).alloc (Nat.le_refl _) _

set_option maxHeartbeats 1000000 in
theorem read_any (s : ByteArray) (hs : s.size ≤ 32) (w : World) : Calls Try.prog 128 #[.string s] w fun e w' => e = .returned (.tuple #[limbV (numOf s), .bool true]) ∧ Below w.heap.size w w' := by
  go_enter Try.func128, Try.ntmps128
  go_wp2_with fail
  have hT : Blk (w.alloc (Obj.cells #[.int .u64 0, .int .u64 0, .int .u64 0, .int .u64 0] 89)) w.heap.size 89 (lim (numTo s 0)) := by rw [numTo_zero]; exact Blk.new w _ (lim 0) _ rfl
  have hBW : Below w.heap.size w (w.alloc (Obj.cells #[.int .u64 0, .int .u64 0, .int .u64 0, .int .u64 0] 89)) := (Below.refl _ _).alloc (Nat.le_refl _) _
  have HT := Lib.hid hT
  have HBW := Lib.hid hBW
  clear hT hBW
  go_loopw [4, 11] (fun _ i wr => ∃ k : Nat, k ≤ s.size ∧ i = .int .i64 k ∧ Hid (Blk wr w.heap.size 89 (lim (numTo s k))) ∧ Hid (Below w.heap.size w wr)) (fun _ i _ => s.size - (intOf i).toNat)
  case atStart => exact ⟨0, Nat.zero_le _, rfl, HT.out, HBW.out⟩
  case round =>
    clear HT HBW
    obtain ⟨k, hk, rfl, HT, HN⟩ := hrel
    have htl := HT.out.lt
    by_cases hkl : k < s.size
    · have hx := HT.out.cell (lim_at (numTo s k) (k / 8) (by omega))
      have hf := HT.out.frozen (k / 8)
      have hidx : (s.size : Int) - 1 - (k : Int) = ((s.size - 1 - k : Nat) : Int) := by omega
      have hlt : s.size - 1 - k < s.size := by omega
      have hc := (s[s.size - 1 - k]'hlt).toNat_lt
      have hor := dig_or (numTo s k) (s[s.size - 1 - k]'hlt).toNat k (numTo_lt s k hk) hc (by omega)
      have hlp := lim_put (numTo s k) (s[s.size - 1 - k]'hlt).toNat k (numTo_lt s k hk) hc (by omega)
      have hset := HT.out.set (k / 8) (dig (numTo s (k + 1)) (k / 8) : Int)
      rw [← numTo_succ s k hkl] at hor hlp
      rw [hlp] at hset
      have HS := Lib.hid hset
      have HB := Lib.hid (HN.out.setCell (p := ⟨w.heap.size, k / 8, none⟩) (Nat.le_refl _) (.int .u64 (dig (numTo s (k + 1)) (k / 8) : Int)))
      clear hset
      have HLP := Lib.hid hlp
      clear hlp
      go_wp2_with fail
      refine wp_region_otail 18 (by kernel_rfl) (by kernel_rfl) ?_
      simp only [List.take_succ_cons, List.take_zero, List.drop_succ_cons, List.drop_zero]
      have hov := fun (E : Over wr) o => E.cell (b := w.heap.size) o htl
      repeat (go_big_quiet_step (fail))
      refine wpQuiet_nil ?_
      rintro _ ⟨E, rfl⟩
      have HTE := Lib.hid (HT.out.below E.h HT.out.lt)
      have HNE := Lib.hid (HN.out.trans (E.h.mono (by omega)))
      clear hov hx hf HS HB
      generalize E.w = w5 at *
      have hx := HTE.out.cell (lim_at (numTo s k) (k / 8) (by omega))
      have hf := HTE.out.frozen (k / 8)
      have hset := HTE.out.set (k / 8) (dig (numTo s (k + 1)) (k / 8) : Int)
      rw [HLP.out] at hset
      have HS := Lib.hid hset
      clear hset
      go_wp2_with fail
      go_roundw
      case rel => exact ⟨k + 1, by omega, by go_num, HS.out, HNE.out.setCell (p := ⟨w.heap.size, k / 8, none⟩) (Nat.le_refl _) _⟩
      case measure => simp [intOf]; omega
    · have hks : k = s.size := by omega
      subst hks
      rw [numTo_all] at HT
      have hg_0 := HT.out.cell (i := 0) (x := (dig (numOf s) 0 : Int)) rfl
      have hg_1 := HT.out.cell (i := 1) (x := (dig (numOf s) 1 : Int)) rfl
      have hg_2 := HT.out.cell (i := 2) (x := (dig (numOf s) 2 : Int)) rfl
      have hg_3 := HT.out.cell (i := 3) (x := (dig (numOf s) 3 : Int)) rfl
      have hgf_0 := HT.out.frozen 0
      have hgf_1 := HT.out.frozen 1
      have hgf_2 := HT.out.frozen 2
      have hgf_3 := HT.out.frozen 3
      have HS := Lib.hid (HT.out.fill rfl (numOf s))
      have HB := Lib.hid (below_fill (n := numOf s) (b := w.heap.size) HN.out (Nat.le_refl _))
      go_wp2_with fail
      generalize (((((wr).setCell ⟨w.heap.size, 0, none⟩ (.int .u64 (dig (numOf s) 0 : Int))).setCell ⟨w.heap.size, 1, none⟩ (.int .u64 (dig (numOf s) 1 : Int))).setCell ⟨w.heap.size, 2, none⟩ (.int .u64 (dig (numOf s) 2 : Int))).setCell ⟨w.heap.size, 3, none⟩ (.int .u64 (dig (numOf s) 3 : Int))) = w5 at *
      clear hg_0 hg_1 hg_2 hg_3
      have hg_0 := HS.out.cell (i := 0) (x := (dig (numOf s) 0 : Int)) rfl
      have hg_1 := HS.out.cell (i := 1) (x := (dig (numOf s) 1 : Int)) rfl
      have hg_2 := HS.out.cell (i := 2) (x := (dig (numOf s) 2 : Int)) rfl
      have hg_3 := HS.out.cell (i := 3) (x := (dig (numOf s) 3 : Int)) rfl
      simp [bodyPost, results, Try.results128, go_sem, hg_0, hg_1, hg_2, hg_3]
      exact ⟨rfl, HB.out⟩

end Go.Proofs.Ytipgjookfdkciaa

/- The group of a kind: its scalars reckon. No condition. -/
namespace Go.Proofs.Ytipgjookfdkciaa
open Go.RowKit

theorem addM (R : RingP) (ok : R.Ok) (rb off x y : Nat) (w : World) (hR : RingAt w rb off R) :
    Calls Try.prog 145 #[.pointer (some ⟨rb, off, none⟩), limbV (mont R.m x), limbV (mont R.m y)] w fun e w' => e = .returned (limbV (mont R.m (x + y))) ∧ Below w.heap.size w w' :=
  ringAdd_any R rb off _ _ _ (by
    have h1 := mont_lt ok.pos x
    have h2 := mont_lt ok.pos y
    have h3 := ok.top
    simp only [BB] at h3
    show _ < 18446744073709551616 ^ 4
    omega) ok.lt4 (mont_add R.m x y ok.pos).symm w hR

theorem subM (R : RingP) (ok : R.Ok) (rb off x y : Nat) (hy : y ≤ R.m) (w : World) (hR : RingAt w rb off R) :
    Calls Try.prog 133 #[.pointer (some ⟨rb, off, none⟩), limbV (mont R.m x), limbV (mont R.m y)] w fun e w' => e = .returned (limbV (mont R.m (x + (R.m - y)))) ∧ Below w.heap.size w w' :=
  ringSub_any R rb off _ _ _ (mont_lt ok.pos x) (mont_lt ok.pos y) ok.lt4 (mont_sub R.m x y hy ok.pos).symm w hR

theorem outM (R : RingP) (ok : R.Ok) (rb off x : Nat) (w : World) (hR : RingAt w rb off R) :
    Calls Try.prog 134 #[.pointer (some ⟨rb, off, none⟩), limbV (mont R.m x)] w fun e w' => e = .returned (limbV (x % R.m)) ∧ Below w.heap.size w w' := by
  rw [← mont_mod]
  exact out_any R ok rb off _ (Nat.mod_lt _ ok.pos) w hR

/-- A group's numbers. -/
structure GP where
  kind : Nat
  size : Nat
  p : RingP
  q : RingP

structure GroupAt (W : World) (gb : Nat) (G : GP) : Prop where
  lt : gb < W.heap.size
  kind : W.cell? ⟨gb, 0, none⟩ = some (.int .i64 G.kind)
  size : W.cell? ⟨gb, 1, none⟩ = some (.int .i64 G.size)
  p : RingAt W gb 2 G.p
  q : RingAt W gb 15 G.q

theorem GroupAt.below {W W' : World} {gb n : Nat} {G : GP} (h : GroupAt W gb G) (hb : Below n W W') (hn : gb < n) : GroupAt W' gb G :=
  ⟨Nat.lt_of_lt_of_le h.lt hb.size, by rw [hb.cell (p := ⟨gb, 0, none⟩) hn]; exact h.kind, by rw [hb.cell (p := ⟨gb, 1, none⟩) hn]; exact h.size, h.p.below hb hn, h.q.below hb hn⟩
theorem GroupAt.up {W W' : World} {gb : Nat} {G : GP} (h : GroupAt W gb G) (hb : Below W.heap.size W W') : GroupAt W' gb G := h.below hb h.lt

structure GP.Ok (G : GP) : Prop where
  p : G.p.Ok
  q : G.q.Ok
  twice : G.p.m = 2 * G.q.m + 1
  size_le : G.size ≤ 32
  fits : G.q.m ≤ 256 ^ G.size
  odd : 256 < G.q.m

/-- Scalars and elements as values. -/
def scV (G : GP) (x : Nat) : Value := limbV (mont G.q.m x)
def elV (G : GP) (y : Nat) : Value := limbV (mont G.p.m y)

theorem limbV_small (c : Nat) (hc : c < BB) : limbV c = .agg #[.int .u64 (c : Int), .int .u64 0, .int .u64 0, .int .u64 0] := by
  have h0 : dig c 0 = c := by simp only [dig, Nat.pow_zero, Nat.div_one]; exact Nat.mod_eq_of_lt hc
  have h : ∀ i, 0 < i → dig c i = 0 := fun i hi => by
    unfold dig
    have : BB ≤ BB ^ i := by
      have := Nat.pow_le_pow_right (n := BB) (by decide) (show 1 ≤ i from hi)
      rwa [Nat.pow_one] at this
    rw [Nat.div_eq_of_lt (Nat.lt_of_lt_of_le hc this)]
    rfl
  simp only [limbV, h0, h 1 (by omega), h 2 (by omega), h 3 (by omega)]
  rfl

theorem subZ (R : RingP) (ok : R.Ok) (rb off y : Nat) (hy : y ≤ R.m) (w : World) (hR : RingAt w rb off R) :
    Calls Try.prog 133 #[.pointer (some ⟨rb, off, none⟩), .agg #[.int .u64 0, .int .u64 0, .int .u64 0, .int .u64 0], limbV (mont R.m y)] w fun e w' => e = .returned (limbV (mont R.m (R.m - y))) ∧ Below w.heap.size w w' := by
  have h := subM R ok rb off 0 y hy w hR
  rw [mont_zero, limbV_small 0 (by decide), Nat.zero_add] at h
  exact h

theorem inSmall (R : RingP) (ok : R.Ok) (rb off c : Nat) (hc : c < BB) (w : World) (hR : RingAt w rb off R) :
    Calls Try.prog 130 #[.pointer (some ⟨rb, off, none⟩), .agg #[.int .u64 (c : Int), .int .u64 0, .int .u64 0, .int .u64 0]] w fun e w' => e = .returned (limbV (mont R.m c)) ∧ Below w.heap.size w w' := by
  have h := in_any R ok rb off c (Nat.lt_trans hc (by decide)) w hR
  rwa [limbV_small c hc] at h

theorem onceSmall (R : RingP) (ok : R.Ok) (rb off c : Nat) (hc : c < 256) (h256 : 256 < R.m) (w : World) (hR : RingAt w rb off R) :
    Calls Try.prog 181 #[.pointer (some ⟨rb, off, none⟩), .agg #[.int .u64 (c : Int), .int .u64 0, .int .u64 0, .int .u64 0]] w fun e w' => e = .returned (.agg #[.int .u64 (c : Int), .int .u64 0, .int .u64 0, .int .u64 0]) ∧ Below w.heap.size w w' := by
  have hb : c < BB := Nat.lt_trans hc (by decide)
  have h := once_any R rb off c c (Nat.lt_trans hb (by decide)) ok.lt4 (by rw [if_neg (by omega)]) w hR
  rwa [limbV_small c hb] at h

set_option maxHeartbeats 1000000 in
theorem gAdd_any (G : GP) (ok : G.Ok) (gb : Nat) (x y : Nat)  (w : World) (hG : GroupAt w gb G) :
    Calls Try.prog 75 #[.pointer (some ⟨gb, 0, none⟩), scV G x, scV G y] w fun e w' => e = .returned (scV G (x + y)) ∧ Below w.heap.size w w' := by
  have OK := Lib.hid ok
  clear ok
  unfold scV limbV
  go_enter Try.func75, Try.ntmps75
  go_wp2_with fail
  obtain ⟨W0, hW0⟩ : ∃ W9 : World, (((w.alloc (Obj.cells #[.int .u64 (dig (mont G.q.m (x)) 0 : Int), .int .u64 (dig (mont G.q.m (x)) 1 : Int), .int .u64 (dig (mont G.q.m (x)) 2 : Int), .int .u64 (dig (mont G.q.m (x)) 3 : Int)] 91)).alloc (Obj.cells #[.int .u64 (dig (mont G.q.m (y)) 0 : Int), .int .u64 (dig (mont G.q.m (y)) 1 : Int), .int .u64 (dig (mont G.q.m (y)) 2 : Int), .int .u64 (dig (mont G.q.m (y)) 3 : Int)] 91)).alloc (Obj.cells #[.int .u64 0, .int .u64 0, .int .u64 0, .int .u64 0] 91)) = W9 := ⟨_, rfl⟩
  rw [hW0]
  have hX0 : Blk W0 (w.heap.size) 91 (lim (mont G.q.m (x))) := by
    rw [← hW0]
    have h := (((Blk.new w 91 (lim (mont G.q.m (x))) _ rfl).alloc (Obj.cells #[.int .u64 (dig (mont G.q.m (y)) 0 : Int), .int .u64 (dig (mont G.q.m (y)) 1 : Int), .int .u64 (dig (mont G.q.m (y)) 2 : Int), .int .u64 (dig (mont G.q.m (y)) 3 : Int)] 91)).alloc (Obj.cells #[.int .u64 0, .int .u64 0, .int .u64 0, .int .u64 0] 91))
    exact h
  have hX1 : Blk W0 (w.heap.size + 1) 91 (lim (mont G.q.m (y))) := by
    rw [← hW0]
    have h := ((Blk.new (w.alloc (Obj.cells #[.int .u64 (dig (mont G.q.m (x)) 0 : Int), .int .u64 (dig (mont G.q.m (x)) 1 : Int), .int .u64 (dig (mont G.q.m (x)) 2 : Int), .int .u64 (dig (mont G.q.m (x)) 3 : Int)] 91)) 91 (lim (mont G.q.m (y))) _ rfl).alloc (Obj.cells #[.int .u64 0, .int .u64 0, .int .u64 0, .int .u64 0] 91))
    rw [World.size_alloc] at h
    exact h
  have hC : Blk W0 (w.heap.size + 2) 91 [0, 0, 0, 0] := by
    rw [← hW0]
    have h := (Blk.new ((w.alloc (Obj.cells #[.int .u64 (dig (mont G.q.m (x)) 0 : Int), .int .u64 (dig (mont G.q.m (x)) 1 : Int), .int .u64 (dig (mont G.q.m (x)) 2 : Int), .int .u64 (dig (mont G.q.m (x)) 3 : Int)] 91)).alloc (Obj.cells #[.int .u64 (dig (mont G.q.m (y)) 0 : Int), .int .u64 (dig (mont G.q.m (y)) 1 : Int), .int .u64 (dig (mont G.q.m (y)) 2 : Int), .int .u64 (dig (mont G.q.m (y)) 3 : Int)] 91)) 91 [0, 0, 0, 0] _ rfl)
    rw [World.size_alloc, World.size_alloc] at h
    exact h
  have hBW : Below w.heap.size w W0 := by rw [← hW0]; exact ((((Below.refl w.heap.size w).alloc (Nat.le_refl _) _).alloc (by simp) _).alloc (by simp; omega) _)
  clear hW0
  have hG0 := hG.up hBW
  have hgl := hG0.lt
  have hgk := hG0.kind
  have hgs := hG0.size
  have hpm_0 : W0.cell? ⟨gb, 2, none⟩ = some (.int .u64 (dig G.p.m 0 : Int)) := hG0.p.cell 0 _ rfl
  have hpm_1 : W0.cell? ⟨gb, 3, none⟩ = some (.int .u64 (dig G.p.m 1 : Int)) := hG0.p.cell 1 _ rfl
  have hpm_2 : W0.cell? ⟨gb, 4, none⟩ = some (.int .u64 (dig G.p.m 2 : Int)) := hG0.p.cell 2 _ rfl
  have hpm_3 : W0.cell? ⟨gb, 5, none⟩ = some (.int .u64 (dig G.p.m 3 : Int)) := hG0.p.cell 3 _ rfl
  have hpo_0 : W0.cell? ⟨gb, 6, none⟩ = some (.int .u64 (dig (mont G.p.m 1) 0 : Int)) := by rw [← OK.out.p.one']; exact hG0.p.cell 4 _ rfl
  have hpo_1 : W0.cell? ⟨gb, 7, none⟩ = some (.int .u64 (dig (mont G.p.m 1) 1 : Int)) := by rw [← OK.out.p.one']; exact hG0.p.cell 5 _ rfl
  have hpo_2 : W0.cell? ⟨gb, 8, none⟩ = some (.int .u64 (dig (mont G.p.m 1) 2 : Int)) := by rw [← OK.out.p.one']; exact hG0.p.cell 6 _ rfl
  have hpo_3 : W0.cell? ⟨gb, 9, none⟩ = some (.int .u64 (dig (mont G.p.m 1) 3 : Int)) := by rw [← OK.out.p.one']; exact hG0.p.cell 7 _ rfl
  have hqm_0 : W0.cell? ⟨gb, 15, none⟩ = some (.int .u64 (dig G.q.m 0 : Int)) := hG0.q.cell 0 _ rfl
  have hqm_1 : W0.cell? ⟨gb, 16, none⟩ = some (.int .u64 (dig G.q.m 1 : Int)) := hG0.q.cell 1 _ rfl
  have hqm_2 : W0.cell? ⟨gb, 17, none⟩ = some (.int .u64 (dig G.q.m 2 : Int)) := hG0.q.cell 2 _ rfl
  have hqm_3 : W0.cell? ⟨gb, 18, none⟩ = some (.int .u64 (dig G.q.m 3 : Int)) := hG0.q.cell 3 _ rfl
  have hqo_0 : W0.cell? ⟨gb, 19, none⟩ = some (.int .u64 (dig (mont G.q.m 1) 0 : Int)) := by rw [← OK.out.q.one']; exact hG0.q.cell 4 _ rfl
  have hqo_1 : W0.cell? ⟨gb, 20, none⟩ = some (.int .u64 (dig (mont G.q.m 1) 1 : Int)) := by rw [← OK.out.q.one']; exact hG0.q.cell 5 _ rfl
  have hqo_2 : W0.cell? ⟨gb, 21, none⟩ = some (.int .u64 (dig (mont G.q.m 1) 2 : Int)) := by rw [← OK.out.q.one']; exact hG0.q.cell 6 _ rfl
  have hqo_3 : W0.cell? ⟨gb, 22, none⟩ = some (.int .u64 (dig (mont G.q.m 1) 3 : Int)) := by rw [← OK.out.q.one']; exact hG0.q.cell 7 _ rfl
  have hx0_0 := hX0.cell (i := 0) (x := (dig (mont G.q.m (x)) 0 : Int)) rfl
  have hx0_1 := hX0.cell (i := 1) (x := (dig (mont G.q.m (x)) 1 : Int)) rfl
  have hx0_2 := hX0.cell (i := 2) (x := (dig (mont G.q.m (x)) 2 : Int)) rfl
  have hx0_3 := hX0.cell (i := 3) (x := (dig (mont G.q.m (x)) 3 : Int)) rfl
  have hl0 := hX0.lt
  have hx1_0 := hX1.cell (i := 0) (x := (dig (mont G.q.m (y)) 0 : Int)) rfl
  have hx1_1 := hX1.cell (i := 1) (x := (dig (mont G.q.m (y)) 1 : Int)) rfl
  have hx1_2 := hX1.cell (i := 2) (x := (dig (mont G.q.m (y)) 2 : Int)) rfl
  have hx1_3 := hX1.cell (i := 3) (x := (dig (mont G.q.m (y)) 3 : Int)) rfl
  have hl1 := hX1.lt
  have HC := Lib.hid hC
  have HBW := Lib.hid hBW
  clear hC hBW hG hX0 hX1
  refine wp_region_otail 9 (by kernel_rfl) (by kernel_rfl) ?_
  simp only [List.take_succ_cons, List.take_zero, List.drop_succ_cons, List.drop_zero]
  have hovg := fun (E : Over W0) o => E.cell (b := gb) o hgl
  have hov0 := fun (E : Over W0) o => E.cell (b := w.heap.size) o hl0
  have hov1 := fun (E : Over W0) o => E.cell (b := w.heap.size + 1) o hl1
  repeat (go_big_quiet_step (first | (go_at_call 145; exact calls_over (addM G.q OK.out.q gb 15 x y _ (hG0.up (Over.h _)).q))))
  all_goals (try unfold limbV)
  repeat (go_big_quiet_step (first | (go_at_call 145; exact calls_over (addM G.q OK.out.q gb 15 x y _ (hG0.up (Over.h _)).q))))
  all_goals (try unfold limbV)
  repeat (go_big_quiet_step (first | (go_at_call 145; exact calls_over (addM G.q OK.out.q gb 15 x y _ (hG0.up (Over.h _)).q))))
  refine wpQuiet_nil ?_
  rintro _ ⟨E, rfl⟩
  have HZ := Lib.hid (HC.out.below E.h HC.out.lt)
  have HBB := Lib.hid (below_up HBW.out E.h)
  clear hovg hov0 hov1
  generalize E.w = w3 at *
  have HB5 := Lib.hid (below_fill (n := mont G.q.m (x + y)) (b := w.heap.size + 2) HBB.out (by omega))
  have HS5 := Lib.hid (HZ.out.fill rfl (mont G.q.m (x + y)))
  have hz_0 := HZ.out.cell (i := 0) (x := 0) rfl
  have hz_1 := HZ.out.cell (i := 1) (x := 0) rfl
  have hz_2 := HZ.out.cell (i := 2) (x := 0) rfl
  have hz_3 := HZ.out.cell (i := 3) (x := 0) rfl
  have hzf_0 := HZ.out.frozen 0
  have hzf_1 := HZ.out.frozen 1
  have hzf_2 := HZ.out.frozen 2
  have hzf_3 := HZ.out.frozen 3
  go_wp2_with fail
  generalize (((((w3).setCell ⟨w.heap.size + 2, 0, none⟩ (.int .u64 (dig (mont G.q.m (x + y)) 0 : Int))).setCell ⟨w.heap.size + 2, 1, none⟩ (.int .u64 (dig (mont G.q.m (x + y)) 1 : Int))).setCell ⟨w.heap.size + 2, 2, none⟩ (.int .u64 (dig (mont G.q.m (x + y)) 2 : Int))).setCell ⟨w.heap.size + 2, 3, none⟩ (.int .u64 (dig (mont G.q.m (x + y)) 3 : Int))) = w5 at *
  clear hz_0 hz_1 hz_2 hz_3
  have hg_0 := HS5.out.cell (i := 0) (x := (dig (mont G.q.m (x + y)) 0 : Int)) rfl
  have hg_1 := HS5.out.cell (i := 1) (x := (dig (mont G.q.m (x + y)) 1 : Int)) rfl
  have hg_2 := HS5.out.cell (i := 2) (x := (dig (mont G.q.m (x + y)) 2 : Int)) rfl
  have hg_3 := HS5.out.cell (i := 3) (x := (dig (mont G.q.m (x + y)) 3 : Int)) rfl
  simp [bodyPost, results, Try.results75, go_sem, hg_0, hg_1, hg_2, hg_3]
  exact HB5.out

set_option maxHeartbeats 1000000 in
theorem gSub_any (G : GP) (ok : G.Ok) (gb : Nat) (x y : Nat) (hy : y ≤ G.q.m) (w : World) (hG : GroupAt w gb G) :
    Calls Try.prog 61 #[.pointer (some ⟨gb, 0, none⟩), scV G x, scV G y] w fun e w' => e = .returned (scV G (x + (G.q.m - y))) ∧ Below w.heap.size w w' := by
  have OK := Lib.hid ok
  clear ok
  unfold scV limbV
  go_enter Try.func61, Try.ntmps61
  go_wp2_with fail
  obtain ⟨W0, hW0⟩ : ∃ W9 : World, (((w.alloc (Obj.cells #[.int .u64 (dig (mont G.q.m (x)) 0 : Int), .int .u64 (dig (mont G.q.m (x)) 1 : Int), .int .u64 (dig (mont G.q.m (x)) 2 : Int), .int .u64 (dig (mont G.q.m (x)) 3 : Int)] 91)).alloc (Obj.cells #[.int .u64 (dig (mont G.q.m (y)) 0 : Int), .int .u64 (dig (mont G.q.m (y)) 1 : Int), .int .u64 (dig (mont G.q.m (y)) 2 : Int), .int .u64 (dig (mont G.q.m (y)) 3 : Int)] 91)).alloc (Obj.cells #[.int .u64 0, .int .u64 0, .int .u64 0, .int .u64 0] 91)) = W9 := ⟨_, rfl⟩
  rw [hW0]
  have hX0 : Blk W0 (w.heap.size) 91 (lim (mont G.q.m (x))) := by
    rw [← hW0]
    have h := (((Blk.new w 91 (lim (mont G.q.m (x))) _ rfl).alloc (Obj.cells #[.int .u64 (dig (mont G.q.m (y)) 0 : Int), .int .u64 (dig (mont G.q.m (y)) 1 : Int), .int .u64 (dig (mont G.q.m (y)) 2 : Int), .int .u64 (dig (mont G.q.m (y)) 3 : Int)] 91)).alloc (Obj.cells #[.int .u64 0, .int .u64 0, .int .u64 0, .int .u64 0] 91))
    exact h
  have hX1 : Blk W0 (w.heap.size + 1) 91 (lim (mont G.q.m (y))) := by
    rw [← hW0]
    have h := ((Blk.new (w.alloc (Obj.cells #[.int .u64 (dig (mont G.q.m (x)) 0 : Int), .int .u64 (dig (mont G.q.m (x)) 1 : Int), .int .u64 (dig (mont G.q.m (x)) 2 : Int), .int .u64 (dig (mont G.q.m (x)) 3 : Int)] 91)) 91 (lim (mont G.q.m (y))) _ rfl).alloc (Obj.cells #[.int .u64 0, .int .u64 0, .int .u64 0, .int .u64 0] 91))
    rw [World.size_alloc] at h
    exact h
  have hC : Blk W0 (w.heap.size + 2) 91 [0, 0, 0, 0] := by
    rw [← hW0]
    have h := (Blk.new ((w.alloc (Obj.cells #[.int .u64 (dig (mont G.q.m (x)) 0 : Int), .int .u64 (dig (mont G.q.m (x)) 1 : Int), .int .u64 (dig (mont G.q.m (x)) 2 : Int), .int .u64 (dig (mont G.q.m (x)) 3 : Int)] 91)).alloc (Obj.cells #[.int .u64 (dig (mont G.q.m (y)) 0 : Int), .int .u64 (dig (mont G.q.m (y)) 1 : Int), .int .u64 (dig (mont G.q.m (y)) 2 : Int), .int .u64 (dig (mont G.q.m (y)) 3 : Int)] 91)) 91 [0, 0, 0, 0] _ rfl)
    rw [World.size_alloc, World.size_alloc] at h
    exact h
  have hBW : Below w.heap.size w W0 := by rw [← hW0]; exact ((((Below.refl w.heap.size w).alloc (Nat.le_refl _) _).alloc (by simp) _).alloc (by simp; omega) _)
  clear hW0
  have hG0 := hG.up hBW
  have hgl := hG0.lt
  have hgk := hG0.kind
  have hgs := hG0.size
  have hpm_0 : W0.cell? ⟨gb, 2, none⟩ = some (.int .u64 (dig G.p.m 0 : Int)) := hG0.p.cell 0 _ rfl
  have hpm_1 : W0.cell? ⟨gb, 3, none⟩ = some (.int .u64 (dig G.p.m 1 : Int)) := hG0.p.cell 1 _ rfl
  have hpm_2 : W0.cell? ⟨gb, 4, none⟩ = some (.int .u64 (dig G.p.m 2 : Int)) := hG0.p.cell 2 _ rfl
  have hpm_3 : W0.cell? ⟨gb, 5, none⟩ = some (.int .u64 (dig G.p.m 3 : Int)) := hG0.p.cell 3 _ rfl
  have hpo_0 : W0.cell? ⟨gb, 6, none⟩ = some (.int .u64 (dig (mont G.p.m 1) 0 : Int)) := by rw [← OK.out.p.one']; exact hG0.p.cell 4 _ rfl
  have hpo_1 : W0.cell? ⟨gb, 7, none⟩ = some (.int .u64 (dig (mont G.p.m 1) 1 : Int)) := by rw [← OK.out.p.one']; exact hG0.p.cell 5 _ rfl
  have hpo_2 : W0.cell? ⟨gb, 8, none⟩ = some (.int .u64 (dig (mont G.p.m 1) 2 : Int)) := by rw [← OK.out.p.one']; exact hG0.p.cell 6 _ rfl
  have hpo_3 : W0.cell? ⟨gb, 9, none⟩ = some (.int .u64 (dig (mont G.p.m 1) 3 : Int)) := by rw [← OK.out.p.one']; exact hG0.p.cell 7 _ rfl
  have hqm_0 : W0.cell? ⟨gb, 15, none⟩ = some (.int .u64 (dig G.q.m 0 : Int)) := hG0.q.cell 0 _ rfl
  have hqm_1 : W0.cell? ⟨gb, 16, none⟩ = some (.int .u64 (dig G.q.m 1 : Int)) := hG0.q.cell 1 _ rfl
  have hqm_2 : W0.cell? ⟨gb, 17, none⟩ = some (.int .u64 (dig G.q.m 2 : Int)) := hG0.q.cell 2 _ rfl
  have hqm_3 : W0.cell? ⟨gb, 18, none⟩ = some (.int .u64 (dig G.q.m 3 : Int)) := hG0.q.cell 3 _ rfl
  have hqo_0 : W0.cell? ⟨gb, 19, none⟩ = some (.int .u64 (dig (mont G.q.m 1) 0 : Int)) := by rw [← OK.out.q.one']; exact hG0.q.cell 4 _ rfl
  have hqo_1 : W0.cell? ⟨gb, 20, none⟩ = some (.int .u64 (dig (mont G.q.m 1) 1 : Int)) := by rw [← OK.out.q.one']; exact hG0.q.cell 5 _ rfl
  have hqo_2 : W0.cell? ⟨gb, 21, none⟩ = some (.int .u64 (dig (mont G.q.m 1) 2 : Int)) := by rw [← OK.out.q.one']; exact hG0.q.cell 6 _ rfl
  have hqo_3 : W0.cell? ⟨gb, 22, none⟩ = some (.int .u64 (dig (mont G.q.m 1) 3 : Int)) := by rw [← OK.out.q.one']; exact hG0.q.cell 7 _ rfl
  have hx0_0 := hX0.cell (i := 0) (x := (dig (mont G.q.m (x)) 0 : Int)) rfl
  have hx0_1 := hX0.cell (i := 1) (x := (dig (mont G.q.m (x)) 1 : Int)) rfl
  have hx0_2 := hX0.cell (i := 2) (x := (dig (mont G.q.m (x)) 2 : Int)) rfl
  have hx0_3 := hX0.cell (i := 3) (x := (dig (mont G.q.m (x)) 3 : Int)) rfl
  have hl0 := hX0.lt
  have hx1_0 := hX1.cell (i := 0) (x := (dig (mont G.q.m (y)) 0 : Int)) rfl
  have hx1_1 := hX1.cell (i := 1) (x := (dig (mont G.q.m (y)) 1 : Int)) rfl
  have hx1_2 := hX1.cell (i := 2) (x := (dig (mont G.q.m (y)) 2 : Int)) rfl
  have hx1_3 := hX1.cell (i := 3) (x := (dig (mont G.q.m (y)) 3 : Int)) rfl
  have hl1 := hX1.lt
  have HC := Lib.hid hC
  have HBW := Lib.hid hBW
  clear hC hBW hG hX0 hX1
  refine wp_region_otail 9 (by kernel_rfl) (by kernel_rfl) ?_
  simp only [List.take_succ_cons, List.take_zero, List.drop_succ_cons, List.drop_zero]
  have hovg := fun (E : Over W0) o => E.cell (b := gb) o hgl
  have hov0 := fun (E : Over W0) o => E.cell (b := w.heap.size) o hl0
  have hov1 := fun (E : Over W0) o => E.cell (b := w.heap.size + 1) o hl1
  repeat (go_big_quiet_step (first | (go_at_call 133; exact calls_over (subM G.q OK.out.q gb 15 x y hy _ (hG0.up (Over.h _)).q))))
  all_goals (try unfold limbV)
  repeat (go_big_quiet_step (first | (go_at_call 133; exact calls_over (subM G.q OK.out.q gb 15 x y hy _ (hG0.up (Over.h _)).q))))
  all_goals (try unfold limbV)
  repeat (go_big_quiet_step (first | (go_at_call 133; exact calls_over (subM G.q OK.out.q gb 15 x y hy _ (hG0.up (Over.h _)).q))))
  refine wpQuiet_nil ?_
  rintro _ ⟨E, rfl⟩
  have HZ := Lib.hid (HC.out.below E.h HC.out.lt)
  have HBB := Lib.hid (below_up HBW.out E.h)
  clear hovg hov0 hov1
  generalize E.w = w3 at *
  have HB5 := Lib.hid (below_fill (n := mont G.q.m (x + (G.q.m - y))) (b := w.heap.size + 2) HBB.out (by omega))
  have HS5 := Lib.hid (HZ.out.fill rfl (mont G.q.m (x + (G.q.m - y))))
  have hz_0 := HZ.out.cell (i := 0) (x := 0) rfl
  have hz_1 := HZ.out.cell (i := 1) (x := 0) rfl
  have hz_2 := HZ.out.cell (i := 2) (x := 0) rfl
  have hz_3 := HZ.out.cell (i := 3) (x := 0) rfl
  have hzf_0 := HZ.out.frozen 0
  have hzf_1 := HZ.out.frozen 1
  have hzf_2 := HZ.out.frozen 2
  have hzf_3 := HZ.out.frozen 3
  go_wp2_with fail
  generalize (((((w3).setCell ⟨w.heap.size + 2, 0, none⟩ (.int .u64 (dig (mont G.q.m (x + (G.q.m - y))) 0 : Int))).setCell ⟨w.heap.size + 2, 1, none⟩ (.int .u64 (dig (mont G.q.m (x + (G.q.m - y))) 1 : Int))).setCell ⟨w.heap.size + 2, 2, none⟩ (.int .u64 (dig (mont G.q.m (x + (G.q.m - y))) 2 : Int))).setCell ⟨w.heap.size + 2, 3, none⟩ (.int .u64 (dig (mont G.q.m (x + (G.q.m - y))) 3 : Int))) = w5 at *
  clear hz_0 hz_1 hz_2 hz_3
  have hg_0 := HS5.out.cell (i := 0) (x := (dig (mont G.q.m (x + (G.q.m - y))) 0 : Int)) rfl
  have hg_1 := HS5.out.cell (i := 1) (x := (dig (mont G.q.m (x + (G.q.m - y))) 1 : Int)) rfl
  have hg_2 := HS5.out.cell (i := 2) (x := (dig (mont G.q.m (x + (G.q.m - y))) 2 : Int)) rfl
  have hg_3 := HS5.out.cell (i := 3) (x := (dig (mont G.q.m (x + (G.q.m - y))) 3 : Int)) rfl
  simp [bodyPost, results, Try.results61, go_sem, hg_0, hg_1, hg_2, hg_3]
  exact HB5.out

set_option maxHeartbeats 1000000 in
theorem gMul_any (G : GP) (ok : G.Ok) (gb : Nat) (x y : Nat)  (w : World) (hG : GroupAt w gb G) :
    Calls Try.prog 63 #[.pointer (some ⟨gb, 0, none⟩), scV G x, scV G y] w fun e w' => e = .returned (scV G (x * y)) ∧ Below w.heap.size w w' := by
  have OK := Lib.hid ok
  clear ok
  unfold scV limbV
  go_enter Try.func63, Try.ntmps63
  go_wp2_with fail
  obtain ⟨W0, hW0⟩ : ∃ W9 : World, (((w.alloc (Obj.cells #[.int .u64 (dig (mont G.q.m (x)) 0 : Int), .int .u64 (dig (mont G.q.m (x)) 1 : Int), .int .u64 (dig (mont G.q.m (x)) 2 : Int), .int .u64 (dig (mont G.q.m (x)) 3 : Int)] 91)).alloc (Obj.cells #[.int .u64 (dig (mont G.q.m (y)) 0 : Int), .int .u64 (dig (mont G.q.m (y)) 1 : Int), .int .u64 (dig (mont G.q.m (y)) 2 : Int), .int .u64 (dig (mont G.q.m (y)) 3 : Int)] 91)).alloc (Obj.cells #[.int .u64 0, .int .u64 0, .int .u64 0, .int .u64 0] 91)) = W9 := ⟨_, rfl⟩
  rw [hW0]
  have hX0 : Blk W0 (w.heap.size) 91 (lim (mont G.q.m (x))) := by
    rw [← hW0]
    have h := (((Blk.new w 91 (lim (mont G.q.m (x))) _ rfl).alloc (Obj.cells #[.int .u64 (dig (mont G.q.m (y)) 0 : Int), .int .u64 (dig (mont G.q.m (y)) 1 : Int), .int .u64 (dig (mont G.q.m (y)) 2 : Int), .int .u64 (dig (mont G.q.m (y)) 3 : Int)] 91)).alloc (Obj.cells #[.int .u64 0, .int .u64 0, .int .u64 0, .int .u64 0] 91))
    exact h
  have hX1 : Blk W0 (w.heap.size + 1) 91 (lim (mont G.q.m (y))) := by
    rw [← hW0]
    have h := ((Blk.new (w.alloc (Obj.cells #[.int .u64 (dig (mont G.q.m (x)) 0 : Int), .int .u64 (dig (mont G.q.m (x)) 1 : Int), .int .u64 (dig (mont G.q.m (x)) 2 : Int), .int .u64 (dig (mont G.q.m (x)) 3 : Int)] 91)) 91 (lim (mont G.q.m (y))) _ rfl).alloc (Obj.cells #[.int .u64 0, .int .u64 0, .int .u64 0, .int .u64 0] 91))
    rw [World.size_alloc] at h
    exact h
  have hC : Blk W0 (w.heap.size + 2) 91 [0, 0, 0, 0] := by
    rw [← hW0]
    have h := (Blk.new ((w.alloc (Obj.cells #[.int .u64 (dig (mont G.q.m (x)) 0 : Int), .int .u64 (dig (mont G.q.m (x)) 1 : Int), .int .u64 (dig (mont G.q.m (x)) 2 : Int), .int .u64 (dig (mont G.q.m (x)) 3 : Int)] 91)).alloc (Obj.cells #[.int .u64 (dig (mont G.q.m (y)) 0 : Int), .int .u64 (dig (mont G.q.m (y)) 1 : Int), .int .u64 (dig (mont G.q.m (y)) 2 : Int), .int .u64 (dig (mont G.q.m (y)) 3 : Int)] 91)) 91 [0, 0, 0, 0] _ rfl)
    rw [World.size_alloc, World.size_alloc] at h
    exact h
  have hBW : Below w.heap.size w W0 := by rw [← hW0]; exact ((((Below.refl w.heap.size w).alloc (Nat.le_refl _) _).alloc (by simp) _).alloc (by simp; omega) _)
  clear hW0
  have hG0 := hG.up hBW
  have hgl := hG0.lt
  have hgk := hG0.kind
  have hgs := hG0.size
  have hpm_0 : W0.cell? ⟨gb, 2, none⟩ = some (.int .u64 (dig G.p.m 0 : Int)) := hG0.p.cell 0 _ rfl
  have hpm_1 : W0.cell? ⟨gb, 3, none⟩ = some (.int .u64 (dig G.p.m 1 : Int)) := hG0.p.cell 1 _ rfl
  have hpm_2 : W0.cell? ⟨gb, 4, none⟩ = some (.int .u64 (dig G.p.m 2 : Int)) := hG0.p.cell 2 _ rfl
  have hpm_3 : W0.cell? ⟨gb, 5, none⟩ = some (.int .u64 (dig G.p.m 3 : Int)) := hG0.p.cell 3 _ rfl
  have hpo_0 : W0.cell? ⟨gb, 6, none⟩ = some (.int .u64 (dig (mont G.p.m 1) 0 : Int)) := by rw [← OK.out.p.one']; exact hG0.p.cell 4 _ rfl
  have hpo_1 : W0.cell? ⟨gb, 7, none⟩ = some (.int .u64 (dig (mont G.p.m 1) 1 : Int)) := by rw [← OK.out.p.one']; exact hG0.p.cell 5 _ rfl
  have hpo_2 : W0.cell? ⟨gb, 8, none⟩ = some (.int .u64 (dig (mont G.p.m 1) 2 : Int)) := by rw [← OK.out.p.one']; exact hG0.p.cell 6 _ rfl
  have hpo_3 : W0.cell? ⟨gb, 9, none⟩ = some (.int .u64 (dig (mont G.p.m 1) 3 : Int)) := by rw [← OK.out.p.one']; exact hG0.p.cell 7 _ rfl
  have hqm_0 : W0.cell? ⟨gb, 15, none⟩ = some (.int .u64 (dig G.q.m 0 : Int)) := hG0.q.cell 0 _ rfl
  have hqm_1 : W0.cell? ⟨gb, 16, none⟩ = some (.int .u64 (dig G.q.m 1 : Int)) := hG0.q.cell 1 _ rfl
  have hqm_2 : W0.cell? ⟨gb, 17, none⟩ = some (.int .u64 (dig G.q.m 2 : Int)) := hG0.q.cell 2 _ rfl
  have hqm_3 : W0.cell? ⟨gb, 18, none⟩ = some (.int .u64 (dig G.q.m 3 : Int)) := hG0.q.cell 3 _ rfl
  have hqo_0 : W0.cell? ⟨gb, 19, none⟩ = some (.int .u64 (dig (mont G.q.m 1) 0 : Int)) := by rw [← OK.out.q.one']; exact hG0.q.cell 4 _ rfl
  have hqo_1 : W0.cell? ⟨gb, 20, none⟩ = some (.int .u64 (dig (mont G.q.m 1) 1 : Int)) := by rw [← OK.out.q.one']; exact hG0.q.cell 5 _ rfl
  have hqo_2 : W0.cell? ⟨gb, 21, none⟩ = some (.int .u64 (dig (mont G.q.m 1) 2 : Int)) := by rw [← OK.out.q.one']; exact hG0.q.cell 6 _ rfl
  have hqo_3 : W0.cell? ⟨gb, 22, none⟩ = some (.int .u64 (dig (mont G.q.m 1) 3 : Int)) := by rw [← OK.out.q.one']; exact hG0.q.cell 7 _ rfl
  have hx0_0 := hX0.cell (i := 0) (x := (dig (mont G.q.m (x)) 0 : Int)) rfl
  have hx0_1 := hX0.cell (i := 1) (x := (dig (mont G.q.m (x)) 1 : Int)) rfl
  have hx0_2 := hX0.cell (i := 2) (x := (dig (mont G.q.m (x)) 2 : Int)) rfl
  have hx0_3 := hX0.cell (i := 3) (x := (dig (mont G.q.m (x)) 3 : Int)) rfl
  have hl0 := hX0.lt
  have hx1_0 := hX1.cell (i := 0) (x := (dig (mont G.q.m (y)) 0 : Int)) rfl
  have hx1_1 := hX1.cell (i := 1) (x := (dig (mont G.q.m (y)) 1 : Int)) rfl
  have hx1_2 := hX1.cell (i := 2) (x := (dig (mont G.q.m (y)) 2 : Int)) rfl
  have hx1_3 := hX1.cell (i := 3) (x := (dig (mont G.q.m (y)) 3 : Int)) rfl
  have hl1 := hX1.lt
  have HC := Lib.hid hC
  have HBW := Lib.hid hBW
  clear hC hBW hG hX0 hX1
  refine wp_region_otail 9 (by kernel_rfl) (by kernel_rfl) ?_
  simp only [List.take_succ_cons, List.take_zero, List.drop_succ_cons, List.drop_zero]
  have hovg := fun (E : Over W0) o => E.cell (b := gb) o hgl
  have hov0 := fun (E : Over W0) o => E.cell (b := w.heap.size) o hl0
  have hov1 := fun (E : Over W0) o => E.cell (b := w.heap.size + 1) o hl1
  repeat (go_big_quiet_step (first | (go_at_call 136; exact calls_over (mulM G.q OK.out.q gb 15 x y _ (hG0.up (Over.h _)).q))))
  all_goals (try unfold limbV)
  repeat (go_big_quiet_step (first | (go_at_call 136; exact calls_over (mulM G.q OK.out.q gb 15 x y _ (hG0.up (Over.h _)).q))))
  all_goals (try unfold limbV)
  repeat (go_big_quiet_step (first | (go_at_call 136; exact calls_over (mulM G.q OK.out.q gb 15 x y _ (hG0.up (Over.h _)).q))))
  refine wpQuiet_nil ?_
  rintro _ ⟨E, rfl⟩
  have HZ := Lib.hid (HC.out.below E.h HC.out.lt)
  have HBB := Lib.hid (below_up HBW.out E.h)
  clear hovg hov0 hov1
  generalize E.w = w3 at *
  have HB5 := Lib.hid (below_fill (n := mont G.q.m (x * y)) (b := w.heap.size + 2) HBB.out (by omega))
  have HS5 := Lib.hid (HZ.out.fill rfl (mont G.q.m (x * y)))
  have hz_0 := HZ.out.cell (i := 0) (x := 0) rfl
  have hz_1 := HZ.out.cell (i := 1) (x := 0) rfl
  have hz_2 := HZ.out.cell (i := 2) (x := 0) rfl
  have hz_3 := HZ.out.cell (i := 3) (x := 0) rfl
  have hzf_0 := HZ.out.frozen 0
  have hzf_1 := HZ.out.frozen 1
  have hzf_2 := HZ.out.frozen 2
  have hzf_3 := HZ.out.frozen 3
  go_wp2_with fail
  generalize (((((w3).setCell ⟨w.heap.size + 2, 0, none⟩ (.int .u64 (dig (mont G.q.m (x * y)) 0 : Int))).setCell ⟨w.heap.size + 2, 1, none⟩ (.int .u64 (dig (mont G.q.m (x * y)) 1 : Int))).setCell ⟨w.heap.size + 2, 2, none⟩ (.int .u64 (dig (mont G.q.m (x * y)) 2 : Int))).setCell ⟨w.heap.size + 2, 3, none⟩ (.int .u64 (dig (mont G.q.m (x * y)) 3 : Int))) = w5 at *
  clear hz_0 hz_1 hz_2 hz_3
  have hg_0 := HS5.out.cell (i := 0) (x := (dig (mont G.q.m (x * y)) 0 : Int)) rfl
  have hg_1 := HS5.out.cell (i := 1) (x := (dig (mont G.q.m (x * y)) 1 : Int)) rfl
  have hg_2 := HS5.out.cell (i := 2) (x := (dig (mont G.q.m (x * y)) 2 : Int)) rfl
  have hg_3 := HS5.out.cell (i := 3) (x := (dig (mont G.q.m (x * y)) 3 : Int)) rfl
  simp [bodyPost, results, Try.results63, go_sem, hg_0, hg_1, hg_2, hg_3]
  exact HB5.out

set_option maxHeartbeats 1000000 in
theorem gNeg_any (G : GP) (ok : G.Ok) (gb : Nat) (y : Nat) (hy : y ≤ G.q.m) (w : World) (hG : GroupAt w gb G) :
    Calls Try.prog 161 #[.pointer (some ⟨gb, 0, none⟩), scV G y] w fun e w' => e = .returned (scV G (G.q.m - y)) ∧ Below w.heap.size w w' := by
  have OK := Lib.hid ok
  clear ok
  unfold scV limbV
  go_enter Try.func161, Try.ntmps161
  go_wp2_with fail
  obtain ⟨W0, hW0⟩ : ∃ W9 : World, ((w.alloc (Obj.cells #[.int .u64 (dig (mont G.q.m (y)) 0 : Int), .int .u64 (dig (mont G.q.m (y)) 1 : Int), .int .u64 (dig (mont G.q.m (y)) 2 : Int), .int .u64 (dig (mont G.q.m (y)) 3 : Int)] 91)).alloc (Obj.cells #[.int .u64 0, .int .u64 0, .int .u64 0, .int .u64 0] 91)) = W9 := ⟨_, rfl⟩
  rw [hW0]
  have hX0 : Blk W0 (w.heap.size) 91 (lim (mont G.q.m (y))) := by
    rw [← hW0]
    have h := ((Blk.new w 91 (lim (mont G.q.m (y))) _ rfl).alloc (Obj.cells #[.int .u64 0, .int .u64 0, .int .u64 0, .int .u64 0] 91))
    exact h
  have hC : Blk W0 (w.heap.size + 1) 91 [0, 0, 0, 0] := by
    rw [← hW0]
    have h := (Blk.new (w.alloc (Obj.cells #[.int .u64 (dig (mont G.q.m (y)) 0 : Int), .int .u64 (dig (mont G.q.m (y)) 1 : Int), .int .u64 (dig (mont G.q.m (y)) 2 : Int), .int .u64 (dig (mont G.q.m (y)) 3 : Int)] 91)) 91 [0, 0, 0, 0] _ rfl)
    rw [World.size_alloc] at h
    exact h
  have hBW : Below w.heap.size w W0 := by rw [← hW0]; exact (((Below.refl w.heap.size w).alloc (Nat.le_refl _) _).alloc (by simp) _)
  clear hW0
  have hG0 := hG.up hBW
  have hgl := hG0.lt
  have hgk := hG0.kind
  have hgs := hG0.size
  have hpm_0 : W0.cell? ⟨gb, 2, none⟩ = some (.int .u64 (dig G.p.m 0 : Int)) := hG0.p.cell 0 _ rfl
  have hpm_1 : W0.cell? ⟨gb, 3, none⟩ = some (.int .u64 (dig G.p.m 1 : Int)) := hG0.p.cell 1 _ rfl
  have hpm_2 : W0.cell? ⟨gb, 4, none⟩ = some (.int .u64 (dig G.p.m 2 : Int)) := hG0.p.cell 2 _ rfl
  have hpm_3 : W0.cell? ⟨gb, 5, none⟩ = some (.int .u64 (dig G.p.m 3 : Int)) := hG0.p.cell 3 _ rfl
  have hpo_0 : W0.cell? ⟨gb, 6, none⟩ = some (.int .u64 (dig (mont G.p.m 1) 0 : Int)) := by rw [← OK.out.p.one']; exact hG0.p.cell 4 _ rfl
  have hpo_1 : W0.cell? ⟨gb, 7, none⟩ = some (.int .u64 (dig (mont G.p.m 1) 1 : Int)) := by rw [← OK.out.p.one']; exact hG0.p.cell 5 _ rfl
  have hpo_2 : W0.cell? ⟨gb, 8, none⟩ = some (.int .u64 (dig (mont G.p.m 1) 2 : Int)) := by rw [← OK.out.p.one']; exact hG0.p.cell 6 _ rfl
  have hpo_3 : W0.cell? ⟨gb, 9, none⟩ = some (.int .u64 (dig (mont G.p.m 1) 3 : Int)) := by rw [← OK.out.p.one']; exact hG0.p.cell 7 _ rfl
  have hqm_0 : W0.cell? ⟨gb, 15, none⟩ = some (.int .u64 (dig G.q.m 0 : Int)) := hG0.q.cell 0 _ rfl
  have hqm_1 : W0.cell? ⟨gb, 16, none⟩ = some (.int .u64 (dig G.q.m 1 : Int)) := hG0.q.cell 1 _ rfl
  have hqm_2 : W0.cell? ⟨gb, 17, none⟩ = some (.int .u64 (dig G.q.m 2 : Int)) := hG0.q.cell 2 _ rfl
  have hqm_3 : W0.cell? ⟨gb, 18, none⟩ = some (.int .u64 (dig G.q.m 3 : Int)) := hG0.q.cell 3 _ rfl
  have hqo_0 : W0.cell? ⟨gb, 19, none⟩ = some (.int .u64 (dig (mont G.q.m 1) 0 : Int)) := by rw [← OK.out.q.one']; exact hG0.q.cell 4 _ rfl
  have hqo_1 : W0.cell? ⟨gb, 20, none⟩ = some (.int .u64 (dig (mont G.q.m 1) 1 : Int)) := by rw [← OK.out.q.one']; exact hG0.q.cell 5 _ rfl
  have hqo_2 : W0.cell? ⟨gb, 21, none⟩ = some (.int .u64 (dig (mont G.q.m 1) 2 : Int)) := by rw [← OK.out.q.one']; exact hG0.q.cell 6 _ rfl
  have hqo_3 : W0.cell? ⟨gb, 22, none⟩ = some (.int .u64 (dig (mont G.q.m 1) 3 : Int)) := by rw [← OK.out.q.one']; exact hG0.q.cell 7 _ rfl
  have hx0_0 := hX0.cell (i := 0) (x := (dig (mont G.q.m (y)) 0 : Int)) rfl
  have hx0_1 := hX0.cell (i := 1) (x := (dig (mont G.q.m (y)) 1 : Int)) rfl
  have hx0_2 := hX0.cell (i := 2) (x := (dig (mont G.q.m (y)) 2 : Int)) rfl
  have hx0_3 := hX0.cell (i := 3) (x := (dig (mont G.q.m (y)) 3 : Int)) rfl
  have hl0 := hX0.lt
  have HC := Lib.hid hC
  have HBW := Lib.hid hBW
  clear hC hBW hG hX0
  refine wp_region_otail 8 (by kernel_rfl) (by kernel_rfl) ?_
  simp only [List.take_succ_cons, List.take_zero, List.drop_succ_cons, List.drop_zero]
  have hovg := fun (E : Over W0) o => E.cell (b := gb) o hgl
  have hov0 := fun (E : Over W0) o => E.cell (b := w.heap.size) o hl0
  repeat (go_big_quiet_step (first | (go_at_call 133; exact calls_over (subZ G.q OK.out.q gb 15 y hy _ (hG0.up (Over.h _)).q))))
  all_goals (try unfold limbV)
  repeat (go_big_quiet_step (first | (go_at_call 133; exact calls_over (subZ G.q OK.out.q gb 15 y hy _ (hG0.up (Over.h _)).q))))
  all_goals (try unfold limbV)
  repeat (go_big_quiet_step (first | (go_at_call 133; exact calls_over (subZ G.q OK.out.q gb 15 y hy _ (hG0.up (Over.h _)).q))))
  refine wpQuiet_nil ?_
  rintro _ ⟨E, rfl⟩
  have HZ := Lib.hid (HC.out.below E.h HC.out.lt)
  have HBB := Lib.hid (below_up HBW.out E.h)
  clear hovg hov0
  generalize E.w = w3 at *
  have HB5 := Lib.hid (below_fill (n := mont G.q.m (G.q.m - y)) (b := w.heap.size + 1) HBB.out (by omega))
  have HS5 := Lib.hid (HZ.out.fill rfl (mont G.q.m (G.q.m - y)))
  have hz_0 := HZ.out.cell (i := 0) (x := 0) rfl
  have hz_1 := HZ.out.cell (i := 1) (x := 0) rfl
  have hz_2 := HZ.out.cell (i := 2) (x := 0) rfl
  have hz_3 := HZ.out.cell (i := 3) (x := 0) rfl
  have hzf_0 := HZ.out.frozen 0
  have hzf_1 := HZ.out.frozen 1
  have hzf_2 := HZ.out.frozen 2
  have hzf_3 := HZ.out.frozen 3
  go_wp2_with fail
  generalize (((((w3).setCell ⟨w.heap.size + 1, 0, none⟩ (.int .u64 (dig (mont G.q.m (G.q.m - y)) 0 : Int))).setCell ⟨w.heap.size + 1, 1, none⟩ (.int .u64 (dig (mont G.q.m (G.q.m - y)) 1 : Int))).setCell ⟨w.heap.size + 1, 2, none⟩ (.int .u64 (dig (mont G.q.m (G.q.m - y)) 2 : Int))).setCell ⟨w.heap.size + 1, 3, none⟩ (.int .u64 (dig (mont G.q.m (G.q.m - y)) 3 : Int))) = w5 at *
  clear hz_0 hz_1 hz_2 hz_3
  have hg_0 := HS5.out.cell (i := 0) (x := (dig (mont G.q.m (G.q.m - y)) 0 : Int)) rfl
  have hg_1 := HS5.out.cell (i := 1) (x := (dig (mont G.q.m (G.q.m - y)) 1 : Int)) rfl
  have hg_2 := HS5.out.cell (i := 2) (x := (dig (mont G.q.m (G.q.m - y)) 2 : Int)) rfl
  have hg_3 := HS5.out.cell (i := 3) (x := (dig (mont G.q.m (G.q.m - y)) 3 : Int)) rfl
  simp [bodyPost, results, Try.results161, go_sem, hg_0, hg_1, hg_2, hg_3]
  exact HB5.out

set_option maxHeartbeats 1000000 in
theorem gPlusOne_any (G : GP) (ok : G.Ok) (gb : Nat) (x : Nat)  (w : World) (hG : GroupAt w gb G) :
    Calls Try.prog 163 #[scV G x, .pointer (some ⟨gb, 0, none⟩)] w fun e w' => e = .returned (scV G (x + 1)) ∧ Below w.heap.size w w' := by
  have OK := Lib.hid ok
  clear ok
  unfold scV limbV
  go_enter Try.func163, Try.ntmps163
  go_wp2_with fail
  obtain ⟨W0, hW0⟩ : ∃ W9 : World, ((w.alloc (Obj.cells #[.int .u64 (dig (mont G.q.m (x)) 0 : Int), .int .u64 (dig (mont G.q.m (x)) 1 : Int), .int .u64 (dig (mont G.q.m (x)) 2 : Int), .int .u64 (dig (mont G.q.m (x)) 3 : Int)] 91)).alloc (Obj.cells #[.int .u64 0, .int .u64 0, .int .u64 0, .int .u64 0] 91)) = W9 := ⟨_, rfl⟩
  rw [hW0]
  have hX0 : Blk W0 (w.heap.size) 91 (lim (mont G.q.m (x))) := by
    rw [← hW0]
    have h := ((Blk.new w 91 (lim (mont G.q.m (x))) _ rfl).alloc (Obj.cells #[.int .u64 0, .int .u64 0, .int .u64 0, .int .u64 0] 91))
    exact h
  have hC : Blk W0 (w.heap.size + 1) 91 [0, 0, 0, 0] := by
    rw [← hW0]
    have h := (Blk.new (w.alloc (Obj.cells #[.int .u64 (dig (mont G.q.m (x)) 0 : Int), .int .u64 (dig (mont G.q.m (x)) 1 : Int), .int .u64 (dig (mont G.q.m (x)) 2 : Int), .int .u64 (dig (mont G.q.m (x)) 3 : Int)] 91)) 91 [0, 0, 0, 0] _ rfl)
    rw [World.size_alloc] at h
    exact h
  have hBW : Below w.heap.size w W0 := by rw [← hW0]; exact (((Below.refl w.heap.size w).alloc (Nat.le_refl _) _).alloc (by simp) _)
  clear hW0
  have hG0 := hG.up hBW
  have hgl := hG0.lt
  have hgk := hG0.kind
  have hgs := hG0.size
  have hpm_0 : W0.cell? ⟨gb, 2, none⟩ = some (.int .u64 (dig G.p.m 0 : Int)) := hG0.p.cell 0 _ rfl
  have hpm_1 : W0.cell? ⟨gb, 3, none⟩ = some (.int .u64 (dig G.p.m 1 : Int)) := hG0.p.cell 1 _ rfl
  have hpm_2 : W0.cell? ⟨gb, 4, none⟩ = some (.int .u64 (dig G.p.m 2 : Int)) := hG0.p.cell 2 _ rfl
  have hpm_3 : W0.cell? ⟨gb, 5, none⟩ = some (.int .u64 (dig G.p.m 3 : Int)) := hG0.p.cell 3 _ rfl
  have hpo_0 : W0.cell? ⟨gb, 6, none⟩ = some (.int .u64 (dig (mont G.p.m 1) 0 : Int)) := by rw [← OK.out.p.one']; exact hG0.p.cell 4 _ rfl
  have hpo_1 : W0.cell? ⟨gb, 7, none⟩ = some (.int .u64 (dig (mont G.p.m 1) 1 : Int)) := by rw [← OK.out.p.one']; exact hG0.p.cell 5 _ rfl
  have hpo_2 : W0.cell? ⟨gb, 8, none⟩ = some (.int .u64 (dig (mont G.p.m 1) 2 : Int)) := by rw [← OK.out.p.one']; exact hG0.p.cell 6 _ rfl
  have hpo_3 : W0.cell? ⟨gb, 9, none⟩ = some (.int .u64 (dig (mont G.p.m 1) 3 : Int)) := by rw [← OK.out.p.one']; exact hG0.p.cell 7 _ rfl
  have hqm_0 : W0.cell? ⟨gb, 15, none⟩ = some (.int .u64 (dig G.q.m 0 : Int)) := hG0.q.cell 0 _ rfl
  have hqm_1 : W0.cell? ⟨gb, 16, none⟩ = some (.int .u64 (dig G.q.m 1 : Int)) := hG0.q.cell 1 _ rfl
  have hqm_2 : W0.cell? ⟨gb, 17, none⟩ = some (.int .u64 (dig G.q.m 2 : Int)) := hG0.q.cell 2 _ rfl
  have hqm_3 : W0.cell? ⟨gb, 18, none⟩ = some (.int .u64 (dig G.q.m 3 : Int)) := hG0.q.cell 3 _ rfl
  have hqo_0 : W0.cell? ⟨gb, 19, none⟩ = some (.int .u64 (dig (mont G.q.m 1) 0 : Int)) := by rw [← OK.out.q.one']; exact hG0.q.cell 4 _ rfl
  have hqo_1 : W0.cell? ⟨gb, 20, none⟩ = some (.int .u64 (dig (mont G.q.m 1) 1 : Int)) := by rw [← OK.out.q.one']; exact hG0.q.cell 5 _ rfl
  have hqo_2 : W0.cell? ⟨gb, 21, none⟩ = some (.int .u64 (dig (mont G.q.m 1) 2 : Int)) := by rw [← OK.out.q.one']; exact hG0.q.cell 6 _ rfl
  have hqo_3 : W0.cell? ⟨gb, 22, none⟩ = some (.int .u64 (dig (mont G.q.m 1) 3 : Int)) := by rw [← OK.out.q.one']; exact hG0.q.cell 7 _ rfl
  have hx0_0 := hX0.cell (i := 0) (x := (dig (mont G.q.m (x)) 0 : Int)) rfl
  have hx0_1 := hX0.cell (i := 1) (x := (dig (mont G.q.m (x)) 1 : Int)) rfl
  have hx0_2 := hX0.cell (i := 2) (x := (dig (mont G.q.m (x)) 2 : Int)) rfl
  have hx0_3 := hX0.cell (i := 3) (x := (dig (mont G.q.m (x)) 3 : Int)) rfl
  have hl0 := hX0.lt
  have HC := Lib.hid hC
  have HBW := Lib.hid hBW
  clear hC hBW hG hX0
  refine wp_region_otail 12 (by kernel_rfl) (by kernel_rfl) ?_
  simp only [List.take_succ_cons, List.take_zero, List.drop_succ_cons, List.drop_zero]
  have hovg := fun (E : Over W0) o => E.cell (b := gb) o hgl
  have hov0 := fun (E : Over W0) o => E.cell (b := w.heap.size) o hl0
  repeat (go_big_quiet_step (first | (go_at_call 145; exact calls_over (addM G.q OK.out.q gb 15 x 1 _ (hG0.up (Over.h _)).q))))
  all_goals (try unfold limbV)
  repeat (go_big_quiet_step (first | (go_at_call 145; exact calls_over (addM G.q OK.out.q gb 15 x 1 _ (hG0.up (Over.h _)).q))))
  all_goals (try unfold limbV)
  repeat (go_big_quiet_step (first | (go_at_call 145; exact calls_over (addM G.q OK.out.q gb 15 x 1 _ (hG0.up (Over.h _)).q))))
  refine wpQuiet_nil ?_
  rintro _ ⟨E, rfl⟩
  have HZ := Lib.hid (HC.out.below E.h HC.out.lt)
  have HBB := Lib.hid (below_up HBW.out E.h)
  clear hovg hov0
  generalize E.w = w3 at *
  have HB5 := Lib.hid (below_fill (n := mont G.q.m (x + 1)) (b := w.heap.size + 1) HBB.out (by omega))
  have HS5 := Lib.hid (HZ.out.fill rfl (mont G.q.m (x + 1)))
  have hz_0 := HZ.out.cell (i := 0) (x := 0) rfl
  have hz_1 := HZ.out.cell (i := 1) (x := 0) rfl
  have hz_2 := HZ.out.cell (i := 2) (x := 0) rfl
  have hz_3 := HZ.out.cell (i := 3) (x := 0) rfl
  have hzf_0 := HZ.out.frozen 0
  have hzf_1 := HZ.out.frozen 1
  have hzf_2 := HZ.out.frozen 2
  have hzf_3 := HZ.out.frozen 3
  go_wp2_with fail
  generalize (((((w3).setCell ⟨w.heap.size + 1, 0, none⟩ (.int .u64 (dig (mont G.q.m (x + 1)) 0 : Int))).setCell ⟨w.heap.size + 1, 1, none⟩ (.int .u64 (dig (mont G.q.m (x + 1)) 1 : Int))).setCell ⟨w.heap.size + 1, 2, none⟩ (.int .u64 (dig (mont G.q.m (x + 1)) 2 : Int))).setCell ⟨w.heap.size + 1, 3, none⟩ (.int .u64 (dig (mont G.q.m (x + 1)) 3 : Int))) = w5 at *
  clear hz_0 hz_1 hz_2 hz_3
  have hg_0 := HS5.out.cell (i := 0) (x := (dig (mont G.q.m (x + 1)) 0 : Int)) rfl
  have hg_1 := HS5.out.cell (i := 1) (x := (dig (mont G.q.m (x + 1)) 1 : Int)) rfl
  have hg_2 := HS5.out.cell (i := 2) (x := (dig (mont G.q.m (x + 1)) 2 : Int)) rfl
  have hg_3 := HS5.out.cell (i := 3) (x := (dig (mont G.q.m (x + 1)) 3 : Int)) rfl
  simp [bodyPost, results, Try.results163, go_sem, hg_0, hg_1, hg_2, hg_3]
  exact HB5.out

set_option maxHeartbeats 1000000 in
theorem gTimes_any (G : GP) (ok : G.Ok) (gb : Nat) (x y : Nat)  (w : World) (hG : GroupAt w gb G) :
    Calls Try.prog 108 #[.pointer (some ⟨gb, 0, none⟩), elV G x, elV G y] w fun e w' => e = .returned (elV G (x * y)) ∧ Below w.heap.size w w' := by
  have OK := Lib.hid ok
  clear ok
  unfold elV limbV
  go_enter Try.func108, Try.ntmps108
  go_wp2_with fail
  obtain ⟨W0, hW0⟩ : ∃ W9 : World, (((w.alloc (Obj.cells #[.int .u64 (dig (mont G.p.m (x)) 0 : Int), .int .u64 (dig (mont G.p.m (x)) 1 : Int), .int .u64 (dig (mont G.p.m (x)) 2 : Int), .int .u64 (dig (mont G.p.m (x)) 3 : Int)] 111)).alloc (Obj.cells #[.int .u64 (dig (mont G.p.m (y)) 0 : Int), .int .u64 (dig (mont G.p.m (y)) 1 : Int), .int .u64 (dig (mont G.p.m (y)) 2 : Int), .int .u64 (dig (mont G.p.m (y)) 3 : Int)] 111)).alloc (Obj.cells #[.int .u64 0, .int .u64 0, .int .u64 0, .int .u64 0] 111)) = W9 := ⟨_, rfl⟩
  rw [hW0]
  have hX0 : Blk W0 (w.heap.size) 111 (lim (mont G.p.m (x))) := by
    rw [← hW0]
    have h := (((Blk.new w 111 (lim (mont G.p.m (x))) _ rfl).alloc (Obj.cells #[.int .u64 (dig (mont G.p.m (y)) 0 : Int), .int .u64 (dig (mont G.p.m (y)) 1 : Int), .int .u64 (dig (mont G.p.m (y)) 2 : Int), .int .u64 (dig (mont G.p.m (y)) 3 : Int)] 111)).alloc (Obj.cells #[.int .u64 0, .int .u64 0, .int .u64 0, .int .u64 0] 111))
    exact h
  have hX1 : Blk W0 (w.heap.size + 1) 111 (lim (mont G.p.m (y))) := by
    rw [← hW0]
    have h := ((Blk.new (w.alloc (Obj.cells #[.int .u64 (dig (mont G.p.m (x)) 0 : Int), .int .u64 (dig (mont G.p.m (x)) 1 : Int), .int .u64 (dig (mont G.p.m (x)) 2 : Int), .int .u64 (dig (mont G.p.m (x)) 3 : Int)] 111)) 111 (lim (mont G.p.m (y))) _ rfl).alloc (Obj.cells #[.int .u64 0, .int .u64 0, .int .u64 0, .int .u64 0] 111))
    rw [World.size_alloc] at h
    exact h
  have hC : Blk W0 (w.heap.size + 2) 111 [0, 0, 0, 0] := by
    rw [← hW0]
    have h := (Blk.new ((w.alloc (Obj.cells #[.int .u64 (dig (mont G.p.m (x)) 0 : Int), .int .u64 (dig (mont G.p.m (x)) 1 : Int), .int .u64 (dig (mont G.p.m (x)) 2 : Int), .int .u64 (dig (mont G.p.m (x)) 3 : Int)] 111)).alloc (Obj.cells #[.int .u64 (dig (mont G.p.m (y)) 0 : Int), .int .u64 (dig (mont G.p.m (y)) 1 : Int), .int .u64 (dig (mont G.p.m (y)) 2 : Int), .int .u64 (dig (mont G.p.m (y)) 3 : Int)] 111)) 111 [0, 0, 0, 0] _ rfl)
    rw [World.size_alloc, World.size_alloc] at h
    exact h
  have hBW : Below w.heap.size w W0 := by rw [← hW0]; exact ((((Below.refl w.heap.size w).alloc (Nat.le_refl _) _).alloc (by simp) _).alloc (by simp; omega) _)
  clear hW0
  have hG0 := hG.up hBW
  have hgl := hG0.lt
  have hgk := hG0.kind
  have hgs := hG0.size
  have hpm_0 : W0.cell? ⟨gb, 2, none⟩ = some (.int .u64 (dig G.p.m 0 : Int)) := hG0.p.cell 0 _ rfl
  have hpm_1 : W0.cell? ⟨gb, 3, none⟩ = some (.int .u64 (dig G.p.m 1 : Int)) := hG0.p.cell 1 _ rfl
  have hpm_2 : W0.cell? ⟨gb, 4, none⟩ = some (.int .u64 (dig G.p.m 2 : Int)) := hG0.p.cell 2 _ rfl
  have hpm_3 : W0.cell? ⟨gb, 5, none⟩ = some (.int .u64 (dig G.p.m 3 : Int)) := hG0.p.cell 3 _ rfl
  have hpo_0 : W0.cell? ⟨gb, 6, none⟩ = some (.int .u64 (dig (mont G.p.m 1) 0 : Int)) := by rw [← OK.out.p.one']; exact hG0.p.cell 4 _ rfl
  have hpo_1 : W0.cell? ⟨gb, 7, none⟩ = some (.int .u64 (dig (mont G.p.m 1) 1 : Int)) := by rw [← OK.out.p.one']; exact hG0.p.cell 5 _ rfl
  have hpo_2 : W0.cell? ⟨gb, 8, none⟩ = some (.int .u64 (dig (mont G.p.m 1) 2 : Int)) := by rw [← OK.out.p.one']; exact hG0.p.cell 6 _ rfl
  have hpo_3 : W0.cell? ⟨gb, 9, none⟩ = some (.int .u64 (dig (mont G.p.m 1) 3 : Int)) := by rw [← OK.out.p.one']; exact hG0.p.cell 7 _ rfl
  have hqm_0 : W0.cell? ⟨gb, 15, none⟩ = some (.int .u64 (dig G.q.m 0 : Int)) := hG0.q.cell 0 _ rfl
  have hqm_1 : W0.cell? ⟨gb, 16, none⟩ = some (.int .u64 (dig G.q.m 1 : Int)) := hG0.q.cell 1 _ rfl
  have hqm_2 : W0.cell? ⟨gb, 17, none⟩ = some (.int .u64 (dig G.q.m 2 : Int)) := hG0.q.cell 2 _ rfl
  have hqm_3 : W0.cell? ⟨gb, 18, none⟩ = some (.int .u64 (dig G.q.m 3 : Int)) := hG0.q.cell 3 _ rfl
  have hqo_0 : W0.cell? ⟨gb, 19, none⟩ = some (.int .u64 (dig (mont G.q.m 1) 0 : Int)) := by rw [← OK.out.q.one']; exact hG0.q.cell 4 _ rfl
  have hqo_1 : W0.cell? ⟨gb, 20, none⟩ = some (.int .u64 (dig (mont G.q.m 1) 1 : Int)) := by rw [← OK.out.q.one']; exact hG0.q.cell 5 _ rfl
  have hqo_2 : W0.cell? ⟨gb, 21, none⟩ = some (.int .u64 (dig (mont G.q.m 1) 2 : Int)) := by rw [← OK.out.q.one']; exact hG0.q.cell 6 _ rfl
  have hqo_3 : W0.cell? ⟨gb, 22, none⟩ = some (.int .u64 (dig (mont G.q.m 1) 3 : Int)) := by rw [← OK.out.q.one']; exact hG0.q.cell 7 _ rfl
  have hx0_0 := hX0.cell (i := 0) (x := (dig (mont G.p.m (x)) 0 : Int)) rfl
  have hx0_1 := hX0.cell (i := 1) (x := (dig (mont G.p.m (x)) 1 : Int)) rfl
  have hx0_2 := hX0.cell (i := 2) (x := (dig (mont G.p.m (x)) 2 : Int)) rfl
  have hx0_3 := hX0.cell (i := 3) (x := (dig (mont G.p.m (x)) 3 : Int)) rfl
  have hl0 := hX0.lt
  have hx1_0 := hX1.cell (i := 0) (x := (dig (mont G.p.m (y)) 0 : Int)) rfl
  have hx1_1 := hX1.cell (i := 1) (x := (dig (mont G.p.m (y)) 1 : Int)) rfl
  have hx1_2 := hX1.cell (i := 2) (x := (dig (mont G.p.m (y)) 2 : Int)) rfl
  have hx1_3 := hX1.cell (i := 3) (x := (dig (mont G.p.m (y)) 3 : Int)) rfl
  have hl1 := hX1.lt
  have HC := Lib.hid hC
  have HBW := Lib.hid hBW
  clear hC hBW hG hX0 hX1
  refine wp_region_otail 9 (by kernel_rfl) (by kernel_rfl) ?_
  simp only [List.take_succ_cons, List.take_zero, List.drop_succ_cons, List.drop_zero]
  have hovg := fun (E : Over W0) o => E.cell (b := gb) o hgl
  have hov0 := fun (E : Over W0) o => E.cell (b := w.heap.size) o hl0
  have hov1 := fun (E : Over W0) o => E.cell (b := w.heap.size + 1) o hl1
  repeat (go_big_quiet_step (first | (go_at_call 136; exact calls_over (mulM G.p OK.out.p gb 2 x y _ (hG0.up (Over.h _)).p))))
  all_goals (try unfold limbV)
  repeat (go_big_quiet_step (first | (go_at_call 136; exact calls_over (mulM G.p OK.out.p gb 2 x y _ (hG0.up (Over.h _)).p))))
  all_goals (try unfold limbV)
  repeat (go_big_quiet_step (first | (go_at_call 136; exact calls_over (mulM G.p OK.out.p gb 2 x y _ (hG0.up (Over.h _)).p))))
  refine wpQuiet_nil ?_
  rintro _ ⟨E, rfl⟩
  have HZ := Lib.hid (HC.out.below E.h HC.out.lt)
  have HBB := Lib.hid (below_up HBW.out E.h)
  clear hovg hov0 hov1
  generalize E.w = w3 at *
  have HB5 := Lib.hid (below_fill (n := mont G.p.m (x * y)) (b := w.heap.size + 2) HBB.out (by omega))
  have HS5 := Lib.hid (HZ.out.fill rfl (mont G.p.m (x * y)))
  have hz_0 := HZ.out.cell (i := 0) (x := 0) rfl
  have hz_1 := HZ.out.cell (i := 1) (x := 0) rfl
  have hz_2 := HZ.out.cell (i := 2) (x := 0) rfl
  have hz_3 := HZ.out.cell (i := 3) (x := 0) rfl
  have hzf_0 := HZ.out.frozen 0
  have hzf_1 := HZ.out.frozen 1
  have hzf_2 := HZ.out.frozen 2
  have hzf_3 := HZ.out.frozen 3
  go_wp2_with fail
  generalize (((((w3).setCell ⟨w.heap.size + 2, 0, none⟩ (.int .u64 (dig (mont G.p.m (x * y)) 0 : Int))).setCell ⟨w.heap.size + 2, 1, none⟩ (.int .u64 (dig (mont G.p.m (x * y)) 1 : Int))).setCell ⟨w.heap.size + 2, 2, none⟩ (.int .u64 (dig (mont G.p.m (x * y)) 2 : Int))).setCell ⟨w.heap.size + 2, 3, none⟩ (.int .u64 (dig (mont G.p.m (x * y)) 3 : Int))) = w5 at *
  clear hz_0 hz_1 hz_2 hz_3
  have hg_0 := HS5.out.cell (i := 0) (x := (dig (mont G.p.m (x * y)) 0 : Int)) rfl
  have hg_1 := HS5.out.cell (i := 1) (x := (dig (mont G.p.m (x * y)) 1 : Int)) rfl
  have hg_2 := HS5.out.cell (i := 2) (x := (dig (mont G.p.m (x * y)) 2 : Int)) rfl
  have hg_3 := HS5.out.cell (i := 3) (x := (dig (mont G.p.m (x * y)) 3 : Int)) rfl
  simp [bodyPost, results, Try.results108, go_sem, hg_0, hg_1, hg_2, hg_3]
  exact HB5.out

set_option maxHeartbeats 1000000 in
theorem gPower_any (G : GP) (ok : G.Ok) (gb : Nat) (x n : Nat)  (w : World) (hG : GroupAt w gb G) :
    Calls Try.prog 109 #[.pointer (some ⟨gb, 0, none⟩), elV G x, scV G n] w fun e w' => e = .returned (elV G (x ^ (n % G.q.m))) ∧ Below w.heap.size w w' := by
  have OK := Lib.hid ok
  clear ok
  unfold elV scV limbV
  go_enter Try.func109, Try.ntmps109
  go_wp2_with fail
  obtain ⟨W0, hW0⟩ : ∃ W9 : World, (((w.alloc (Obj.cells #[.int .u64 (dig (mont G.p.m (x)) 0 : Int), .int .u64 (dig (mont G.p.m (x)) 1 : Int), .int .u64 (dig (mont G.p.m (x)) 2 : Int), .int .u64 (dig (mont G.p.m (x)) 3 : Int)] 111)).alloc (Obj.cells #[.int .u64 (dig (mont G.q.m (n)) 0 : Int), .int .u64 (dig (mont G.q.m (n)) 1 : Int), .int .u64 (dig (mont G.q.m (n)) 2 : Int), .int .u64 (dig (mont G.q.m (n)) 3 : Int)] 91)).alloc (Obj.cells #[.int .u64 0, .int .u64 0, .int .u64 0, .int .u64 0] 111)) = W9 := ⟨_, rfl⟩
  rw [hW0]
  have hX0 : Blk W0 (w.heap.size) 111 (lim (mont G.p.m (x))) := by
    rw [← hW0]
    have h := (((Blk.new w 111 (lim (mont G.p.m (x))) _ rfl).alloc (Obj.cells #[.int .u64 (dig (mont G.q.m (n)) 0 : Int), .int .u64 (dig (mont G.q.m (n)) 1 : Int), .int .u64 (dig (mont G.q.m (n)) 2 : Int), .int .u64 (dig (mont G.q.m (n)) 3 : Int)] 91)).alloc (Obj.cells #[.int .u64 0, .int .u64 0, .int .u64 0, .int .u64 0] 111))
    exact h
  have hX1 : Blk W0 (w.heap.size + 1) 91 (lim (mont G.q.m (n))) := by
    rw [← hW0]
    have h := ((Blk.new (w.alloc (Obj.cells #[.int .u64 (dig (mont G.p.m (x)) 0 : Int), .int .u64 (dig (mont G.p.m (x)) 1 : Int), .int .u64 (dig (mont G.p.m (x)) 2 : Int), .int .u64 (dig (mont G.p.m (x)) 3 : Int)] 111)) 91 (lim (mont G.q.m (n))) _ rfl).alloc (Obj.cells #[.int .u64 0, .int .u64 0, .int .u64 0, .int .u64 0] 111))
    rw [World.size_alloc] at h
    exact h
  have hC : Blk W0 (w.heap.size + 2) 111 [0, 0, 0, 0] := by
    rw [← hW0]
    have h := (Blk.new ((w.alloc (Obj.cells #[.int .u64 (dig (mont G.p.m (x)) 0 : Int), .int .u64 (dig (mont G.p.m (x)) 1 : Int), .int .u64 (dig (mont G.p.m (x)) 2 : Int), .int .u64 (dig (mont G.p.m (x)) 3 : Int)] 111)).alloc (Obj.cells #[.int .u64 (dig (mont G.q.m (n)) 0 : Int), .int .u64 (dig (mont G.q.m (n)) 1 : Int), .int .u64 (dig (mont G.q.m (n)) 2 : Int), .int .u64 (dig (mont G.q.m (n)) 3 : Int)] 91)) 111 [0, 0, 0, 0] _ rfl)
    rw [World.size_alloc, World.size_alloc] at h
    exact h
  have hBW : Below w.heap.size w W0 := by rw [← hW0]; exact ((((Below.refl w.heap.size w).alloc (Nat.le_refl _) _).alloc (by simp) _).alloc (by simp; omega) _)
  clear hW0
  have hG0 := hG.up hBW
  have hgl := hG0.lt
  have hgk := hG0.kind
  have hgs := hG0.size
  have hpm_0 : W0.cell? ⟨gb, 2, none⟩ = some (.int .u64 (dig G.p.m 0 : Int)) := hG0.p.cell 0 _ rfl
  have hpm_1 : W0.cell? ⟨gb, 3, none⟩ = some (.int .u64 (dig G.p.m 1 : Int)) := hG0.p.cell 1 _ rfl
  have hpm_2 : W0.cell? ⟨gb, 4, none⟩ = some (.int .u64 (dig G.p.m 2 : Int)) := hG0.p.cell 2 _ rfl
  have hpm_3 : W0.cell? ⟨gb, 5, none⟩ = some (.int .u64 (dig G.p.m 3 : Int)) := hG0.p.cell 3 _ rfl
  have hpo_0 : W0.cell? ⟨gb, 6, none⟩ = some (.int .u64 (dig (mont G.p.m 1) 0 : Int)) := by rw [← OK.out.p.one']; exact hG0.p.cell 4 _ rfl
  have hpo_1 : W0.cell? ⟨gb, 7, none⟩ = some (.int .u64 (dig (mont G.p.m 1) 1 : Int)) := by rw [← OK.out.p.one']; exact hG0.p.cell 5 _ rfl
  have hpo_2 : W0.cell? ⟨gb, 8, none⟩ = some (.int .u64 (dig (mont G.p.m 1) 2 : Int)) := by rw [← OK.out.p.one']; exact hG0.p.cell 6 _ rfl
  have hpo_3 : W0.cell? ⟨gb, 9, none⟩ = some (.int .u64 (dig (mont G.p.m 1) 3 : Int)) := by rw [← OK.out.p.one']; exact hG0.p.cell 7 _ rfl
  have hqm_0 : W0.cell? ⟨gb, 15, none⟩ = some (.int .u64 (dig G.q.m 0 : Int)) := hG0.q.cell 0 _ rfl
  have hqm_1 : W0.cell? ⟨gb, 16, none⟩ = some (.int .u64 (dig G.q.m 1 : Int)) := hG0.q.cell 1 _ rfl
  have hqm_2 : W0.cell? ⟨gb, 17, none⟩ = some (.int .u64 (dig G.q.m 2 : Int)) := hG0.q.cell 2 _ rfl
  have hqm_3 : W0.cell? ⟨gb, 18, none⟩ = some (.int .u64 (dig G.q.m 3 : Int)) := hG0.q.cell 3 _ rfl
  have hqo_0 : W0.cell? ⟨gb, 19, none⟩ = some (.int .u64 (dig (mont G.q.m 1) 0 : Int)) := by rw [← OK.out.q.one']; exact hG0.q.cell 4 _ rfl
  have hqo_1 : W0.cell? ⟨gb, 20, none⟩ = some (.int .u64 (dig (mont G.q.m 1) 1 : Int)) := by rw [← OK.out.q.one']; exact hG0.q.cell 5 _ rfl
  have hqo_2 : W0.cell? ⟨gb, 21, none⟩ = some (.int .u64 (dig (mont G.q.m 1) 2 : Int)) := by rw [← OK.out.q.one']; exact hG0.q.cell 6 _ rfl
  have hqo_3 : W0.cell? ⟨gb, 22, none⟩ = some (.int .u64 (dig (mont G.q.m 1) 3 : Int)) := by rw [← OK.out.q.one']; exact hG0.q.cell 7 _ rfl
  have hx0_0 := hX0.cell (i := 0) (x := (dig (mont G.p.m (x)) 0 : Int)) rfl
  have hx0_1 := hX0.cell (i := 1) (x := (dig (mont G.p.m (x)) 1 : Int)) rfl
  have hx0_2 := hX0.cell (i := 2) (x := (dig (mont G.p.m (x)) 2 : Int)) rfl
  have hx0_3 := hX0.cell (i := 3) (x := (dig (mont G.p.m (x)) 3 : Int)) rfl
  have hl0 := hX0.lt
  have hx1_0 := hX1.cell (i := 0) (x := (dig (mont G.q.m (n)) 0 : Int)) rfl
  have hx1_1 := hX1.cell (i := 1) (x := (dig (mont G.q.m (n)) 1 : Int)) rfl
  have hx1_2 := hX1.cell (i := 2) (x := (dig (mont G.q.m (n)) 2 : Int)) rfl
  have hx1_3 := hX1.cell (i := 3) (x := (dig (mont G.q.m (n)) 3 : Int)) rfl
  have hl1 := hX1.lt
  have HC := Lib.hid hC
  have HBW := Lib.hid hBW
  clear hC hBW hG hX0 hX1
  refine wp_region_otail 13 (by kernel_rfl) (by kernel_rfl) ?_
  simp only [List.take_succ_cons, List.take_zero, List.drop_succ_cons, List.drop_zero]
  have hovg := fun (E : Over W0) o => E.cell (b := gb) o hgl
  have hov0 := fun (E : Over W0) o => E.cell (b := w.heap.size) o hl0
  have hov1 := fun (E : Over W0) o => E.cell (b := w.heap.size + 1) o hl1
  repeat (go_big_quiet_step (first | (go_at_call 134; exact calls_over (outM G.q OK.out.q gb 15 n _ (hG0.up (Over.h _)).q)) | (go_at_call 132; exact calls_over (pow_any G.p OK.out.p gb 2 x (n % G.q.m) (Nat.lt_trans (Nat.mod_lt _ OK.out.q.pos) OK.out.q.lt4) _ (hG0.up (Over.h _)).p))))
  all_goals (try unfold limbV)
  repeat (go_big_quiet_step (first | (go_at_call 134; exact calls_over (outM G.q OK.out.q gb 15 n _ (hG0.up (Over.h _)).q)) | (go_at_call 132; exact calls_over (pow_any G.p OK.out.p gb 2 x (n % G.q.m) (Nat.lt_trans (Nat.mod_lt _ OK.out.q.pos) OK.out.q.lt4) _ (hG0.up (Over.h _)).p))))
  all_goals (try unfold limbV)
  repeat (go_big_quiet_step (first | (go_at_call 134; exact calls_over (outM G.q OK.out.q gb 15 n _ (hG0.up (Over.h _)).q)) | (go_at_call 132; exact calls_over (pow_any G.p OK.out.p gb 2 x (n % G.q.m) (Nat.lt_trans (Nat.mod_lt _ OK.out.q.pos) OK.out.q.lt4) _ (hG0.up (Over.h _)).p))))
  refine wpQuiet_nil ?_
  rintro _ ⟨E, rfl⟩
  have HZ := Lib.hid (HC.out.below E.h HC.out.lt)
  have HBB := Lib.hid (below_up HBW.out E.h)
  clear hovg hov0 hov1
  generalize E.w = w3 at *
  have HB5 := Lib.hid (below_fill (n := mont G.p.m (x ^ (n % G.q.m))) (b := w.heap.size + 2) HBB.out (by omega))
  have HS5 := Lib.hid (HZ.out.fill rfl (mont G.p.m (x ^ (n % G.q.m))))
  have hz_0 := HZ.out.cell (i := 0) (x := 0) rfl
  have hz_1 := HZ.out.cell (i := 1) (x := 0) rfl
  have hz_2 := HZ.out.cell (i := 2) (x := 0) rfl
  have hz_3 := HZ.out.cell (i := 3) (x := 0) rfl
  have hzf_0 := HZ.out.frozen 0
  have hzf_1 := HZ.out.frozen 1
  have hzf_2 := HZ.out.frozen 2
  have hzf_3 := HZ.out.frozen 3
  go_wp2_with fail
  generalize (((((w3).setCell ⟨w.heap.size + 2, 0, none⟩ (.int .u64 (dig (mont G.p.m (x ^ (n % G.q.m))) 0 : Int))).setCell ⟨w.heap.size + 2, 1, none⟩ (.int .u64 (dig (mont G.p.m (x ^ (n % G.q.m))) 1 : Int))).setCell ⟨w.heap.size + 2, 2, none⟩ (.int .u64 (dig (mont G.p.m (x ^ (n % G.q.m))) 2 : Int))).setCell ⟨w.heap.size + 2, 3, none⟩ (.int .u64 (dig (mont G.p.m (x ^ (n % G.q.m))) 3 : Int))) = w5 at *
  clear hz_0 hz_1 hz_2 hz_3
  have hg_0 := HS5.out.cell (i := 0) (x := (dig (mont G.p.m (x ^ (n % G.q.m))) 0 : Int)) rfl
  have hg_1 := HS5.out.cell (i := 1) (x := (dig (mont G.p.m (x ^ (n % G.q.m))) 1 : Int)) rfl
  have hg_2 := HS5.out.cell (i := 2) (x := (dig (mont G.p.m (x ^ (n % G.q.m))) 2 : Int)) rfl
  have hg_3 := HS5.out.cell (i := 3) (x := (dig (mont G.p.m (x ^ (n % G.q.m))) 3 : Int)) rfl
  simp [bodyPost, results, Try.results109, go_sem, hg_0, hg_1, hg_2, hg_3]
  exact HB5.out

set_option maxHeartbeats 1000000 in
theorem gBase_any (G : GP) (ok : G.Ok) (gb : Nat)  (w : World) (hG : GroupAt w gb G) :
    Calls Try.prog 99 #[.pointer (some ⟨gb, 0, none⟩)] w fun e w' => e = .returned (elV G (2)) ∧ Below w.heap.size w w' := by
  have OK := Lib.hid ok
  clear ok
  unfold elV limbV
  go_enter Try.func99, Try.ntmps99
  go_wp2_with fail
  obtain ⟨W0, hW0⟩ : ∃ W9 : World, (w.alloc (Obj.cells #[.int .u64 0, .int .u64 0, .int .u64 0, .int .u64 0] 111)) = W9 := ⟨_, rfl⟩
  rw [hW0]
  have hC : Blk W0 (w.heap.size) 111 [0, 0, 0, 0] := by
    rw [← hW0]
    have h := (Blk.new w 111 [0, 0, 0, 0] _ rfl)
    exact h
  have hBW : Below w.heap.size w W0 := by rw [← hW0]; exact ((Below.refl w.heap.size w).alloc (Nat.le_refl _) _)
  clear hW0
  have hG0 := hG.up hBW
  have hgl := hG0.lt
  have hgk := hG0.kind
  have hgs := hG0.size
  have hpm_0 : W0.cell? ⟨gb, 2, none⟩ = some (.int .u64 (dig G.p.m 0 : Int)) := hG0.p.cell 0 _ rfl
  have hpm_1 : W0.cell? ⟨gb, 3, none⟩ = some (.int .u64 (dig G.p.m 1 : Int)) := hG0.p.cell 1 _ rfl
  have hpm_2 : W0.cell? ⟨gb, 4, none⟩ = some (.int .u64 (dig G.p.m 2 : Int)) := hG0.p.cell 2 _ rfl
  have hpm_3 : W0.cell? ⟨gb, 5, none⟩ = some (.int .u64 (dig G.p.m 3 : Int)) := hG0.p.cell 3 _ rfl
  have hpo_0 : W0.cell? ⟨gb, 6, none⟩ = some (.int .u64 (dig (mont G.p.m 1) 0 : Int)) := by rw [← OK.out.p.one']; exact hG0.p.cell 4 _ rfl
  have hpo_1 : W0.cell? ⟨gb, 7, none⟩ = some (.int .u64 (dig (mont G.p.m 1) 1 : Int)) := by rw [← OK.out.p.one']; exact hG0.p.cell 5 _ rfl
  have hpo_2 : W0.cell? ⟨gb, 8, none⟩ = some (.int .u64 (dig (mont G.p.m 1) 2 : Int)) := by rw [← OK.out.p.one']; exact hG0.p.cell 6 _ rfl
  have hpo_3 : W0.cell? ⟨gb, 9, none⟩ = some (.int .u64 (dig (mont G.p.m 1) 3 : Int)) := by rw [← OK.out.p.one']; exact hG0.p.cell 7 _ rfl
  have hqm_0 : W0.cell? ⟨gb, 15, none⟩ = some (.int .u64 (dig G.q.m 0 : Int)) := hG0.q.cell 0 _ rfl
  have hqm_1 : W0.cell? ⟨gb, 16, none⟩ = some (.int .u64 (dig G.q.m 1 : Int)) := hG0.q.cell 1 _ rfl
  have hqm_2 : W0.cell? ⟨gb, 17, none⟩ = some (.int .u64 (dig G.q.m 2 : Int)) := hG0.q.cell 2 _ rfl
  have hqm_3 : W0.cell? ⟨gb, 18, none⟩ = some (.int .u64 (dig G.q.m 3 : Int)) := hG0.q.cell 3 _ rfl
  have hqo_0 : W0.cell? ⟨gb, 19, none⟩ = some (.int .u64 (dig (mont G.q.m 1) 0 : Int)) := by rw [← OK.out.q.one']; exact hG0.q.cell 4 _ rfl
  have hqo_1 : W0.cell? ⟨gb, 20, none⟩ = some (.int .u64 (dig (mont G.q.m 1) 1 : Int)) := by rw [← OK.out.q.one']; exact hG0.q.cell 5 _ rfl
  have hqo_2 : W0.cell? ⟨gb, 21, none⟩ = some (.int .u64 (dig (mont G.q.m 1) 2 : Int)) := by rw [← OK.out.q.one']; exact hG0.q.cell 6 _ rfl
  have hqo_3 : W0.cell? ⟨gb, 22, none⟩ = some (.int .u64 (dig (mont G.q.m 1) 3 : Int)) := by rw [← OK.out.q.one']; exact hG0.q.cell 7 _ rfl
  have HC := Lib.hid hC
  have HBW := Lib.hid hBW
  clear hC hBW hG 
  refine wp_region_otail 15 (by kernel_rfl) (by kernel_rfl) ?_
  simp only [List.take_succ_cons, List.take_zero, List.drop_succ_cons, List.drop_zero]
  have hovg := fun (E : Over W0) o => E.cell (b := gb) o hgl
  repeat (go_big_quiet_step (first | (go_at_call 145; exact calls_over (addM G.p OK.out.p gb 2 1 1 _ (hG0.up (Over.h _)).p))))
  all_goals (try unfold limbV)
  repeat (go_big_quiet_step (first | (go_at_call 145; exact calls_over (addM G.p OK.out.p gb 2 1 1 _ (hG0.up (Over.h _)).p))))
  all_goals (try unfold limbV)
  repeat (go_big_quiet_step (first | (go_at_call 145; exact calls_over (addM G.p OK.out.p gb 2 1 1 _ (hG0.up (Over.h _)).p))))
  refine wpQuiet_nil ?_
  rintro _ ⟨E, rfl⟩
  have HZ := Lib.hid (HC.out.below E.h HC.out.lt)
  have HBB := Lib.hid (below_up HBW.out E.h)
  clear hovg 
  generalize E.w = w3 at *
  have HB5 := Lib.hid (below_fill (n := mont G.p.m (2)) (b := w.heap.size) HBB.out (by omega))
  have HS5 := Lib.hid (HZ.out.fill rfl (mont G.p.m (2)))
  have hz_0 := HZ.out.cell (i := 0) (x := 0) rfl
  have hz_1 := HZ.out.cell (i := 1) (x := 0) rfl
  have hz_2 := HZ.out.cell (i := 2) (x := 0) rfl
  have hz_3 := HZ.out.cell (i := 3) (x := 0) rfl
  have hzf_0 := HZ.out.frozen 0
  have hzf_1 := HZ.out.frozen 1
  have hzf_2 := HZ.out.frozen 2
  have hzf_3 := HZ.out.frozen 3
  go_wp2_with fail
  generalize (((((w3).setCell ⟨w.heap.size, 0, none⟩ (.int .u64 (dig (mont G.p.m (2)) 0 : Int))).setCell ⟨w.heap.size, 1, none⟩ (.int .u64 (dig (mont G.p.m (2)) 1 : Int))).setCell ⟨w.heap.size, 2, none⟩ (.int .u64 (dig (mont G.p.m (2)) 2 : Int))).setCell ⟨w.heap.size, 3, none⟩ (.int .u64 (dig (mont G.p.m (2)) 3 : Int))) = w5 at *
  clear hz_0 hz_1 hz_2 hz_3
  have hg_0 := HS5.out.cell (i := 0) (x := (dig (mont G.p.m (2)) 0 : Int)) rfl
  have hg_1 := HS5.out.cell (i := 1) (x := (dig (mont G.p.m (2)) 1 : Int)) rfl
  have hg_2 := HS5.out.cell (i := 2) (x := (dig (mont G.p.m (2)) 2 : Int)) rfl
  have hg_3 := HS5.out.cell (i := 3) (x := (dig (mont G.p.m (2)) 3 : Int)) rfl
  simp [bodyPost, results, Try.results99, go_sem, hg_0, hg_1, hg_2, hg_3]
  exact HB5.out

set_option maxHeartbeats 1000000 in
theorem gOne_any (G : GP) (ok : G.Ok) (gb : Nat) (w : World) (hG : GroupAt w gb G) :
    Calls Try.prog 107 #[.pointer (some ⟨gb, 0, none⟩)] w fun e w' => e = .returned (elV G 1) ∧ Below w.heap.size w w' := by
  have OK := Lib.hid ok
  clear ok
  unfold elV limbV
  have hG0 := hG
  have hgl := hG0.lt
  have hgk := hG0.kind
  have hgs := hG0.size
  have hpm_0 : w.cell? ⟨gb, 2, none⟩ = some (.int .u64 (dig G.p.m 0 : Int)) := hG0.p.cell 0 _ rfl
  have hpm_1 : w.cell? ⟨gb, 3, none⟩ = some (.int .u64 (dig G.p.m 1 : Int)) := hG0.p.cell 1 _ rfl
  have hpm_2 : w.cell? ⟨gb, 4, none⟩ = some (.int .u64 (dig G.p.m 2 : Int)) := hG0.p.cell 2 _ rfl
  have hpm_3 : w.cell? ⟨gb, 5, none⟩ = some (.int .u64 (dig G.p.m 3 : Int)) := hG0.p.cell 3 _ rfl
  have hpo_0 : w.cell? ⟨gb, 6, none⟩ = some (.int .u64 (dig (mont G.p.m 1) 0 : Int)) := by rw [← OK.out.p.one']; exact hG0.p.cell 4 _ rfl
  have hpo_1 : w.cell? ⟨gb, 7, none⟩ = some (.int .u64 (dig (mont G.p.m 1) 1 : Int)) := by rw [← OK.out.p.one']; exact hG0.p.cell 5 _ rfl
  have hpo_2 : w.cell? ⟨gb, 8, none⟩ = some (.int .u64 (dig (mont G.p.m 1) 2 : Int)) := by rw [← OK.out.p.one']; exact hG0.p.cell 6 _ rfl
  have hpo_3 : w.cell? ⟨gb, 9, none⟩ = some (.int .u64 (dig (mont G.p.m 1) 3 : Int)) := by rw [← OK.out.p.one']; exact hG0.p.cell 7 _ rfl
  have hqm_0 : w.cell? ⟨gb, 15, none⟩ = some (.int .u64 (dig G.q.m 0 : Int)) := hG0.q.cell 0 _ rfl
  have hqm_1 : w.cell? ⟨gb, 16, none⟩ = some (.int .u64 (dig G.q.m 1 : Int)) := hG0.q.cell 1 _ rfl
  have hqm_2 : w.cell? ⟨gb, 17, none⟩ = some (.int .u64 (dig G.q.m 2 : Int)) := hG0.q.cell 2 _ rfl
  have hqm_3 : w.cell? ⟨gb, 18, none⟩ = some (.int .u64 (dig G.q.m 3 : Int)) := hG0.q.cell 3 _ rfl
  have hqo_0 : w.cell? ⟨gb, 19, none⟩ = some (.int .u64 (dig (mont G.q.m 1) 0 : Int)) := by rw [← OK.out.q.one']; exact hG0.q.cell 4 _ rfl
  have hqo_1 : w.cell? ⟨gb, 20, none⟩ = some (.int .u64 (dig (mont G.q.m 1) 1 : Int)) := by rw [← OK.out.q.one']; exact hG0.q.cell 5 _ rfl
  have hqo_2 : w.cell? ⟨gb, 21, none⟩ = some (.int .u64 (dig (mont G.q.m 1) 2 : Int)) := by rw [← OK.out.q.one']; exact hG0.q.cell 6 _ rfl
  have hqo_3 : w.cell? ⟨gb, 22, none⟩ = some (.int .u64 (dig (mont G.q.m 1) 3 : Int)) := by rw [← OK.out.q.one']; exact hG0.q.cell 7 _ rfl
  go_enter Try.func107, Try.ntmps107
  go_wp2_with fail
  simp [bodyPost, results, Try.results107, go_sem]
  exact (Below.refl _ _).alloc (Nat.le_refl _) _

end Go.Proofs.Ytipgjookfdkciaa

/- Four limbs, compared. No condition. -/
namespace Go.Proofs.Ytipgjookfdkciaa
open Go.RowKit

theorem run_equalIn_four {P : Program} (w : World) (d : Nat) (t e : TypeId) (ht : P.underlying t = some (.array 4 e)) (he : P.underlying e = some (.int .u64)) (i : TypeInfo) (hi : P.info? e = some i) (hc : P.cellsOf e = 1) (hp : P.plainKey e = true) (x0 x1 x2 x3 y0 y1 y2 y3 : Int) :
    (Op.equalIn (d + 2) t (.agg #[.int .u64 x0, .int .u64 x1, .int .u64 x2, .int .u64 x3]) (.agg #[.int .u64 y0, .int .u64 y1, .int .u64 y2, .int .u64 y3])).run P w = .ok (x0 == y0 && (x1 == y1 && (x2 == y2 && x3 == y3))) w := by
  rw [Op.equalIn]
  simp only [Sem.run_bind, run_underlying ht, Result.andThen_ok, run_sizeOf w hi, hc]
  have hx : ∀ (xs : Array Value) (k : Nat) (v : Value), xs[k]? = some v → (part e xs (k * 1)).run P w = .ok v w := fun xs k v h => run_part_plain w hp (by simpa using h)
  have eqi : ∀ a b : Int, (Op.equalIn (d + 1) e (.int .u64 a) (.int .u64 b)).run P w = .ok (a == b) w := fun a b => run_equalIn_int w d e .u64 .u64 a b he
  have h0 := hx #[.int .u64 x0, .int .u64 x1, .int .u64 x2, .int .u64 x3] 0 _ rfl
  have h1 := hx #[.int .u64 x0, .int .u64 x1, .int .u64 x2, .int .u64 x3] 1 _ rfl
  have h2 := hx #[.int .u64 x0, .int .u64 x1, .int .u64 x2, .int .u64 x3] 2 _ rfl
  have h3 := hx #[.int .u64 x0, .int .u64 x1, .int .u64 x2, .int .u64 x3] 3 _ rfl
  have g0 := hx #[.int .u64 y0, .int .u64 y1, .int .u64 y2, .int .u64 y3] 0 _ rfl
  have g1 := hx #[.int .u64 y0, .int .u64 y1, .int .u64 y2, .int .u64 y3] 1 _ rfl
  have g2 := hx #[.int .u64 y0, .int .u64 y1, .int .u64 y2, .int .u64 y3] 2 _ rfl
  have g3 := hx #[.int .u64 y0, .int .u64 y1, .int .u64 y2, .int .u64 y3] 3 _ rfl
  clear hx
  simp only [Std.Legacy.Range.forIn_eq_forIn_range', Std.Legacy.Range.size]
  have r4 : List.range' 0 ((4 - 0 + 1 - 1) / 1) 1 = [0, 1, 2, 3] := rfl
  rw [r4]
  simp only [List.forIn_cons, List.forIn_nil, Sem.run_bind, Sem.run_ite, Sem.run_pure, Result.andThen_ok, h0, g0, eqi]
  cases h0' : (x0 == y0) <;> cases h1' : (x1 == y1) <;> cases h2' : (x2 == y2) <;> cases h3' : (x3 == y3) <;> first | (simp [Sem.run_bind, h1, h2, h3, g1, g2, g3, eqi, h1', h2', h3']; done) | (simp [Sem.run_bind, h1, h2, h3, g1, g2, g3, eqi, h1', h2', h3']; simpa using h0')

/-- An operation that yields a value, by its own law. -/
theorem wpList_value {P : Program} (w : World) {ops : Array Oper} {rest : List Oper} {o : Oper} {a : Act} {Q : Exit → Act → World → Prop} (hgd : o.guard = none) (op : BinOp) (x y : Operand) (t t2 : TypeId) (ho : o.op = .binOp op t x y t2)
    (u v r : Value) (hx : a.eval x = u) (hy : a.eval y = v) (hg : (eqGuard op t x y u v).run P w = .ok () w) (hb : (binOp op t u v).run P w = .ok r w)
    (h : wpList P ops Q rest (a.put o.dst r) w) : wpList P ops Q (o :: rest) a w := by
  refine wpList_plain hgd fun K hK => ?_
  unfold Oper.wp execOp
  simp only [ho, hx, hy, Sem.run_bind, hg, hb, Result.andThen_ok, Sem.run_pure]
  exact hK _ _ h

theorem wpQuiet_bin {P : Program} {ops : Array Oper} {C : World → Prop} {Q : Act → Prop} {a : Act} {o : Oper} {rest : List Oper} (hw : Region.wanted o (yielded ops a.tmps) = true) (op : BinOp) (x y : Operand) (t t2 : TypeId) (ho : o.op = .binOp op t x y t2)
    (u v r : Value) (hx : a.eval x = u) (hy : a.eval y = v) (hg : ∀ w, (eqGuard op t x y u v).run P w = .ok () w) (hb : ∀ w, (binOp op t u v).run P w = .ok r w)
    (h : wpQuiet P ops C Q rest (a.put o.dst r)) : wpQuiet P ops C Q (o :: rest) a := by
  refine wpQuiet_step fun K hK => ?_
  rw [if_pos hw]
  refine ⟨r, fun w _ => ?_, hK _ h⟩
  unfold Oper.quietAt execOp
  simp only [ho, hx, hy, Sem.run_bind, hg, hb, Result.andThen_ok, Sem.run_pure]
  exact ⟨rfl, rfl⟩

theorem oper_value {P : Program} {o : Oper} {a : Act} {w w' : World} {v : Value} {K : Act → World → Prop} {Q : Exit → Act → World → Prop} (h : (execOp a.eval o).run P w = .ok (.value v) w') (hk : K (a.put o.dst v) w') : Oper.wp P o a w K Q := by
  unfold Oper.wp
  rw [h]
  exact hk

theorem if_wanted {o : Oper} {ys : Nat → Option Bool} {A B : Prop} (h : o.guard = none) (hk : A) : if Region.wanted o ys = true then A else B := by
  have hw : Region.wanted o ys = true := by unfold Region.wanted; rw [h]
  rw [if_pos hw]; exact hk

end Go.Proofs.Ytipgjookfdkciaa

/- The group of a kind: what is read and written, inverses. No condition. -/
namespace Go.Proofs.Ytipgjookfdkciaa
open Go.RowKit

theorem minus2 (m : Nat) (h2 : 2 ≤ m) (hm : m < BB ^ 4) (w : World) : Calls Try.prog 131 #[limbV m, .agg #[.int .u64 2, .int .u64 0, .int .u64 0, .int .u64 0]] w fun e w' => e = .returned (.tuple #[limbV (m - 2), .int .u64 0]) ∧ Below w.heap.size w w' := by
  have h := minus_any m 2 (by decide) w
  rw [limbV_small 2 (by decide), sub256_ok m 2 hm h2, under_four m 2 hm (by decide), if_neg (by omega)] at h
  exact h

set_option maxHeartbeats 1000000 in
theorem gInv_any (G : GP) (ok : G.Ok) (gb x : Nat) (w : World) (hG : GroupAt w gb G) :
    Calls Try.prog 60 #[.pointer (some ⟨gb, 0, none⟩), scV G x] w fun e w' => e = .returned (scV G (x ^ (G.q.m - 2))) ∧ Below w.heap.size w w' := by
  have OK := Lib.hid ok
  clear ok
  unfold scV limbV
  have hG0 := hG
  have hgl := hG0.lt
  have hgk := hG0.kind
  have hgs := hG0.size
  have hpm_0 : w.cell? ⟨gb, 2, none⟩ = some (.int .u64 (dig G.p.m 0 : Int)) := hG0.p.cell 0 _ rfl
  have hpm_1 : w.cell? ⟨gb, 3, none⟩ = some (.int .u64 (dig G.p.m 1 : Int)) := hG0.p.cell 1 _ rfl
  have hpm_2 : w.cell? ⟨gb, 4, none⟩ = some (.int .u64 (dig G.p.m 2 : Int)) := hG0.p.cell 2 _ rfl
  have hpm_3 : w.cell? ⟨gb, 5, none⟩ = some (.int .u64 (dig G.p.m 3 : Int)) := hG0.p.cell 3 _ rfl
  have hpo_0 : w.cell? ⟨gb, 6, none⟩ = some (.int .u64 (dig (mont G.p.m 1) 0 : Int)) := by rw [← OK.out.p.one']; exact hG0.p.cell 4 _ rfl
  have hpo_1 : w.cell? ⟨gb, 7, none⟩ = some (.int .u64 (dig (mont G.p.m 1) 1 : Int)) := by rw [← OK.out.p.one']; exact hG0.p.cell 5 _ rfl
  have hpo_2 : w.cell? ⟨gb, 8, none⟩ = some (.int .u64 (dig (mont G.p.m 1) 2 : Int)) := by rw [← OK.out.p.one']; exact hG0.p.cell 6 _ rfl
  have hpo_3 : w.cell? ⟨gb, 9, none⟩ = some (.int .u64 (dig (mont G.p.m 1) 3 : Int)) := by rw [← OK.out.p.one']; exact hG0.p.cell 7 _ rfl
  have hqm_0 : w.cell? ⟨gb, 15, none⟩ = some (.int .u64 (dig G.q.m 0 : Int)) := hG0.q.cell 0 _ rfl
  have hqm_1 : w.cell? ⟨gb, 16, none⟩ = some (.int .u64 (dig G.q.m 1 : Int)) := hG0.q.cell 1 _ rfl
  have hqm_2 : w.cell? ⟨gb, 17, none⟩ = some (.int .u64 (dig G.q.m 2 : Int)) := hG0.q.cell 2 _ rfl
  have hqm_3 : w.cell? ⟨gb, 18, none⟩ = some (.int .u64 (dig G.q.m 3 : Int)) := hG0.q.cell 3 _ rfl
  have hqo_0 : w.cell? ⟨gb, 19, none⟩ = some (.int .u64 (dig (mont G.q.m 1) 0 : Int)) := by rw [← OK.out.q.one']; exact hG0.q.cell 4 _ rfl
  have hqo_1 : w.cell? ⟨gb, 20, none⟩ = some (.int .u64 (dig (mont G.q.m 1) 1 : Int)) := by rw [← OK.out.q.one']; exact hG0.q.cell 5 _ rfl
  have hqo_2 : w.cell? ⟨gb, 21, none⟩ = some (.int .u64 (dig (mont G.q.m 1) 2 : Int)) := by rw [← OK.out.q.one']; exact hG0.q.cell 6 _ rfl
  have hqo_3 : w.cell? ⟨gb, 22, none⟩ = some (.int .u64 (dig (mont G.q.m 1) 3 : Int)) := by rw [← OK.out.q.one']; exact hG0.q.cell 7 _ rfl
  have hgl1 : gb < w.heap.size + 1 := by omega
  clear hG0
  go_enter Try.func60, Try.ntmps60
  go_wp2_with fail
  clear hgl1 hgk hgs hpm_0 hpm_1 hpm_2 hpm_3 hpo_0 hpo_1 hpo_2 hpo_3 hqm_0 hqm_1 hqm_2 hqm_3 hqo_0 hqo_1 hqo_2 hqo_3
  obtain ⟨W0, hW0⟩ : ∃ W9 : World, ((w.alloc (Obj.cells #[.int .u64 (dig (mont G.q.m x) 0 : Int), .int .u64 (dig (mont G.q.m x) 1 : Int), .int .u64 (dig (mont G.q.m x) 2 : Int), .int .u64 (dig (mont G.q.m x) 3 : Int)] 91)).alloc (Obj.cells #[.int .u64 0, .int .u64 0, .int .u64 0, .int .u64 0] 91)) = W9 := ⟨_, rfl⟩
  rw [hW0]
  have hX : Blk W0 (w.heap.size) 91 (lim (mont G.q.m x)) := by
    rw [← hW0]
    have h := ((Blk.new w 91 (lim (mont G.q.m x)) _ rfl).alloc (Obj.cells #[.int .u64 0, .int .u64 0, .int .u64 0, .int .u64 0] 91))
    exact h
  have hC : Blk W0 (w.heap.size + 1) 91 [0, 0, 0, 0] := by
    rw [← hW0]
    have h := (Blk.new (w.alloc (Obj.cells #[.int .u64 (dig (mont G.q.m x) 0 : Int), .int .u64 (dig (mont G.q.m x) 1 : Int), .int .u64 (dig (mont G.q.m x) 2 : Int), .int .u64 (dig (mont G.q.m x) 3 : Int)] 91)) 91 [0, 0, 0, 0] _ rfl)
    rw [World.size_alloc] at h
    exact h
  have hBW : Below w.heap.size w W0 := by rw [← hW0]; exact (((Below.refl w.heap.size w).alloc (Nat.le_refl _) _).alloc (by simp) _)
  clear hW0
  have HG0 := Lib.hid (hG.up hBW)
  have HX := Lib.hid hX
  have HC := Lib.hid hC
  have HBW := Lib.hid hBW
  have hcl := hC.lt
  clear hG hX hC hBW
  refine (minus2 G.q.m (by have := OK.out.q.big; omega) OK.out.q.lt4 W0).mono ?_
  rintro e w2 ⟨rfl, hb2⟩
  have hz2 := hb2.size
  have HN : Hid (Blk (w2.alloc (Obj.cells #[.int .u64 (dig (G.q.m - 2) 0 : Int), .int .u64 (dig (G.q.m - 2) 1 : Int), .int .u64 (dig (G.q.m - 2) 2 : Int), .int .u64 (dig (G.q.m - 2) 3 : Int)] 89)) w2.heap.size 89 (lim (G.q.m - 2))) := Blk.new w2 _ _ _ rfl
  have HB3 := Lib.hid (hb2.alloc hz2 (Obj.cells #[.int .u64 (dig (G.q.m - 2) 0 : Int), .int .u64 (dig (G.q.m - 2) 1 : Int), .int .u64 (dig (G.q.m - 2) 2 : Int), .int .u64 (dig (G.q.m - 2) 3 : Int)] 89))
  clear hb2
  unfold limbV
  go_wp2_with fail
  generalize w2.alloc (Obj.cells #[.int .u64 (dig (G.q.m - 2) 0 : Int), .int .u64 (dig (G.q.m - 2) 1 : Int), .int .u64 (dig (G.q.m - 2) 2 : Int), .int .u64 (dig (G.q.m - 2) 3 : Int)] 89) = W3 at *
  have hX3 := HX.out.below HB3.out HX.out.lt
  have hG3 := HG0.out.up HB3.out
  have hx_0 := hX3.cell (i := 0) (x := (dig (mont G.q.m x) 0 : Int)) rfl
  have hx_1 := hX3.cell (i := 1) (x := (dig (mont G.q.m x) 1 : Int)) rfl
  have hx_2 := hX3.cell (i := 2) (x := (dig (mont G.q.m x) 2 : Int)) rfl
  have hx_3 := hX3.cell (i := 3) (x := (dig (mont G.q.m x) 3 : Int)) rfl
  have hn_0 := HN.out.cell (i := 0) (x := (dig (G.q.m - 2) 0 : Int)) rfl
  have hn_1 := HN.out.cell (i := 1) (x := (dig (G.q.m - 2) 1 : Int)) rfl
  have hn_2 := HN.out.cell (i := 2) (x := (dig (G.q.m - 2) 2 : Int)) rfl
  have hn_3 := HN.out.cell (i := 3) (x := (dig (G.q.m - 2) 3 : Int)) rfl
  have hlx := hX3.lt
  have hln := HN.out.lt
  clear hX3
  refine wp_region_otail 8 (by kernel_rfl) (by kernel_rfl) ?_
  simp only [List.take_succ_cons, List.take_zero, List.drop_succ_cons, List.drop_zero]
  have hov0 := fun (E : Over W3) o => E.cell (b := w.heap.size) o hlx
  have hov1 := fun (E : Over W3) o => E.cell (b := w2.heap.size) o hln
  repeat (go_big_quiet_step (first | (go_at_call 132; exact calls_over (pow_any G.q OK.out.q gb 15 x (G.q.m - 2) (Nat.lt_of_le_of_lt (Nat.sub_le _ _) OK.out.q.lt4) _ (hG3.up (Over.h _)).q))))
  all_goals (try unfold limbV)
  repeat (go_big_quiet_step (first | (go_at_call 132; exact calls_over (pow_any G.q OK.out.q gb 15 x (G.q.m - 2) (Nat.lt_of_le_of_lt (Nat.sub_le _ _) OK.out.q.lt4) _ (hG3.up (Over.h _)).q))))
  all_goals (try unfold limbV)
  repeat (go_big_quiet_step (first | (go_at_call 132; exact calls_over (pow_any G.q OK.out.q gb 15 x (G.q.m - 2) (Nat.lt_of_le_of_lt (Nat.sub_le _ _) OK.out.q.lt4) _ (hG3.up (Over.h _)).q))))
  refine wpQuiet_nil ?_
  rintro _ ⟨E, rfl⟩
  have HZ := Lib.hid ((HC.out.below HB3.out HC.out.lt).below E.h (by have := HB3.out.size; omega))
  have HBB := Lib.hid (below_up (below_up HBW.out HB3.out) E.h)
  clear hov0 hov1
  generalize E.w = w3 at *
  have HB5 := Lib.hid (below_fill (n := mont G.q.m (x ^ (G.q.m - 2))) (b := w.heap.size + 1) HBB.out (by omega))
  have HS5 := Lib.hid (HZ.out.fill rfl (mont G.q.m (x ^ (G.q.m - 2))))
  have hz_0 := HZ.out.cell (i := 0) (x := 0) rfl
  have hz_1 := HZ.out.cell (i := 1) (x := 0) rfl
  have hz_2 := HZ.out.cell (i := 2) (x := 0) rfl
  have hz_3 := HZ.out.cell (i := 3) (x := 0) rfl
  have hzf_0 := HZ.out.frozen 0
  have hzf_1 := HZ.out.frozen 1
  have hzf_2 := HZ.out.frozen 2
  have hzf_3 := HZ.out.frozen 3
  go_wp2_with fail
  generalize (((((w3).setCell ⟨w.heap.size + 1, 0, none⟩ (.int .u64 (dig (mont G.q.m (x ^ (G.q.m - 2))) 0 : Int))).setCell ⟨w.heap.size + 1, 1, none⟩ (.int .u64 (dig (mont G.q.m (x ^ (G.q.m - 2))) 1 : Int))).setCell ⟨w.heap.size + 1, 2, none⟩ (.int .u64 (dig (mont G.q.m (x ^ (G.q.m - 2))) 2 : Int))).setCell ⟨w.heap.size + 1, 3, none⟩ (.int .u64 (dig (mont G.q.m (x ^ (G.q.m - 2))) 3 : Int))) = w5 at *
  clear hz_0 hz_1 hz_2 hz_3
  have hg_0 := HS5.out.cell (i := 0) (x := (dig (mont G.q.m (x ^ (G.q.m - 2))) 0 : Int)) rfl
  have hg_1 := HS5.out.cell (i := 1) (x := (dig (mont G.q.m (x ^ (G.q.m - 2))) 1 : Int)) rfl
  have hg_2 := HS5.out.cell (i := 2) (x := (dig (mont G.q.m (x ^ (G.q.m - 2))) 2 : Int)) rfl
  have hg_3 := HS5.out.cell (i := 3) (x := (dig (mont G.q.m (x ^ (G.q.m - 2))) 3 : Int)) rfl
  simp [bodyPost, results, Try.results60, go_sem, hg_0, hg_1, hg_2, hg_3]
  exact HB5.out

set_option maxHeartbeats 1000000 in
theorem gUnder_any (G : GP) (ok : G.Ok) (gb x : Nat) (w : World) (hG : GroupAt w gb G) :
    Calls Try.prog 147 #[.pointer (some ⟨gb, 0, none⟩), elV G x] w fun e w' => e = .returned (elV G (x ^ (G.p.m - 2))) ∧ Below w.heap.size w w' := by
  have OK := Lib.hid ok
  clear ok
  unfold elV limbV
  have hG0 := hG
  have hgl := hG0.lt
  have hgk := hG0.kind
  have hgs := hG0.size
  have hpm_0 : w.cell? ⟨gb, 2, none⟩ = some (.int .u64 (dig G.p.m 0 : Int)) := hG0.p.cell 0 _ rfl
  have hpm_1 : w.cell? ⟨gb, 3, none⟩ = some (.int .u64 (dig G.p.m 1 : Int)) := hG0.p.cell 1 _ rfl
  have hpm_2 : w.cell? ⟨gb, 4, none⟩ = some (.int .u64 (dig G.p.m 2 : Int)) := hG0.p.cell 2 _ rfl
  have hpm_3 : w.cell? ⟨gb, 5, none⟩ = some (.int .u64 (dig G.p.m 3 : Int)) := hG0.p.cell 3 _ rfl
  have hpo_0 : w.cell? ⟨gb, 6, none⟩ = some (.int .u64 (dig (mont G.p.m 1) 0 : Int)) := by rw [← OK.out.p.one']; exact hG0.p.cell 4 _ rfl
  have hpo_1 : w.cell? ⟨gb, 7, none⟩ = some (.int .u64 (dig (mont G.p.m 1) 1 : Int)) := by rw [← OK.out.p.one']; exact hG0.p.cell 5 _ rfl
  have hpo_2 : w.cell? ⟨gb, 8, none⟩ = some (.int .u64 (dig (mont G.p.m 1) 2 : Int)) := by rw [← OK.out.p.one']; exact hG0.p.cell 6 _ rfl
  have hpo_3 : w.cell? ⟨gb, 9, none⟩ = some (.int .u64 (dig (mont G.p.m 1) 3 : Int)) := by rw [← OK.out.p.one']; exact hG0.p.cell 7 _ rfl
  have hqm_0 : w.cell? ⟨gb, 15, none⟩ = some (.int .u64 (dig G.q.m 0 : Int)) := hG0.q.cell 0 _ rfl
  have hqm_1 : w.cell? ⟨gb, 16, none⟩ = some (.int .u64 (dig G.q.m 1 : Int)) := hG0.q.cell 1 _ rfl
  have hqm_2 : w.cell? ⟨gb, 17, none⟩ = some (.int .u64 (dig G.q.m 2 : Int)) := hG0.q.cell 2 _ rfl
  have hqm_3 : w.cell? ⟨gb, 18, none⟩ = some (.int .u64 (dig G.q.m 3 : Int)) := hG0.q.cell 3 _ rfl
  have hqo_0 : w.cell? ⟨gb, 19, none⟩ = some (.int .u64 (dig (mont G.q.m 1) 0 : Int)) := by rw [← OK.out.q.one']; exact hG0.q.cell 4 _ rfl
  have hqo_1 : w.cell? ⟨gb, 20, none⟩ = some (.int .u64 (dig (mont G.q.m 1) 1 : Int)) := by rw [← OK.out.q.one']; exact hG0.q.cell 5 _ rfl
  have hqo_2 : w.cell? ⟨gb, 21, none⟩ = some (.int .u64 (dig (mont G.q.m 1) 2 : Int)) := by rw [← OK.out.q.one']; exact hG0.q.cell 6 _ rfl
  have hqo_3 : w.cell? ⟨gb, 22, none⟩ = some (.int .u64 (dig (mont G.q.m 1) 3 : Int)) := by rw [← OK.out.q.one']; exact hG0.q.cell 7 _ rfl
  have hgl1 : gb < w.heap.size + 1 := by omega
  clear hG0
  go_enter Try.func147, Try.ntmps147
  go_wp2_with fail
  clear hgl1 hgk hgs hpm_0 hpm_1 hpm_2 hpm_3 hpo_0 hpo_1 hpo_2 hpo_3 hqm_0 hqm_1 hqm_2 hqm_3 hqo_0 hqo_1 hqo_2 hqo_3
  obtain ⟨W0, hW0⟩ : ∃ W9 : World, ((w.alloc (Obj.cells #[.int .u64 (dig (mont G.p.m x) 0 : Int), .int .u64 (dig (mont G.p.m x) 1 : Int), .int .u64 (dig (mont G.p.m x) 2 : Int), .int .u64 (dig (mont G.p.m x) 3 : Int)] 111)).alloc (Obj.cells #[.int .u64 0, .int .u64 0, .int .u64 0, .int .u64 0] 111)) = W9 := ⟨_, rfl⟩
  rw [hW0]
  have hX : Blk W0 (w.heap.size) 111 (lim (mont G.p.m x)) := by
    rw [← hW0]
    have h := ((Blk.new w 111 (lim (mont G.p.m x)) _ rfl).alloc (Obj.cells #[.int .u64 0, .int .u64 0, .int .u64 0, .int .u64 0] 111))
    exact h
  have hC : Blk W0 (w.heap.size + 1) 111 [0, 0, 0, 0] := by
    rw [← hW0]
    have h := (Blk.new (w.alloc (Obj.cells #[.int .u64 (dig (mont G.p.m x) 0 : Int), .int .u64 (dig (mont G.p.m x) 1 : Int), .int .u64 (dig (mont G.p.m x) 2 : Int), .int .u64 (dig (mont G.p.m x) 3 : Int)] 111)) 111 [0, 0, 0, 0] _ rfl)
    rw [World.size_alloc] at h
    exact h
  have hBW : Below w.heap.size w W0 := by rw [← hW0]; exact (((Below.refl w.heap.size w).alloc (Nat.le_refl _) _).alloc (by simp) _)
  clear hW0
  have HG0 := Lib.hid (hG.up hBW)
  have HX := Lib.hid hX
  have HC := Lib.hid hC
  have HBW := Lib.hid hBW
  have hcl := hC.lt
  clear hG hX hC hBW
  refine (minus2 G.p.m (by have := OK.out.p.big; omega) OK.out.p.lt4 W0).mono ?_
  rintro e w2 ⟨rfl, hb2⟩
  have hz2 := hb2.size
  have HN : Hid (Blk (w2.alloc (Obj.cells #[.int .u64 (dig (G.p.m - 2) 0 : Int), .int .u64 (dig (G.p.m - 2) 1 : Int), .int .u64 (dig (G.p.m - 2) 2 : Int), .int .u64 (dig (G.p.m - 2) 3 : Int)] 89)) w2.heap.size 89 (lim (G.p.m - 2))) := Blk.new w2 _ _ _ rfl
  have HB3 := Lib.hid (hb2.alloc hz2 (Obj.cells #[.int .u64 (dig (G.p.m - 2) 0 : Int), .int .u64 (dig (G.p.m - 2) 1 : Int), .int .u64 (dig (G.p.m - 2) 2 : Int), .int .u64 (dig (G.p.m - 2) 3 : Int)] 89))
  clear hb2
  unfold limbV
  go_wp2_with fail
  generalize w2.alloc (Obj.cells #[.int .u64 (dig (G.p.m - 2) 0 : Int), .int .u64 (dig (G.p.m - 2) 1 : Int), .int .u64 (dig (G.p.m - 2) 2 : Int), .int .u64 (dig (G.p.m - 2) 3 : Int)] 89) = W3 at *
  have hX3 := HX.out.below HB3.out HX.out.lt
  have hG3 := HG0.out.up HB3.out
  have hx_0 := hX3.cell (i := 0) (x := (dig (mont G.p.m x) 0 : Int)) rfl
  have hx_1 := hX3.cell (i := 1) (x := (dig (mont G.p.m x) 1 : Int)) rfl
  have hx_2 := hX3.cell (i := 2) (x := (dig (mont G.p.m x) 2 : Int)) rfl
  have hx_3 := hX3.cell (i := 3) (x := (dig (mont G.p.m x) 3 : Int)) rfl
  have hn_0 := HN.out.cell (i := 0) (x := (dig (G.p.m - 2) 0 : Int)) rfl
  have hn_1 := HN.out.cell (i := 1) (x := (dig (G.p.m - 2) 1 : Int)) rfl
  have hn_2 := HN.out.cell (i := 2) (x := (dig (G.p.m - 2) 2 : Int)) rfl
  have hn_3 := HN.out.cell (i := 3) (x := (dig (G.p.m - 2) 3 : Int)) rfl
  have hlx := hX3.lt
  have hln := HN.out.lt
  clear hX3
  refine wp_region_otail 8 (by kernel_rfl) (by kernel_rfl) ?_
  simp only [List.take_succ_cons, List.take_zero, List.drop_succ_cons, List.drop_zero]
  have hov0 := fun (E : Over W3) o => E.cell (b := w.heap.size) o hlx
  have hov1 := fun (E : Over W3) o => E.cell (b := w2.heap.size) o hln
  repeat (go_big_quiet_step (first | (go_at_call 132; exact calls_over (pow_any G.p OK.out.p gb 2 x (G.p.m - 2) (Nat.lt_of_le_of_lt (Nat.sub_le _ _) OK.out.p.lt4) _ (hG3.up (Over.h _)).p))))
  all_goals (try unfold limbV)
  repeat (go_big_quiet_step (first | (go_at_call 132; exact calls_over (pow_any G.p OK.out.p gb 2 x (G.p.m - 2) (Nat.lt_of_le_of_lt (Nat.sub_le _ _) OK.out.p.lt4) _ (hG3.up (Over.h _)).p))))
  all_goals (try unfold limbV)
  repeat (go_big_quiet_step (first | (go_at_call 132; exact calls_over (pow_any G.p OK.out.p gb 2 x (G.p.m - 2) (Nat.lt_of_le_of_lt (Nat.sub_le _ _) OK.out.p.lt4) _ (hG3.up (Over.h _)).p))))
  refine wpQuiet_nil ?_
  rintro _ ⟨E, rfl⟩
  have HZ := Lib.hid ((HC.out.below HB3.out HC.out.lt).below E.h (by have := HB3.out.size; omega))
  have HBB := Lib.hid (below_up (below_up HBW.out HB3.out) E.h)
  clear hov0 hov1
  generalize E.w = w3 at *
  have HB5 := Lib.hid (below_fill (n := mont G.p.m (x ^ (G.p.m - 2))) (b := w.heap.size + 1) HBB.out (by omega))
  have HS5 := Lib.hid (HZ.out.fill rfl (mont G.p.m (x ^ (G.p.m - 2))))
  have hz_0 := HZ.out.cell (i := 0) (x := 0) rfl
  have hz_1 := HZ.out.cell (i := 1) (x := 0) rfl
  have hz_2 := HZ.out.cell (i := 2) (x := 0) rfl
  have hz_3 := HZ.out.cell (i := 3) (x := 0) rfl
  have hzf_0 := HZ.out.frozen 0
  have hzf_1 := HZ.out.frozen 1
  have hzf_2 := HZ.out.frozen 2
  have hzf_3 := HZ.out.frozen 3
  go_wp2_with fail
  generalize (((((w3).setCell ⟨w.heap.size + 1, 0, none⟩ (.int .u64 (dig (mont G.p.m (x ^ (G.p.m - 2))) 0 : Int))).setCell ⟨w.heap.size + 1, 1, none⟩ (.int .u64 (dig (mont G.p.m (x ^ (G.p.m - 2))) 1 : Int))).setCell ⟨w.heap.size + 1, 2, none⟩ (.int .u64 (dig (mont G.p.m (x ^ (G.p.m - 2))) 2 : Int))).setCell ⟨w.heap.size + 1, 3, none⟩ (.int .u64 (dig (mont G.p.m (x ^ (G.p.m - 2))) 3 : Int))) = w5 at *
  clear hz_0 hz_1 hz_2 hz_3
  have hg_0 := HS5.out.cell (i := 0) (x := (dig (mont G.p.m (x ^ (G.p.m - 2))) 0 : Int)) rfl
  have hg_1 := HS5.out.cell (i := 1) (x := (dig (mont G.p.m (x ^ (G.p.m - 2))) 1 : Int)) rfl
  have hg_2 := HS5.out.cell (i := 2) (x := (dig (mont G.p.m (x ^ (G.p.m - 2))) 2 : Int)) rfl
  have hg_3 := HS5.out.cell (i := 3) (x := (dig (mont G.p.m (x ^ (G.p.m - 2))) 3 : Int)) rfl
  simp [bodyPost, results, Try.results147, go_sem, hg_0, hg_1, hg_2, hg_3]
  exact HB5.out

theorem lim_eq (x y : Nat) (hx : x < BB ^ 4) (hy : y < BB ^ 4) (h0 : dig x 0 = dig y 0) (h1 : dig x 1 = dig y 1) (h2 : dig x 2 = dig y 2) (h3 : dig x 3 = dig y 3) : x = y := by
  have e : ∀ z, z < BB ^ 4 → z = dig z 0 + BB * dig z 1 + BB ^ 2 * dig z 2 + BB ^ 3 * dig z 3 := fun z hz => by
    have a3 := mod_succ z 3
    have a2 := mod_succ z 2
    have a1 := mod_succ z 1
    have a0 := mod_succ z 0
    rw [Nat.mod_eq_of_lt hz] at a3
    simp only [Nat.pow_zero, Nat.mod_one, Nat.zero_add, Nat.pow_one, Nat.one_mul] at a0 a1
    simp only [Nat.reduceAdd] at a1 a2
    omega
  have ex := e x hx
  have ey := e y hy
  rw [h0, h1, h2, h3] at ex
  generalize hs : dig y 0 + BB * dig y 1 + BB ^ 2 * dig y 2 + BB ^ 3 * dig y 3 = s at *
  omega

theorem infoU64 : (Try.prog.info? 87).isSome = true := by kernel_rfl
theorem cellsU64 : Try.prog.cellsOf 87 = 1 := by kernel_rfl
theorem plainU64 : Try.prog.plainKey 87 = true := by kernel_rfl

/-- Two numbers' limbs, compared. -/
theorem eqLimbs (x y : Nat) (hx : x < BB ^ 4) (hy : y < BB ^ 4) (w : World) (b : Bool) (hb : b = decide (x = y)) :
    (Op.equalIn 10000 89 (.agg #[.int .u64 (dig x 0 : Int), .int .u64 (dig x 1 : Int), .int .u64 (dig x 2 : Int), .int .u64 (dig x 3 : Int)]) (.agg #[.int .u64 (dig y 0 : Int), .int .u64 (dig y 1 : Int), .int .u64 (dig y 2 : Int), .int .u64 (dig y 3 : Int)])).run Try.prog w = .ok b w := by
  obtain ⟨i, hi⟩ := Option.isSome_iff_exists.1 infoU64
  rw [run_equalIn_four w 9998 _ _ Try.underlying89 Try.underlying87 i hi cellsU64 plainU64, hb]
  refine congrArg (fun b => Result.ok b w) ?_
  rw [Bool.eq_iff_iff]
  simp only [Bool.and_eq_true, beq_iff_eq, Int.natCast_inj, decide_eq_true_eq]
  exact ⟨fun ⟨h0, h1, h2, h3⟩ => lim_eq x y hx hy h0 h1 h2 h3, fun e => by rw [e]; exact ⟨rfl, rfl, rfl, rfl⟩⟩

theorem guardLimbs (op : BinOp) (x y : Operand) (xs ys : Array Value) (w : World) : (eqGuard op 89 x y (.agg xs) (.agg ys)).run Try.prog w = .ok () w := run_eqGuard_agg w op _ x y xs ys (by kernel_rfl)
theorem binLimbs {xs ys : Array Value} {b : Bool} {w : World} (h : (Op.equalIn 10000 89 (.agg xs) (.agg ys)).run Try.prog w = .ok b w) : (binOp .eql 89 (.agg xs) (.agg ys)).run Try.prog w = .ok (.bool b) w := by
  rw [run_eql_struct, h]
  rfl

theorem eqZero (x : Nat) (hx : x < BB ^ 4) (w : World) (b : Bool) (hb : b = decide (x = 0)) :
    (Op.equalIn 10000 89 (.agg #[.int .u64 (dig x 0 : Int), .int .u64 (dig x 1 : Int), .int .u64 (dig x 2 : Int), .int .u64 (dig x 3 : Int)]) (.agg #[.int .u64 0, .int .u64 0, .int .u64 0, .int .u64 0])).run Try.prog w = .ok b w := by
  have h := eqLimbs x 0 hx (by decide) w b hb
  simpa [dig] using h

set_option maxHeartbeats 1000000 in
theorem gPut_any (G : GP) (ok : G.Ok) (gb x : Nat) (w : World) (hG : GroupAt w gb G) :
    Calls Try.prog 62 #[.pointer (some ⟨gb, 0, none⟩), scV G x] w fun e w' => e = .returned (.string (textS (x % G.q.m) G.size)) ∧ Below w.heap.size w w' := by
  have OK := Lib.hid ok
  clear ok
  unfold scV limbV
  go_enter Try.func62, Try.ntmps62
  go_wp2_with fail
  obtain ⟨W0, hW0⟩ : ∃ W9 : World, (w.alloc (Obj.cells #[.int .u64 (dig (mont G.q.m x) 0 : Int), .int .u64 (dig (mont G.q.m x) 1 : Int), .int .u64 (dig (mont G.q.m x) 2 : Int), .int .u64 (dig (mont G.q.m x) 3 : Int)] 91)) = W9 := ⟨_, rfl⟩
  rw [hW0]
  have hX : Blk W0 (w.heap.size) 91 (lim (mont G.q.m x)) := by
    rw [← hW0]
    have h := (Blk.new w 91 (lim (mont G.q.m x)) _ rfl)
    exact h
  have hBW : Below w.heap.size w W0 := by rw [← hW0]; exact ((Below.refl w.heap.size w).alloc (Nat.le_refl _) _)
  clear hW0
  have hG0 := hG.up hBW
  have hgl := hG0.lt
  have hgk := hG0.kind
  have hgs := hG0.size
  have hpm_0 : W0.cell? ⟨gb, 2, none⟩ = some (.int .u64 (dig G.p.m 0 : Int)) := hG0.p.cell 0 _ rfl
  have hpm_1 : W0.cell? ⟨gb, 3, none⟩ = some (.int .u64 (dig G.p.m 1 : Int)) := hG0.p.cell 1 _ rfl
  have hpm_2 : W0.cell? ⟨gb, 4, none⟩ = some (.int .u64 (dig G.p.m 2 : Int)) := hG0.p.cell 2 _ rfl
  have hpm_3 : W0.cell? ⟨gb, 5, none⟩ = some (.int .u64 (dig G.p.m 3 : Int)) := hG0.p.cell 3 _ rfl
  have hpo_0 : W0.cell? ⟨gb, 6, none⟩ = some (.int .u64 (dig (mont G.p.m 1) 0 : Int)) := by rw [← OK.out.p.one']; exact hG0.p.cell 4 _ rfl
  have hpo_1 : W0.cell? ⟨gb, 7, none⟩ = some (.int .u64 (dig (mont G.p.m 1) 1 : Int)) := by rw [← OK.out.p.one']; exact hG0.p.cell 5 _ rfl
  have hpo_2 : W0.cell? ⟨gb, 8, none⟩ = some (.int .u64 (dig (mont G.p.m 1) 2 : Int)) := by rw [← OK.out.p.one']; exact hG0.p.cell 6 _ rfl
  have hpo_3 : W0.cell? ⟨gb, 9, none⟩ = some (.int .u64 (dig (mont G.p.m 1) 3 : Int)) := by rw [← OK.out.p.one']; exact hG0.p.cell 7 _ rfl
  have hqm_0 : W0.cell? ⟨gb, 15, none⟩ = some (.int .u64 (dig G.q.m 0 : Int)) := hG0.q.cell 0 _ rfl
  have hqm_1 : W0.cell? ⟨gb, 16, none⟩ = some (.int .u64 (dig G.q.m 1 : Int)) := hG0.q.cell 1 _ rfl
  have hqm_2 : W0.cell? ⟨gb, 17, none⟩ = some (.int .u64 (dig G.q.m 2 : Int)) := hG0.q.cell 2 _ rfl
  have hqm_3 : W0.cell? ⟨gb, 18, none⟩ = some (.int .u64 (dig G.q.m 3 : Int)) := hG0.q.cell 3 _ rfl
  have hqo_0 : W0.cell? ⟨gb, 19, none⟩ = some (.int .u64 (dig (mont G.q.m 1) 0 : Int)) := by rw [← OK.out.q.one']; exact hG0.q.cell 4 _ rfl
  have hqo_1 : W0.cell? ⟨gb, 20, none⟩ = some (.int .u64 (dig (mont G.q.m 1) 1 : Int)) := by rw [← OK.out.q.one']; exact hG0.q.cell 5 _ rfl
  have hqo_2 : W0.cell? ⟨gb, 21, none⟩ = some (.int .u64 (dig (mont G.q.m 1) 2 : Int)) := by rw [← OK.out.q.one']; exact hG0.q.cell 6 _ rfl
  have hqo_3 : W0.cell? ⟨gb, 22, none⟩ = some (.int .u64 (dig (mont G.q.m 1) 3 : Int)) := by rw [← OK.out.q.one']; exact hG0.q.cell 7 _ rfl
  have hx_0 := hX.cell (i := 0) (x := (dig (mont G.q.m x) 0 : Int)) rfl
  have hx_1 := hX.cell (i := 1) (x := (dig (mont G.q.m x) 1 : Int)) rfl
  have hx_2 := hX.cell (i := 2) (x := (dig (mont G.q.m x) 2 : Int)) rfl
  have hx_3 := hX.cell (i := 3) (x := (dig (mont G.q.m x) 3 : Int)) rfl
  have hlx := hX.lt
  have HBW := Lib.hid hBW
  clear hX hBW hG
  refine wp_region_over (by kernel_rfl) (by kernel_rfl) ?_
  have hovg := fun (E : Over W0) o => E.cell (b := gb) o hgl
  have hov0 := fun (E : Over W0) o => E.cell (b := w.heap.size) o hlx
  repeat (go_big_quiet_step (first | (go_at_call 134; exact calls_over (outM G.q OK.out.q gb 15 x _ (hG0.up (Over.h _)).q)) | (go_at_call 135; exact calls_over (text_any (x % G.q.m) G.size OK.out.size_le _))))
  refine wpQuiet_nil ?_
  rintro _ ⟨E, rfl⟩
  have HBB := Lib.hid (below_up HBW.out E.h)
  clear hovg hov0
  generalize E.w = w3 at *
  go_wp2_with fail
  go_ret
  exact ⟨rfl, HBB.out⟩

set_option maxRecDepth 10000 in
theorem gZero_b (M : Nat) (b : Bool) (hz : ∀ W, (binOp .eql 89 (.agg #[.int .u64 (dig M 0 : Int), .int .u64 (dig M 1 : Int), .int .u64 (dig M 2 : Int), .int .u64 (dig M 3 : Int)]) (.agg #[.int .u64 0, .int .u64 0, .int .u64 0, .int .u64 0])).run Try.prog W = .ok (.bool b) W) (w : World) :
    Calls Try.prog 95 #[limbV M] w fun e w' => e = .returned (.bool b) ∧ Below w.heap.size w w' := by
  unfold limbV
  have HZ := Lib.hid hz
  clear hz
  go_enter Try.func95, Try.ntmps95
  go_upto_region 1 with (fail)
  go_wp2_with (refine wpList_value _ rfl .eql _ _ 89 _ rfl _ _ (.bool b) rfl rfl ?g ?b ?_; exact guardLimbs _ _ _ _ _ _; exact HZ.out _; skip)
  go_ret
  exact ⟨rfl, (Below.refl _ _).alloc (Nat.le_refl _) _⟩

theorem gZero_any (G : GP) (ok : G.Ok) (x : Nat) (w : World) :
    Calls Try.prog 95 #[scV G x] w fun e w' => e = .returned (.bool (decide (x % G.q.m = 0))) ∧ Below w.heap.size w w' := by
  refine gZero_b _ _ (fun W => binLimbs (eqZero (mont G.q.m x) (ok.q.mont x) W _ ?_)) w
  refine decide_eq_decide.2 ?_
  rw [← mont_mod]
  exact (mont_eq_zero ok.q.low (Nat.mod_lt _ ok.q.pos)).symm

end Go.Proofs.Ytipgjookfdkciaa

/- The group of a kind: scalars and elements are read. No condition. -/
namespace Go.Proofs.Ytipgjookfdkciaa
open Go.RowKit


theorem numOf_lt (s : ByteArray) (hs : s.size ≤ 32) : numOf s < BB ^ 4 := by
  have h := numL_lt s.data.toList
  have e : s.data.toList.length = s.size := rfl
  rw [e] at h
  exact Nat.lt_of_lt_of_le h (by
    have := Nat.pow_le_pow_right (n := 256) (by decide) hs
    exact Nat.le_trans this (by decide))

theorem cmp_is (a b : Nat) (c : Int) (ha : a < BB ^ 4) (hb : b < BB ^ 4) (hc : cmpI a b = c) (w : World) : Calls Try.prog 129 #[limbV a, limbV b] w fun e w' => e = .returned (.int .i64 c) ∧ Below w.heap.size w w' := by
  subst hc; exact cmp_any a b ha hb w


set_option maxHeartbeats 1000000 in
theorem gScalar_long (G : GP) (ok : G.Ok) (gb : Nat) (s : ByteArray) (hs : 32 < s.size) (w : World) (hG : GroupAt w gb G) :
    Calls Try.prog 59 #[.pointer (some ⟨gb, 0, none⟩), .string s] w fun e w' => e = .returned (.tuple #[limbV 0, .bool false]) ∧ Below w.heap.size w w' := by
  have e0 : limbV 0 = .agg #[.int .u64 0, .int .u64 0, .int .u64 0, .int .u64 0] := limbV_small 0 (by decide)
  rw [e0]
  clear e0
  have OK := Lib.hid ok
  clear ok
  go_enter Try.func59, Try.ntmps59
  go_wp2_with fail
  obtain ⟨W0, hW0⟩ : ∃ W9 : World, (w.alloc (Obj.cells #[.int .u64 0, .int .u64 0, .int .u64 0, .int .u64 0] 91)) = W9 := ⟨_, rfl⟩
  rw [hW0]
  have hC : Blk W0 (w.heap.size) 91 [0, 0, 0, 0] := by
    rw [← hW0]
    have h := (Blk.new w 91 [0, 0, 0, 0] _ rfl)
    exact h
  have hBW : Below w.heap.size w W0 := by rw [← hW0]; exact ((Below.refl w.heap.size w).alloc (Nat.le_refl _) _)
  clear hW0
  have HG0 := Lib.hid (hG.up hBW)
  have HC := Lib.hid hC
  have HBW := Lib.hid hBW
  have hcl := hC.lt
  clear hG hC hBW
  refine (read_long s hs W0).mono ?_
  rintro e w2 ⟨rfl, hb2⟩
  have hz2 := hb2.size
  have HN : Hid (Blk (w2.alloc (Obj.cells #[.int .u64 (dig (0) 0 : Int), .int .u64 (dig (0) 1 : Int), .int .u64 (dig (0) 2 : Int), .int .u64 (dig (0) 3 : Int)] 89)) w2.heap.size 89 (lim (0))) := Blk.new w2 _ _ _ rfl
  have HB3 := Lib.hid (hb2.alloc hz2 (Obj.cells #[.int .u64 (dig (0) 0 : Int), .int .u64 (dig (0) 1 : Int), .int .u64 (dig (0) 2 : Int), .int .u64 (dig (0) 3 : Int)] 89))
  clear hb2
  unfold limbV
  go_wp2_with fail
  generalize w2.alloc (Obj.cells #[.int .u64 (dig (0) 0 : Int), .int .u64 (dig (0) 1 : Int), .int .u64 (dig (0) 2 : Int), .int .u64 (dig (0) 3 : Int)] 89) = W3 at *
  have hG0 := HG0.out.up HB3.out
  have hgl := hG0.lt
  have hgk := hG0.kind
  have hgs := hG0.size
  have hpm_0 : W3.cell? ⟨gb, 2, none⟩ = some (.int .u64 (dig G.p.m 0 : Int)) := hG0.p.cell 0 _ rfl
  have hpm_1 : W3.cell? ⟨gb, 3, none⟩ = some (.int .u64 (dig G.p.m 1 : Int)) := hG0.p.cell 1 _ rfl
  have hpm_2 : W3.cell? ⟨gb, 4, none⟩ = some (.int .u64 (dig G.p.m 2 : Int)) := hG0.p.cell 2 _ rfl
  have hpm_3 : W3.cell? ⟨gb, 5, none⟩ = some (.int .u64 (dig G.p.m 3 : Int)) := hG0.p.cell 3 _ rfl
  have hpo_0 : W3.cell? ⟨gb, 6, none⟩ = some (.int .u64 (dig (mont G.p.m 1) 0 : Int)) := by rw [← OK.out.p.one']; exact hG0.p.cell 4 _ rfl
  have hpo_1 : W3.cell? ⟨gb, 7, none⟩ = some (.int .u64 (dig (mont G.p.m 1) 1 : Int)) := by rw [← OK.out.p.one']; exact hG0.p.cell 5 _ rfl
  have hpo_2 : W3.cell? ⟨gb, 8, none⟩ = some (.int .u64 (dig (mont G.p.m 1) 2 : Int)) := by rw [← OK.out.p.one']; exact hG0.p.cell 6 _ rfl
  have hpo_3 : W3.cell? ⟨gb, 9, none⟩ = some (.int .u64 (dig (mont G.p.m 1) 3 : Int)) := by rw [← OK.out.p.one']; exact hG0.p.cell 7 _ rfl
  have hqm_0 : W3.cell? ⟨gb, 15, none⟩ = some (.int .u64 (dig G.q.m 0 : Int)) := hG0.q.cell 0 _ rfl
  have hqm_1 : W3.cell? ⟨gb, 16, none⟩ = some (.int .u64 (dig G.q.m 1 : Int)) := hG0.q.cell 1 _ rfl
  have hqm_2 : W3.cell? ⟨gb, 17, none⟩ = some (.int .u64 (dig G.q.m 2 : Int)) := hG0.q.cell 2 _ rfl
  have hqm_3 : W3.cell? ⟨gb, 18, none⟩ = some (.int .u64 (dig G.q.m 3 : Int)) := hG0.q.cell 3 _ rfl
  have hqo_0 : W3.cell? ⟨gb, 19, none⟩ = some (.int .u64 (dig (mont G.q.m 1) 0 : Int)) := by rw [← OK.out.q.one']; exact hG0.q.cell 4 _ rfl
  have hqo_1 : W3.cell? ⟨gb, 20, none⟩ = some (.int .u64 (dig (mont G.q.m 1) 1 : Int)) := by rw [← OK.out.q.one']; exact hG0.q.cell 5 _ rfl
  have hqo_2 : W3.cell? ⟨gb, 21, none⟩ = some (.int .u64 (dig (mont G.q.m 1) 2 : Int)) := by rw [← OK.out.q.one']; exact hG0.q.cell 6 _ rfl
  have hqo_3 : W3.cell? ⟨gb, 22, none⟩ = some (.int .u64 (dig (mont G.q.m 1) 3 : Int)) := by rw [← OK.out.q.one']; exact hG0.q.cell 7 _ rfl
  have hn_0 := HN.out.cell (i := 0) (x := (dig (0) 0 : Int)) rfl
  have hn_1 := HN.out.cell (i := 1) (x := (dig (0) 1 : Int)) rfl
  have hn_2 := HN.out.cell (i := 2) (x := (dig (0) 2 : Int)) rfl
  have hn_3 := HN.out.cell (i := 3) (x := (dig (0) 3 : Int)) rfl
  have hln := HN.out.lt
  refine wp_region_over (by kernel_rfl) (by kernel_rfl) ?_
  repeat (go_big_quiet_step (fail))
  refine wpQuiet_nil ?_
  rintro _ ⟨E, rfl⟩
  have HZ := Lib.hid ((HC.out.below HB3.out HC.out.lt).below E.h (by have := HB3.out.size; omega))
  have HBB := Lib.hid (below_up (below_up HBW.out HB3.out) E.h)
  generalize E.w = w3 at *
  have HS5 : Hid (Blk (((((w3).setCell ⟨w.heap.size, 0, none⟩ (.int .u64 0)).setCell ⟨w.heap.size, 1, none⟩ (.int .u64 0)).setCell ⟨w.heap.size, 2, none⟩ (.int .u64 0)).setCell ⟨w.heap.size, 3, none⟩ (.int .u64 0)) (w.heap.size) 91 [0, 0, 0, 0]) := (((HZ.out.set 0 0).set 1 0).set 2 0).set 3 0
  have HB5 : Hid (Below w.heap.size w (((((w3).setCell ⟨w.heap.size, 0, none⟩ (.int .u64 0)).setCell ⟨w.heap.size, 1, none⟩ (.int .u64 0)).setCell ⟨w.heap.size, 2, none⟩ (.int .u64 0)).setCell ⟨w.heap.size, 3, none⟩ (.int .u64 0))) := below_four HBB.out (by omega) _ _ _ _
  have hz_0 := HZ.out.cell (i := 0) (x := 0) rfl
  have hz_1 := HZ.out.cell (i := 1) (x := 0) rfl
  have hz_2 := HZ.out.cell (i := 2) (x := 0) rfl
  have hz_3 := HZ.out.cell (i := 3) (x := 0) rfl
  have hzf_0 := HZ.out.frozen 0
  have hzf_1 := HZ.out.frozen 1
  have hzf_2 := HZ.out.frozen 2
  have hzf_3 := HZ.out.frozen 3
  go_wp2_with fail
  generalize (((((w3).setCell ⟨w.heap.size, 0, none⟩ (.int .u64 0)).setCell ⟨w.heap.size, 1, none⟩ (.int .u64 0)).setCell ⟨w.heap.size, 2, none⟩ (.int .u64 0)).setCell ⟨w.heap.size, 3, none⟩ (.int .u64 0)) = w5 at *
  clear hz_0 hz_1 hz_2 hz_3
  have hg_0 := HS5.out.cell (i := 0) (x := 0) rfl
  have hg_1 := HS5.out.cell (i := 1) (x := 0) rfl
  have hg_2 := HS5.out.cell (i := 2) (x := 0) rfl
  have hg_3 := HS5.out.cell (i := 3) (x := 0) rfl
  simp [bodyPost, results, Try.results59, go_sem, hg_0, hg_1, hg_2, hg_3]
  exact HB5.out

set_option maxHeartbeats 1000000 in
theorem gScalar_len (G : GP) (ok : G.Ok) (gb : Nat) (s : ByteArray) (hs : s.size ≤ 32) (hl : s.size ≠ G.size) (w : World) (hG : GroupAt w gb G) :
    Calls Try.prog 59 #[.pointer (some ⟨gb, 0, none⟩), .string s] w fun e w' => e = .returned (.tuple #[limbV 0, .bool false]) ∧ Below w.heap.size w w' := by
  have e0 : limbV 0 = .agg #[.int .u64 0, .int .u64 0, .int .u64 0, .int .u64 0] := limbV_small 0 (by decide)
  rw [e0]
  clear e0
  have OK := Lib.hid ok
  clear ok
  go_enter Try.func59, Try.ntmps59
  go_wp2_with fail
  obtain ⟨W0, hW0⟩ : ∃ W9 : World, (w.alloc (Obj.cells #[.int .u64 0, .int .u64 0, .int .u64 0, .int .u64 0] 91)) = W9 := ⟨_, rfl⟩
  rw [hW0]
  have hC : Blk W0 (w.heap.size) 91 [0, 0, 0, 0] := by
    rw [← hW0]
    have h := (Blk.new w 91 [0, 0, 0, 0] _ rfl)
    exact h
  have hBW : Below w.heap.size w W0 := by rw [← hW0]; exact ((Below.refl w.heap.size w).alloc (Nat.le_refl _) _)
  clear hW0
  have HG0 := Lib.hid (hG.up hBW)
  have HC := Lib.hid hC
  have HBW := Lib.hid hBW
  have hcl := hC.lt
  clear hG hC hBW
  refine (read_any s hs W0).mono ?_
  rintro e w2 ⟨rfl, hb2⟩
  have hz2 := hb2.size
  have HN : Hid (Blk (w2.alloc (Obj.cells #[.int .u64 (dig (numOf s) 0 : Int), .int .u64 (dig (numOf s) 1 : Int), .int .u64 (dig (numOf s) 2 : Int), .int .u64 (dig (numOf s) 3 : Int)] 89)) w2.heap.size 89 (lim (numOf s))) := Blk.new w2 _ _ _ rfl
  have HB3 := Lib.hid (hb2.alloc hz2 (Obj.cells #[.int .u64 (dig (numOf s) 0 : Int), .int .u64 (dig (numOf s) 1 : Int), .int .u64 (dig (numOf s) 2 : Int), .int .u64 (dig (numOf s) 3 : Int)] 89))
  clear hb2
  unfold limbV
  go_wp2_with fail
  generalize w2.alloc (Obj.cells #[.int .u64 (dig (numOf s) 0 : Int), .int .u64 (dig (numOf s) 1 : Int), .int .u64 (dig (numOf s) 2 : Int), .int .u64 (dig (numOf s) 3 : Int)] 89) = W3 at *
  have hG0 := HG0.out.up HB3.out
  have hgl := hG0.lt
  have hgk := hG0.kind
  have hgs := hG0.size
  have hpm_0 : W3.cell? ⟨gb, 2, none⟩ = some (.int .u64 (dig G.p.m 0 : Int)) := hG0.p.cell 0 _ rfl
  have hpm_1 : W3.cell? ⟨gb, 3, none⟩ = some (.int .u64 (dig G.p.m 1 : Int)) := hG0.p.cell 1 _ rfl
  have hpm_2 : W3.cell? ⟨gb, 4, none⟩ = some (.int .u64 (dig G.p.m 2 : Int)) := hG0.p.cell 2 _ rfl
  have hpm_3 : W3.cell? ⟨gb, 5, none⟩ = some (.int .u64 (dig G.p.m 3 : Int)) := hG0.p.cell 3 _ rfl
  have hpo_0 : W3.cell? ⟨gb, 6, none⟩ = some (.int .u64 (dig (mont G.p.m 1) 0 : Int)) := by rw [← OK.out.p.one']; exact hG0.p.cell 4 _ rfl
  have hpo_1 : W3.cell? ⟨gb, 7, none⟩ = some (.int .u64 (dig (mont G.p.m 1) 1 : Int)) := by rw [← OK.out.p.one']; exact hG0.p.cell 5 _ rfl
  have hpo_2 : W3.cell? ⟨gb, 8, none⟩ = some (.int .u64 (dig (mont G.p.m 1) 2 : Int)) := by rw [← OK.out.p.one']; exact hG0.p.cell 6 _ rfl
  have hpo_3 : W3.cell? ⟨gb, 9, none⟩ = some (.int .u64 (dig (mont G.p.m 1) 3 : Int)) := by rw [← OK.out.p.one']; exact hG0.p.cell 7 _ rfl
  have hqm_0 : W3.cell? ⟨gb, 15, none⟩ = some (.int .u64 (dig G.q.m 0 : Int)) := hG0.q.cell 0 _ rfl
  have hqm_1 : W3.cell? ⟨gb, 16, none⟩ = some (.int .u64 (dig G.q.m 1 : Int)) := hG0.q.cell 1 _ rfl
  have hqm_2 : W3.cell? ⟨gb, 17, none⟩ = some (.int .u64 (dig G.q.m 2 : Int)) := hG0.q.cell 2 _ rfl
  have hqm_3 : W3.cell? ⟨gb, 18, none⟩ = some (.int .u64 (dig G.q.m 3 : Int)) := hG0.q.cell 3 _ rfl
  have hqo_0 : W3.cell? ⟨gb, 19, none⟩ = some (.int .u64 (dig (mont G.q.m 1) 0 : Int)) := by rw [← OK.out.q.one']; exact hG0.q.cell 4 _ rfl
  have hqo_1 : W3.cell? ⟨gb, 20, none⟩ = some (.int .u64 (dig (mont G.q.m 1) 1 : Int)) := by rw [← OK.out.q.one']; exact hG0.q.cell 5 _ rfl
  have hqo_2 : W3.cell? ⟨gb, 21, none⟩ = some (.int .u64 (dig (mont G.q.m 1) 2 : Int)) := by rw [← OK.out.q.one']; exact hG0.q.cell 6 _ rfl
  have hqo_3 : W3.cell? ⟨gb, 22, none⟩ = some (.int .u64 (dig (mont G.q.m 1) 3 : Int)) := by rw [← OK.out.q.one']; exact hG0.q.cell 7 _ rfl
  have hn_0 := HN.out.cell (i := 0) (x := (dig (numOf s) 0 : Int)) rfl
  have hn_1 := HN.out.cell (i := 1) (x := (dig (numOf s) 1 : Int)) rfl
  have hn_2 := HN.out.cell (i := 2) (x := (dig (numOf s) 2 : Int)) rfl
  have hn_3 := HN.out.cell (i := 3) (x := (dig (numOf s) 3 : Int)) rfl
  have hln := HN.out.lt
  have hne : ((s.size : Int) != (G.size : Int)) = true := by simp; omega
  have hovg := fun (E : Over W3) o => E.cell (b := gb) o hgl
  refine wp_region_over (by kernel_rfl) (by kernel_rfl) ?_
  repeat (go_big_quiet_step (fail))
  refine wpQuiet_nil ?_
  rintro _ ⟨E, rfl⟩
  have HZ := Lib.hid ((HC.out.below HB3.out HC.out.lt).below E.h (by have := HB3.out.size; omega))
  have HBB := Lib.hid (below_up (below_up HBW.out HB3.out) E.h)
  clear hovg
  generalize E.w = w3 at *
  have HS5 : Hid (Blk (((((w3).setCell ⟨w.heap.size, 0, none⟩ (.int .u64 0)).setCell ⟨w.heap.size, 1, none⟩ (.int .u64 0)).setCell ⟨w.heap.size, 2, none⟩ (.int .u64 0)).setCell ⟨w.heap.size, 3, none⟩ (.int .u64 0)) (w.heap.size) 91 [0, 0, 0, 0]) := (((HZ.out.set 0 0).set 1 0).set 2 0).set 3 0
  have HB5 : Hid (Below w.heap.size w (((((w3).setCell ⟨w.heap.size, 0, none⟩ (.int .u64 0)).setCell ⟨w.heap.size, 1, none⟩ (.int .u64 0)).setCell ⟨w.heap.size, 2, none⟩ (.int .u64 0)).setCell ⟨w.heap.size, 3, none⟩ (.int .u64 0))) := below_four HBB.out (by omega) _ _ _ _
  have hz_0 := HZ.out.cell (i := 0) (x := 0) rfl
  have hz_1 := HZ.out.cell (i := 1) (x := 0) rfl
  have hz_2 := HZ.out.cell (i := 2) (x := 0) rfl
  have hz_3 := HZ.out.cell (i := 3) (x := 0) rfl
  have hzf_0 := HZ.out.frozen 0
  have hzf_1 := HZ.out.frozen 1
  have hzf_2 := HZ.out.frozen 2
  have hzf_3 := HZ.out.frozen 3
  go_wp2_with fail
  generalize (((((w3).setCell ⟨w.heap.size, 0, none⟩ (.int .u64 0)).setCell ⟨w.heap.size, 1, none⟩ (.int .u64 0)).setCell ⟨w.heap.size, 2, none⟩ (.int .u64 0)).setCell ⟨w.heap.size, 3, none⟩ (.int .u64 0)) = w5 at *
  clear hz_0 hz_1 hz_2 hz_3
  have hg_0 := HS5.out.cell (i := 0) (x := 0) rfl
  have hg_1 := HS5.out.cell (i := 1) (x := 0) rfl
  have hg_2 := HS5.out.cell (i := 2) (x := 0) rfl
  have hg_3 := HS5.out.cell (i := 3) (x := 0) rfl
  simp [bodyPost, results, Try.results59, go_sem, hg_0, hg_1, hg_2, hg_3]
  exact HB5.out

set_option maxHeartbeats 1000000 in
theorem gElem_long (G : GP) (ok : G.Ok) (gb : Nat) (s : ByteArray) (hs : 32 < s.size) (w : World) (hG : GroupAt w gb G) :
    Calls Try.prog 106 #[.pointer (some ⟨gb, 0, none⟩), .string s] w fun e w' => e = .returned (.tuple #[limbV 0, .bool false]) ∧ Below w.heap.size w w' := by
  have e0 : limbV 0 = .agg #[.int .u64 0, .int .u64 0, .int .u64 0, .int .u64 0] := limbV_small 0 (by decide)
  rw [e0]
  clear e0
  have OK := Lib.hid ok
  clear ok
  go_enter Try.func106, Try.ntmps106
  go_wp2_with fail
  obtain ⟨W0, hW0⟩ : ∃ W9 : World, (w.alloc (Obj.cells #[.int .u64 0, .int .u64 0, .int .u64 0, .int .u64 0] 111)) = W9 := ⟨_, rfl⟩
  rw [hW0]
  have hC : Blk W0 (w.heap.size) 111 [0, 0, 0, 0] := by
    rw [← hW0]
    have h := (Blk.new w 111 [0, 0, 0, 0] _ rfl)
    exact h
  have hBW : Below w.heap.size w W0 := by rw [← hW0]; exact ((Below.refl w.heap.size w).alloc (Nat.le_refl _) _)
  clear hW0
  have HG0 := Lib.hid (hG.up hBW)
  have HC := Lib.hid hC
  have HBW := Lib.hid hBW
  have hcl := hC.lt
  clear hG hC hBW
  refine (read_long s hs W0).mono ?_
  rintro e w2 ⟨rfl, hb2⟩
  have hz2 := hb2.size
  have HN : Hid (Blk (w2.alloc (Obj.cells #[.int .u64 (dig (0) 0 : Int), .int .u64 (dig (0) 1 : Int), .int .u64 (dig (0) 2 : Int), .int .u64 (dig (0) 3 : Int)] 89)) w2.heap.size 89 (lim (0))) := Blk.new w2 _ _ _ rfl
  have HB3 := Lib.hid (hb2.alloc hz2 (Obj.cells #[.int .u64 (dig (0) 0 : Int), .int .u64 (dig (0) 1 : Int), .int .u64 (dig (0) 2 : Int), .int .u64 (dig (0) 3 : Int)] 89))
  clear hb2
  unfold limbV
  go_wp2_with fail
  generalize w2.alloc (Obj.cells #[.int .u64 (dig (0) 0 : Int), .int .u64 (dig (0) 1 : Int), .int .u64 (dig (0) 2 : Int), .int .u64 (dig (0) 3 : Int)] 89) = W3 at *
  have hG0 := HG0.out.up HB3.out
  have hgl := hG0.lt
  have hgk := hG0.kind
  have hgs := hG0.size
  have hpm_0 : W3.cell? ⟨gb, 2, none⟩ = some (.int .u64 (dig G.p.m 0 : Int)) := hG0.p.cell 0 _ rfl
  have hpm_1 : W3.cell? ⟨gb, 3, none⟩ = some (.int .u64 (dig G.p.m 1 : Int)) := hG0.p.cell 1 _ rfl
  have hpm_2 : W3.cell? ⟨gb, 4, none⟩ = some (.int .u64 (dig G.p.m 2 : Int)) := hG0.p.cell 2 _ rfl
  have hpm_3 : W3.cell? ⟨gb, 5, none⟩ = some (.int .u64 (dig G.p.m 3 : Int)) := hG0.p.cell 3 _ rfl
  have hpo_0 : W3.cell? ⟨gb, 6, none⟩ = some (.int .u64 (dig (mont G.p.m 1) 0 : Int)) := by rw [← OK.out.p.one']; exact hG0.p.cell 4 _ rfl
  have hpo_1 : W3.cell? ⟨gb, 7, none⟩ = some (.int .u64 (dig (mont G.p.m 1) 1 : Int)) := by rw [← OK.out.p.one']; exact hG0.p.cell 5 _ rfl
  have hpo_2 : W3.cell? ⟨gb, 8, none⟩ = some (.int .u64 (dig (mont G.p.m 1) 2 : Int)) := by rw [← OK.out.p.one']; exact hG0.p.cell 6 _ rfl
  have hpo_3 : W3.cell? ⟨gb, 9, none⟩ = some (.int .u64 (dig (mont G.p.m 1) 3 : Int)) := by rw [← OK.out.p.one']; exact hG0.p.cell 7 _ rfl
  have hqm_0 : W3.cell? ⟨gb, 15, none⟩ = some (.int .u64 (dig G.q.m 0 : Int)) := hG0.q.cell 0 _ rfl
  have hqm_1 : W3.cell? ⟨gb, 16, none⟩ = some (.int .u64 (dig G.q.m 1 : Int)) := hG0.q.cell 1 _ rfl
  have hqm_2 : W3.cell? ⟨gb, 17, none⟩ = some (.int .u64 (dig G.q.m 2 : Int)) := hG0.q.cell 2 _ rfl
  have hqm_3 : W3.cell? ⟨gb, 18, none⟩ = some (.int .u64 (dig G.q.m 3 : Int)) := hG0.q.cell 3 _ rfl
  have hqo_0 : W3.cell? ⟨gb, 19, none⟩ = some (.int .u64 (dig (mont G.q.m 1) 0 : Int)) := by rw [← OK.out.q.one']; exact hG0.q.cell 4 _ rfl
  have hqo_1 : W3.cell? ⟨gb, 20, none⟩ = some (.int .u64 (dig (mont G.q.m 1) 1 : Int)) := by rw [← OK.out.q.one']; exact hG0.q.cell 5 _ rfl
  have hqo_2 : W3.cell? ⟨gb, 21, none⟩ = some (.int .u64 (dig (mont G.q.m 1) 2 : Int)) := by rw [← OK.out.q.one']; exact hG0.q.cell 6 _ rfl
  have hqo_3 : W3.cell? ⟨gb, 22, none⟩ = some (.int .u64 (dig (mont G.q.m 1) 3 : Int)) := by rw [← OK.out.q.one']; exact hG0.q.cell 7 _ rfl
  have hn_0 := HN.out.cell (i := 0) (x := (dig (0) 0 : Int)) rfl
  have hn_1 := HN.out.cell (i := 1) (x := (dig (0) 1 : Int)) rfl
  have hn_2 := HN.out.cell (i := 2) (x := (dig (0) 2 : Int)) rfl
  have hn_3 := HN.out.cell (i := 3) (x := (dig (0) 3 : Int)) rfl
  have hln := HN.out.lt
  refine wp_region_over (by kernel_rfl) (by kernel_rfl) ?_
  repeat (go_big_quiet_step (fail))
  refine wpQuiet_nil ?_
  rintro _ ⟨E, rfl⟩
  have HZ := Lib.hid ((HC.out.below HB3.out HC.out.lt).below E.h (by have := HB3.out.size; omega))
  have HBB := Lib.hid (below_up (below_up HBW.out HB3.out) E.h)
  generalize E.w = w3 at *
  have HS5 : Hid (Blk (((((w3).setCell ⟨w.heap.size, 0, none⟩ (.int .u64 0)).setCell ⟨w.heap.size, 1, none⟩ (.int .u64 0)).setCell ⟨w.heap.size, 2, none⟩ (.int .u64 0)).setCell ⟨w.heap.size, 3, none⟩ (.int .u64 0)) (w.heap.size) 111 [0, 0, 0, 0]) := (((HZ.out.set 0 0).set 1 0).set 2 0).set 3 0
  have HB5 : Hid (Below w.heap.size w (((((w3).setCell ⟨w.heap.size, 0, none⟩ (.int .u64 0)).setCell ⟨w.heap.size, 1, none⟩ (.int .u64 0)).setCell ⟨w.heap.size, 2, none⟩ (.int .u64 0)).setCell ⟨w.heap.size, 3, none⟩ (.int .u64 0))) := below_four HBB.out (by omega) _ _ _ _
  have hz_0 := HZ.out.cell (i := 0) (x := 0) rfl
  have hz_1 := HZ.out.cell (i := 1) (x := 0) rfl
  have hz_2 := HZ.out.cell (i := 2) (x := 0) rfl
  have hz_3 := HZ.out.cell (i := 3) (x := 0) rfl
  have hzf_0 := HZ.out.frozen 0
  have hzf_1 := HZ.out.frozen 1
  have hzf_2 := HZ.out.frozen 2
  have hzf_3 := HZ.out.frozen 3
  go_wp2_with fail
  generalize (((((w3).setCell ⟨w.heap.size, 0, none⟩ (.int .u64 0)).setCell ⟨w.heap.size, 1, none⟩ (.int .u64 0)).setCell ⟨w.heap.size, 2, none⟩ (.int .u64 0)).setCell ⟨w.heap.size, 3, none⟩ (.int .u64 0)) = w5 at *
  clear hz_0 hz_1 hz_2 hz_3
  have hg_0 := HS5.out.cell (i := 0) (x := 0) rfl
  have hg_1 := HS5.out.cell (i := 1) (x := 0) rfl
  have hg_2 := HS5.out.cell (i := 2) (x := 0) rfl
  have hg_3 := HS5.out.cell (i := 3) (x := 0) rfl
  simp [bodyPost, results, Try.results106, go_sem, hg_0, hg_1, hg_2, hg_3]
  exact HB5.out

set_option maxHeartbeats 1000000 in
theorem gElem_len (G : GP) (ok : G.Ok) (gb : Nat) (s : ByteArray) (hs : s.size ≤ 32) (hl : s.size ≠ G.size) (w : World) (hG : GroupAt w gb G) :
    Calls Try.prog 106 #[.pointer (some ⟨gb, 0, none⟩), .string s] w fun e w' => e = .returned (.tuple #[limbV 0, .bool false]) ∧ Below w.heap.size w w' := by
  have e0 : limbV 0 = .agg #[.int .u64 0, .int .u64 0, .int .u64 0, .int .u64 0] := limbV_small 0 (by decide)
  rw [e0]
  clear e0
  have OK := Lib.hid ok
  clear ok
  go_enter Try.func106, Try.ntmps106
  go_wp2_with fail
  obtain ⟨W0, hW0⟩ : ∃ W9 : World, (w.alloc (Obj.cells #[.int .u64 0, .int .u64 0, .int .u64 0, .int .u64 0] 111)) = W9 := ⟨_, rfl⟩
  rw [hW0]
  have hC : Blk W0 (w.heap.size) 111 [0, 0, 0, 0] := by
    rw [← hW0]
    have h := (Blk.new w 111 [0, 0, 0, 0] _ rfl)
    exact h
  have hBW : Below w.heap.size w W0 := by rw [← hW0]; exact ((Below.refl w.heap.size w).alloc (Nat.le_refl _) _)
  clear hW0
  have HG0 := Lib.hid (hG.up hBW)
  have HC := Lib.hid hC
  have HBW := Lib.hid hBW
  have hcl := hC.lt
  clear hG hC hBW
  refine (read_any s hs W0).mono ?_
  rintro e w2 ⟨rfl, hb2⟩
  have hz2 := hb2.size
  have HN : Hid (Blk (w2.alloc (Obj.cells #[.int .u64 (dig (numOf s) 0 : Int), .int .u64 (dig (numOf s) 1 : Int), .int .u64 (dig (numOf s) 2 : Int), .int .u64 (dig (numOf s) 3 : Int)] 89)) w2.heap.size 89 (lim (numOf s))) := Blk.new w2 _ _ _ rfl
  have HB3 := Lib.hid (hb2.alloc hz2 (Obj.cells #[.int .u64 (dig (numOf s) 0 : Int), .int .u64 (dig (numOf s) 1 : Int), .int .u64 (dig (numOf s) 2 : Int), .int .u64 (dig (numOf s) 3 : Int)] 89))
  clear hb2
  unfold limbV
  go_wp2_with fail
  generalize w2.alloc (Obj.cells #[.int .u64 (dig (numOf s) 0 : Int), .int .u64 (dig (numOf s) 1 : Int), .int .u64 (dig (numOf s) 2 : Int), .int .u64 (dig (numOf s) 3 : Int)] 89) = W3 at *
  have hG0 := HG0.out.up HB3.out
  have hgl := hG0.lt
  have hgk := hG0.kind
  have hgs := hG0.size
  have hpm_0 : W3.cell? ⟨gb, 2, none⟩ = some (.int .u64 (dig G.p.m 0 : Int)) := hG0.p.cell 0 _ rfl
  have hpm_1 : W3.cell? ⟨gb, 3, none⟩ = some (.int .u64 (dig G.p.m 1 : Int)) := hG0.p.cell 1 _ rfl
  have hpm_2 : W3.cell? ⟨gb, 4, none⟩ = some (.int .u64 (dig G.p.m 2 : Int)) := hG0.p.cell 2 _ rfl
  have hpm_3 : W3.cell? ⟨gb, 5, none⟩ = some (.int .u64 (dig G.p.m 3 : Int)) := hG0.p.cell 3 _ rfl
  have hpo_0 : W3.cell? ⟨gb, 6, none⟩ = some (.int .u64 (dig (mont G.p.m 1) 0 : Int)) := by rw [← OK.out.p.one']; exact hG0.p.cell 4 _ rfl
  have hpo_1 : W3.cell? ⟨gb, 7, none⟩ = some (.int .u64 (dig (mont G.p.m 1) 1 : Int)) := by rw [← OK.out.p.one']; exact hG0.p.cell 5 _ rfl
  have hpo_2 : W3.cell? ⟨gb, 8, none⟩ = some (.int .u64 (dig (mont G.p.m 1) 2 : Int)) := by rw [← OK.out.p.one']; exact hG0.p.cell 6 _ rfl
  have hpo_3 : W3.cell? ⟨gb, 9, none⟩ = some (.int .u64 (dig (mont G.p.m 1) 3 : Int)) := by rw [← OK.out.p.one']; exact hG0.p.cell 7 _ rfl
  have hqm_0 : W3.cell? ⟨gb, 15, none⟩ = some (.int .u64 (dig G.q.m 0 : Int)) := hG0.q.cell 0 _ rfl
  have hqm_1 : W3.cell? ⟨gb, 16, none⟩ = some (.int .u64 (dig G.q.m 1 : Int)) := hG0.q.cell 1 _ rfl
  have hqm_2 : W3.cell? ⟨gb, 17, none⟩ = some (.int .u64 (dig G.q.m 2 : Int)) := hG0.q.cell 2 _ rfl
  have hqm_3 : W3.cell? ⟨gb, 18, none⟩ = some (.int .u64 (dig G.q.m 3 : Int)) := hG0.q.cell 3 _ rfl
  have hqo_0 : W3.cell? ⟨gb, 19, none⟩ = some (.int .u64 (dig (mont G.q.m 1) 0 : Int)) := by rw [← OK.out.q.one']; exact hG0.q.cell 4 _ rfl
  have hqo_1 : W3.cell? ⟨gb, 20, none⟩ = some (.int .u64 (dig (mont G.q.m 1) 1 : Int)) := by rw [← OK.out.q.one']; exact hG0.q.cell 5 _ rfl
  have hqo_2 : W3.cell? ⟨gb, 21, none⟩ = some (.int .u64 (dig (mont G.q.m 1) 2 : Int)) := by rw [← OK.out.q.one']; exact hG0.q.cell 6 _ rfl
  have hqo_3 : W3.cell? ⟨gb, 22, none⟩ = some (.int .u64 (dig (mont G.q.m 1) 3 : Int)) := by rw [← OK.out.q.one']; exact hG0.q.cell 7 _ rfl
  have hn_0 := HN.out.cell (i := 0) (x := (dig (numOf s) 0 : Int)) rfl
  have hn_1 := HN.out.cell (i := 1) (x := (dig (numOf s) 1 : Int)) rfl
  have hn_2 := HN.out.cell (i := 2) (x := (dig (numOf s) 2 : Int)) rfl
  have hn_3 := HN.out.cell (i := 3) (x := (dig (numOf s) 3 : Int)) rfl
  have hln := HN.out.lt
  have hne : ((s.size : Int) != (G.size : Int)) = true := by simp; omega
  have hovg := fun (E : Over W3) o => E.cell (b := gb) o hgl
  refine wp_region_over (by kernel_rfl) (by kernel_rfl) ?_
  repeat (go_big_quiet_step (fail))
  refine wpQuiet_nil ?_
  rintro _ ⟨E, rfl⟩
  have HZ := Lib.hid ((HC.out.below HB3.out HC.out.lt).below E.h (by have := HB3.out.size; omega))
  have HBB := Lib.hid (below_up (below_up HBW.out HB3.out) E.h)
  clear hovg
  generalize E.w = w3 at *
  have HS5 : Hid (Blk (((((w3).setCell ⟨w.heap.size, 0, none⟩ (.int .u64 0)).setCell ⟨w.heap.size, 1, none⟩ (.int .u64 0)).setCell ⟨w.heap.size, 2, none⟩ (.int .u64 0)).setCell ⟨w.heap.size, 3, none⟩ (.int .u64 0)) (w.heap.size) 111 [0, 0, 0, 0]) := (((HZ.out.set 0 0).set 1 0).set 2 0).set 3 0
  have HB5 : Hid (Below w.heap.size w (((((w3).setCell ⟨w.heap.size, 0, none⟩ (.int .u64 0)).setCell ⟨w.heap.size, 1, none⟩ (.int .u64 0)).setCell ⟨w.heap.size, 2, none⟩ (.int .u64 0)).setCell ⟨w.heap.size, 3, none⟩ (.int .u64 0))) := below_four HBB.out (by omega) _ _ _ _
  have hz_0 := HZ.out.cell (i := 0) (x := 0) rfl
  have hz_1 := HZ.out.cell (i := 1) (x := 0) rfl
  have hz_2 := HZ.out.cell (i := 2) (x := 0) rfl
  have hz_3 := HZ.out.cell (i := 3) (x := 0) rfl
  have hzf_0 := HZ.out.frozen 0
  have hzf_1 := HZ.out.frozen 1
  have hzf_2 := HZ.out.frozen 2
  have hzf_3 := HZ.out.frozen 3
  go_wp2_with fail
  generalize (((((w3).setCell ⟨w.heap.size, 0, none⟩ (.int .u64 0)).setCell ⟨w.heap.size, 1, none⟩ (.int .u64 0)).setCell ⟨w.heap.size, 2, none⟩ (.int .u64 0)).setCell ⟨w.heap.size, 3, none⟩ (.int .u64 0)) = w5 at *
  clear hz_0 hz_1 hz_2 hz_3
  have hg_0 := HS5.out.cell (i := 0) (x := 0) rfl
  have hg_1 := HS5.out.cell (i := 1) (x := 0) rfl
  have hg_2 := HS5.out.cell (i := 2) (x := 0) rfl
  have hg_3 := HS5.out.cell (i := 3) (x := 0) rfl
  simp [bodyPost, results, Try.results106, go_sem, hg_0, hg_1, hg_2, hg_3]
  exact HB5.out


set_option maxHeartbeats 1000000 in
theorem gScalar_eq (G : GP) (ok : G.Ok) (gb : Nat) (s : ByteArray) (hl : s.size = G.size) (hc : numOf s = G.q.m) (w : World) (hG : GroupAt w gb G) :
    Calls Try.prog 59 #[.pointer (some ⟨gb, 0, none⟩), .string s] w fun e w' => e = .returned (.tuple #[limbV 0, .bool false]) ∧ Below w.heap.size w w' := by
  have e0 : limbV 0 = .agg #[.int .u64 0, .int .u64 0, .int .u64 0, .int .u64 0] := limbV_small 0 (by decide)
  rw [e0]
  clear e0
  have hs : s.size ≤ 32 := by have := ok.size_le; omega
  have HLT := Lib.hid (numOf_lt s hs)
  have HCI : Hid (cmpI (numOf s) G.q.m = 0) := by show _ = _; unfold cmpI; rw [if_neg (by omega), if_neg (by omega)]
  have HL := Lib.hid hl
  clear hl hc
  have OK := Lib.hid ok
  clear ok
  go_enter Try.func59, Try.ntmps59
  go_wp2_with fail
  obtain ⟨W0, hW0⟩ : ∃ W9 : World, (w.alloc (Obj.cells #[.int .u64 0, .int .u64 0, .int .u64 0, .int .u64 0] 91)) = W9 := ⟨_, rfl⟩
  rw [hW0]
  have hC : Blk W0 (w.heap.size) 91 [0, 0, 0, 0] := by
    rw [← hW0]
    have h := (Blk.new w 91 [0, 0, 0, 0] _ rfl)
    exact h
  have hBW : Below w.heap.size w W0 := by rw [← hW0]; exact ((Below.refl w.heap.size w).alloc (Nat.le_refl _) _)
  clear hW0
  have HG0 := Lib.hid (hG.up hBW)
  have HC := Lib.hid hC
  have HBW := Lib.hid hBW
  have hcl := hC.lt
  clear hG hC hBW
  refine (read_any s hs W0).mono ?_
  rintro e w2 ⟨rfl, hb2⟩
  have hz2 := hb2.size
  have HN : Hid (Blk (w2.alloc (Obj.cells #[.int .u64 (dig (numOf s) 0 : Int), .int .u64 (dig (numOf s) 1 : Int), .int .u64 (dig (numOf s) 2 : Int), .int .u64 (dig (numOf s) 3 : Int)] 89)) w2.heap.size 89 (lim (numOf s))) := Blk.new w2 _ _ _ rfl
  have HB3 := Lib.hid (hb2.alloc hz2 (Obj.cells #[.int .u64 (dig (numOf s) 0 : Int), .int .u64 (dig (numOf s) 1 : Int), .int .u64 (dig (numOf s) 2 : Int), .int .u64 (dig (numOf s) 3 : Int)] 89))
  clear hb2
  unfold limbV
  go_wp2_with fail
  generalize w2.alloc (Obj.cells #[.int .u64 (dig (numOf s) 0 : Int), .int .u64 (dig (numOf s) 1 : Int), .int .u64 (dig (numOf s) 2 : Int), .int .u64 (dig (numOf s) 3 : Int)] 89) = W3 at *
  have hG0 := HG0.out.up HB3.out
  have hgl := hG0.lt
  have hgk := hG0.kind
  have hgs := hG0.size
  have hpm_0 : W3.cell? ⟨gb, 2, none⟩ = some (.int .u64 (dig G.p.m 0 : Int)) := hG0.p.cell 0 _ rfl
  have hpm_1 : W3.cell? ⟨gb, 3, none⟩ = some (.int .u64 (dig G.p.m 1 : Int)) := hG0.p.cell 1 _ rfl
  have hpm_2 : W3.cell? ⟨gb, 4, none⟩ = some (.int .u64 (dig G.p.m 2 : Int)) := hG0.p.cell 2 _ rfl
  have hpm_3 : W3.cell? ⟨gb, 5, none⟩ = some (.int .u64 (dig G.p.m 3 : Int)) := hG0.p.cell 3 _ rfl
  have hpo_0 : W3.cell? ⟨gb, 6, none⟩ = some (.int .u64 (dig (mont G.p.m 1) 0 : Int)) := by rw [← OK.out.p.one']; exact hG0.p.cell 4 _ rfl
  have hpo_1 : W3.cell? ⟨gb, 7, none⟩ = some (.int .u64 (dig (mont G.p.m 1) 1 : Int)) := by rw [← OK.out.p.one']; exact hG0.p.cell 5 _ rfl
  have hpo_2 : W3.cell? ⟨gb, 8, none⟩ = some (.int .u64 (dig (mont G.p.m 1) 2 : Int)) := by rw [← OK.out.p.one']; exact hG0.p.cell 6 _ rfl
  have hpo_3 : W3.cell? ⟨gb, 9, none⟩ = some (.int .u64 (dig (mont G.p.m 1) 3 : Int)) := by rw [← OK.out.p.one']; exact hG0.p.cell 7 _ rfl
  have hqm_0 : W3.cell? ⟨gb, 15, none⟩ = some (.int .u64 (dig G.q.m 0 : Int)) := hG0.q.cell 0 _ rfl
  have hqm_1 : W3.cell? ⟨gb, 16, none⟩ = some (.int .u64 (dig G.q.m 1 : Int)) := hG0.q.cell 1 _ rfl
  have hqm_2 : W3.cell? ⟨gb, 17, none⟩ = some (.int .u64 (dig G.q.m 2 : Int)) := hG0.q.cell 2 _ rfl
  have hqm_3 : W3.cell? ⟨gb, 18, none⟩ = some (.int .u64 (dig G.q.m 3 : Int)) := hG0.q.cell 3 _ rfl
  have hqo_0 : W3.cell? ⟨gb, 19, none⟩ = some (.int .u64 (dig (mont G.q.m 1) 0 : Int)) := by rw [← OK.out.q.one']; exact hG0.q.cell 4 _ rfl
  have hqo_1 : W3.cell? ⟨gb, 20, none⟩ = some (.int .u64 (dig (mont G.q.m 1) 1 : Int)) := by rw [← OK.out.q.one']; exact hG0.q.cell 5 _ rfl
  have hqo_2 : W3.cell? ⟨gb, 21, none⟩ = some (.int .u64 (dig (mont G.q.m 1) 2 : Int)) := by rw [← OK.out.q.one']; exact hG0.q.cell 6 _ rfl
  have hqo_3 : W3.cell? ⟨gb, 22, none⟩ = some (.int .u64 (dig (mont G.q.m 1) 3 : Int)) := by rw [← OK.out.q.one']; exact hG0.q.cell 7 _ rfl
  have hn_0 := HN.out.cell (i := 0) (x := (dig (numOf s) 0 : Int)) rfl
  have hn_1 := HN.out.cell (i := 1) (x := (dig (numOf s) 1 : Int)) rfl
  have hn_2 := HN.out.cell (i := 2) (x := (dig (numOf s) 2 : Int)) rfl
  have hn_3 := HN.out.cell (i := 3) (x := (dig (numOf s) 3 : Int)) rfl
  have hln := HN.out.lt
  have hne : ((s.size : Int) != (G.size : Int)) = false := by simp [HL.out]
  have hovg := fun (E : Over W3) o => E.cell (b := gb) o hgl
  have hovn := fun (E : Over W3) o => E.cell (b := w2.heap.size) o hln
  refine wp_region_over (by kernel_rfl) (by kernel_rfl) ?_
  repeat (go_big_quiet_step (first | (go_at_call 129; exact calls_over (cmp_is (numOf s) G.q.m 0 HLT.out OK.out.q.lt4 HCI.out _))))
  refine wpQuiet_nil ?_
  rintro _ ⟨E, rfl⟩
  have HZ := Lib.hid ((HC.out.below HB3.out HC.out.lt).below E.h (by have := HB3.out.size; omega))
  have HBB := Lib.hid (below_up (below_up HBW.out HB3.out) E.h)
  clear hovg hovn
  generalize E.w = w3 at *
  have HS5 : Hid (Blk (((((w3).setCell ⟨w.heap.size, 0, none⟩ (.int .u64 0)).setCell ⟨w.heap.size, 1, none⟩ (.int .u64 0)).setCell ⟨w.heap.size, 2, none⟩ (.int .u64 0)).setCell ⟨w.heap.size, 3, none⟩ (.int .u64 0)) (w.heap.size) 91 [0, 0, 0, 0]) := (((HZ.out.set 0 0).set 1 0).set 2 0).set 3 0
  have HB5 : Hid (Below w.heap.size w (((((w3).setCell ⟨w.heap.size, 0, none⟩ (.int .u64 0)).setCell ⟨w.heap.size, 1, none⟩ (.int .u64 0)).setCell ⟨w.heap.size, 2, none⟩ (.int .u64 0)).setCell ⟨w.heap.size, 3, none⟩ (.int .u64 0))) := below_four HBB.out (by omega) _ _ _ _
  have hz_0 := HZ.out.cell (i := 0) (x := 0) rfl
  have hz_1 := HZ.out.cell (i := 1) (x := 0) rfl
  have hz_2 := HZ.out.cell (i := 2) (x := 0) rfl
  have hz_3 := HZ.out.cell (i := 3) (x := 0) rfl
  have hzf_0 := HZ.out.frozen 0
  have hzf_1 := HZ.out.frozen 1
  have hzf_2 := HZ.out.frozen 2
  have hzf_3 := HZ.out.frozen 3
  go_wp2_with fail
  generalize (((((w3).setCell ⟨w.heap.size, 0, none⟩ (.int .u64 0)).setCell ⟨w.heap.size, 1, none⟩ (.int .u64 0)).setCell ⟨w.heap.size, 2, none⟩ (.int .u64 0)).setCell ⟨w.heap.size, 3, none⟩ (.int .u64 0)) = w5 at *
  clear hz_0 hz_1 hz_2 hz_3
  have hg_0 := HS5.out.cell (i := 0) (x := 0) rfl
  have hg_1 := HS5.out.cell (i := 1) (x := 0) rfl
  have hg_2 := HS5.out.cell (i := 2) (x := 0) rfl
  have hg_3 := HS5.out.cell (i := 3) (x := 0) rfl
  simp [bodyPost, results, Try.results59, go_sem, hg_0, hg_1, hg_2, hg_3]
  exact HB5.out

set_option maxHeartbeats 1000000 in
theorem gScalar_gt (G : GP) (ok : G.Ok) (gb : Nat) (s : ByteArray) (hl : s.size = G.size) (hc : G.q.m < numOf s) (w : World) (hG : GroupAt w gb G) :
    Calls Try.prog 59 #[.pointer (some ⟨gb, 0, none⟩), .string s] w fun e w' => e = .returned (.tuple #[limbV 0, .bool false]) ∧ Below w.heap.size w w' := by
  have e0 : limbV 0 = .agg #[.int .u64 0, .int .u64 0, .int .u64 0, .int .u64 0] := limbV_small 0 (by decide)
  rw [e0]
  clear e0
  have hs : s.size ≤ 32 := by have := ok.size_le; omega
  have HLT := Lib.hid (numOf_lt s hs)
  have HCI : Hid (cmpI (numOf s) G.q.m = 1) := by show _ = _; unfold cmpI; rw [if_neg (by omega), if_pos (by omega)]
  have HL := Lib.hid hl
  clear hl hc
  have OK := Lib.hid ok
  clear ok
  go_enter Try.func59, Try.ntmps59
  go_wp2_with fail
  obtain ⟨W0, hW0⟩ : ∃ W9 : World, (w.alloc (Obj.cells #[.int .u64 0, .int .u64 0, .int .u64 0, .int .u64 0] 91)) = W9 := ⟨_, rfl⟩
  rw [hW0]
  have hC : Blk W0 (w.heap.size) 91 [0, 0, 0, 0] := by
    rw [← hW0]
    have h := (Blk.new w 91 [0, 0, 0, 0] _ rfl)
    exact h
  have hBW : Below w.heap.size w W0 := by rw [← hW0]; exact ((Below.refl w.heap.size w).alloc (Nat.le_refl _) _)
  clear hW0
  have HG0 := Lib.hid (hG.up hBW)
  have HC := Lib.hid hC
  have HBW := Lib.hid hBW
  have hcl := hC.lt
  clear hG hC hBW
  refine (read_any s hs W0).mono ?_
  rintro e w2 ⟨rfl, hb2⟩
  have hz2 := hb2.size
  have HN : Hid (Blk (w2.alloc (Obj.cells #[.int .u64 (dig (numOf s) 0 : Int), .int .u64 (dig (numOf s) 1 : Int), .int .u64 (dig (numOf s) 2 : Int), .int .u64 (dig (numOf s) 3 : Int)] 89)) w2.heap.size 89 (lim (numOf s))) := Blk.new w2 _ _ _ rfl
  have HB3 := Lib.hid (hb2.alloc hz2 (Obj.cells #[.int .u64 (dig (numOf s) 0 : Int), .int .u64 (dig (numOf s) 1 : Int), .int .u64 (dig (numOf s) 2 : Int), .int .u64 (dig (numOf s) 3 : Int)] 89))
  clear hb2
  unfold limbV
  go_wp2_with fail
  generalize w2.alloc (Obj.cells #[.int .u64 (dig (numOf s) 0 : Int), .int .u64 (dig (numOf s) 1 : Int), .int .u64 (dig (numOf s) 2 : Int), .int .u64 (dig (numOf s) 3 : Int)] 89) = W3 at *
  have hG0 := HG0.out.up HB3.out
  have hgl := hG0.lt
  have hgk := hG0.kind
  have hgs := hG0.size
  have hpm_0 : W3.cell? ⟨gb, 2, none⟩ = some (.int .u64 (dig G.p.m 0 : Int)) := hG0.p.cell 0 _ rfl
  have hpm_1 : W3.cell? ⟨gb, 3, none⟩ = some (.int .u64 (dig G.p.m 1 : Int)) := hG0.p.cell 1 _ rfl
  have hpm_2 : W3.cell? ⟨gb, 4, none⟩ = some (.int .u64 (dig G.p.m 2 : Int)) := hG0.p.cell 2 _ rfl
  have hpm_3 : W3.cell? ⟨gb, 5, none⟩ = some (.int .u64 (dig G.p.m 3 : Int)) := hG0.p.cell 3 _ rfl
  have hpo_0 : W3.cell? ⟨gb, 6, none⟩ = some (.int .u64 (dig (mont G.p.m 1) 0 : Int)) := by rw [← OK.out.p.one']; exact hG0.p.cell 4 _ rfl
  have hpo_1 : W3.cell? ⟨gb, 7, none⟩ = some (.int .u64 (dig (mont G.p.m 1) 1 : Int)) := by rw [← OK.out.p.one']; exact hG0.p.cell 5 _ rfl
  have hpo_2 : W3.cell? ⟨gb, 8, none⟩ = some (.int .u64 (dig (mont G.p.m 1) 2 : Int)) := by rw [← OK.out.p.one']; exact hG0.p.cell 6 _ rfl
  have hpo_3 : W3.cell? ⟨gb, 9, none⟩ = some (.int .u64 (dig (mont G.p.m 1) 3 : Int)) := by rw [← OK.out.p.one']; exact hG0.p.cell 7 _ rfl
  have hqm_0 : W3.cell? ⟨gb, 15, none⟩ = some (.int .u64 (dig G.q.m 0 : Int)) := hG0.q.cell 0 _ rfl
  have hqm_1 : W3.cell? ⟨gb, 16, none⟩ = some (.int .u64 (dig G.q.m 1 : Int)) := hG0.q.cell 1 _ rfl
  have hqm_2 : W3.cell? ⟨gb, 17, none⟩ = some (.int .u64 (dig G.q.m 2 : Int)) := hG0.q.cell 2 _ rfl
  have hqm_3 : W3.cell? ⟨gb, 18, none⟩ = some (.int .u64 (dig G.q.m 3 : Int)) := hG0.q.cell 3 _ rfl
  have hqo_0 : W3.cell? ⟨gb, 19, none⟩ = some (.int .u64 (dig (mont G.q.m 1) 0 : Int)) := by rw [← OK.out.q.one']; exact hG0.q.cell 4 _ rfl
  have hqo_1 : W3.cell? ⟨gb, 20, none⟩ = some (.int .u64 (dig (mont G.q.m 1) 1 : Int)) := by rw [← OK.out.q.one']; exact hG0.q.cell 5 _ rfl
  have hqo_2 : W3.cell? ⟨gb, 21, none⟩ = some (.int .u64 (dig (mont G.q.m 1) 2 : Int)) := by rw [← OK.out.q.one']; exact hG0.q.cell 6 _ rfl
  have hqo_3 : W3.cell? ⟨gb, 22, none⟩ = some (.int .u64 (dig (mont G.q.m 1) 3 : Int)) := by rw [← OK.out.q.one']; exact hG0.q.cell 7 _ rfl
  have hn_0 := HN.out.cell (i := 0) (x := (dig (numOf s) 0 : Int)) rfl
  have hn_1 := HN.out.cell (i := 1) (x := (dig (numOf s) 1 : Int)) rfl
  have hn_2 := HN.out.cell (i := 2) (x := (dig (numOf s) 2 : Int)) rfl
  have hn_3 := HN.out.cell (i := 3) (x := (dig (numOf s) 3 : Int)) rfl
  have hln := HN.out.lt
  have hne : ((s.size : Int) != (G.size : Int)) = false := by simp [HL.out]
  have hovg := fun (E : Over W3) o => E.cell (b := gb) o hgl
  have hovn := fun (E : Over W3) o => E.cell (b := w2.heap.size) o hln
  refine wp_region_over (by kernel_rfl) (by kernel_rfl) ?_
  repeat (go_big_quiet_step (first | (go_at_call 129; exact calls_over (cmp_is (numOf s) G.q.m 1 HLT.out OK.out.q.lt4 HCI.out _))))
  refine wpQuiet_nil ?_
  rintro _ ⟨E, rfl⟩
  have HZ := Lib.hid ((HC.out.below HB3.out HC.out.lt).below E.h (by have := HB3.out.size; omega))
  have HBB := Lib.hid (below_up (below_up HBW.out HB3.out) E.h)
  clear hovg hovn
  generalize E.w = w3 at *
  have HS5 : Hid (Blk (((((w3).setCell ⟨w.heap.size, 0, none⟩ (.int .u64 0)).setCell ⟨w.heap.size, 1, none⟩ (.int .u64 0)).setCell ⟨w.heap.size, 2, none⟩ (.int .u64 0)).setCell ⟨w.heap.size, 3, none⟩ (.int .u64 0)) (w.heap.size) 91 [0, 0, 0, 0]) := (((HZ.out.set 0 0).set 1 0).set 2 0).set 3 0
  have HB5 : Hid (Below w.heap.size w (((((w3).setCell ⟨w.heap.size, 0, none⟩ (.int .u64 0)).setCell ⟨w.heap.size, 1, none⟩ (.int .u64 0)).setCell ⟨w.heap.size, 2, none⟩ (.int .u64 0)).setCell ⟨w.heap.size, 3, none⟩ (.int .u64 0))) := below_four HBB.out (by omega) _ _ _ _
  have hz_0 := HZ.out.cell (i := 0) (x := 0) rfl
  have hz_1 := HZ.out.cell (i := 1) (x := 0) rfl
  have hz_2 := HZ.out.cell (i := 2) (x := 0) rfl
  have hz_3 := HZ.out.cell (i := 3) (x := 0) rfl
  have hzf_0 := HZ.out.frozen 0
  have hzf_1 := HZ.out.frozen 1
  have hzf_2 := HZ.out.frozen 2
  have hzf_3 := HZ.out.frozen 3
  go_wp2_with fail
  generalize (((((w3).setCell ⟨w.heap.size, 0, none⟩ (.int .u64 0)).setCell ⟨w.heap.size, 1, none⟩ (.int .u64 0)).setCell ⟨w.heap.size, 2, none⟩ (.int .u64 0)).setCell ⟨w.heap.size, 3, none⟩ (.int .u64 0)) = w5 at *
  clear hz_0 hz_1 hz_2 hz_3
  have hg_0 := HS5.out.cell (i := 0) (x := 0) rfl
  have hg_1 := HS5.out.cell (i := 1) (x := 0) rfl
  have hg_2 := HS5.out.cell (i := 2) (x := 0) rfl
  have hg_3 := HS5.out.cell (i := 3) (x := 0) rfl
  simp [bodyPost, results, Try.results59, go_sem, hg_0, hg_1, hg_2, hg_3]
  exact HB5.out

set_option maxHeartbeats 1000000 in
theorem gScalar_yes (G : GP) (ok : G.Ok) (gb : Nat) (s : ByteArray) (hl : s.size = G.size) (hc : numOf s < G.q.m) (w : World) (hG : GroupAt w gb G) :
    Calls Try.prog 59 #[.pointer (some ⟨gb, 0, none⟩), .string s] w fun e w' => e = .returned (.tuple #[scV G (numOf s), .bool true]) ∧ Below w.heap.size w w' := by
  have hs : s.size ≤ 32 := by have := ok.size_le; omega
  have HLT := Lib.hid (numOf_lt s hs)
  have HCI : Hid (cmpI (numOf s) G.q.m = -1) := by show _ = _; unfold cmpI; rw [if_pos hc]
  have HL := Lib.hid hl
  clear hl hc
  unfold scV limbV
  have OK := Lib.hid ok
  clear ok
  go_enter Try.func59, Try.ntmps59
  go_wp2_with fail
  obtain ⟨W0, hW0⟩ : ∃ W9 : World, (w.alloc (Obj.cells #[.int .u64 0, .int .u64 0, .int .u64 0, .int .u64 0] 91)) = W9 := ⟨_, rfl⟩
  rw [hW0]
  have hC : Blk W0 (w.heap.size) 91 [0, 0, 0, 0] := by
    rw [← hW0]
    have h := (Blk.new w 91 [0, 0, 0, 0] _ rfl)
    exact h
  have hBW : Below w.heap.size w W0 := by rw [← hW0]; exact ((Below.refl w.heap.size w).alloc (Nat.le_refl _) _)
  clear hW0
  have HG0 := Lib.hid (hG.up hBW)
  have HC := Lib.hid hC
  have HBW := Lib.hid hBW
  have hcl := hC.lt
  clear hG hC hBW
  refine (read_any s hs W0).mono ?_
  rintro e w2 ⟨rfl, hb2⟩
  have hz2 := hb2.size
  have HN : Hid (Blk (w2.alloc (Obj.cells #[.int .u64 (dig (numOf s) 0 : Int), .int .u64 (dig (numOf s) 1 : Int), .int .u64 (dig (numOf s) 2 : Int), .int .u64 (dig (numOf s) 3 : Int)] 89)) w2.heap.size 89 (lim (numOf s))) := Blk.new w2 _ _ _ rfl
  have HB3 := Lib.hid (hb2.alloc hz2 (Obj.cells #[.int .u64 (dig (numOf s) 0 : Int), .int .u64 (dig (numOf s) 1 : Int), .int .u64 (dig (numOf s) 2 : Int), .int .u64 (dig (numOf s) 3 : Int)] 89))
  clear hb2
  unfold limbV
  go_wp2_with fail
  generalize w2.alloc (Obj.cells #[.int .u64 (dig (numOf s) 0 : Int), .int .u64 (dig (numOf s) 1 : Int), .int .u64 (dig (numOf s) 2 : Int), .int .u64 (dig (numOf s) 3 : Int)] 89) = W3 at *
  have hG0 := HG0.out.up HB3.out
  have hgl := hG0.lt
  have hgk := hG0.kind
  have hgs := hG0.size
  have hpm_0 : W3.cell? ⟨gb, 2, none⟩ = some (.int .u64 (dig G.p.m 0 : Int)) := hG0.p.cell 0 _ rfl
  have hpm_1 : W3.cell? ⟨gb, 3, none⟩ = some (.int .u64 (dig G.p.m 1 : Int)) := hG0.p.cell 1 _ rfl
  have hpm_2 : W3.cell? ⟨gb, 4, none⟩ = some (.int .u64 (dig G.p.m 2 : Int)) := hG0.p.cell 2 _ rfl
  have hpm_3 : W3.cell? ⟨gb, 5, none⟩ = some (.int .u64 (dig G.p.m 3 : Int)) := hG0.p.cell 3 _ rfl
  have hpo_0 : W3.cell? ⟨gb, 6, none⟩ = some (.int .u64 (dig (mont G.p.m 1) 0 : Int)) := by rw [← OK.out.p.one']; exact hG0.p.cell 4 _ rfl
  have hpo_1 : W3.cell? ⟨gb, 7, none⟩ = some (.int .u64 (dig (mont G.p.m 1) 1 : Int)) := by rw [← OK.out.p.one']; exact hG0.p.cell 5 _ rfl
  have hpo_2 : W3.cell? ⟨gb, 8, none⟩ = some (.int .u64 (dig (mont G.p.m 1) 2 : Int)) := by rw [← OK.out.p.one']; exact hG0.p.cell 6 _ rfl
  have hpo_3 : W3.cell? ⟨gb, 9, none⟩ = some (.int .u64 (dig (mont G.p.m 1) 3 : Int)) := by rw [← OK.out.p.one']; exact hG0.p.cell 7 _ rfl
  have hqm_0 : W3.cell? ⟨gb, 15, none⟩ = some (.int .u64 (dig G.q.m 0 : Int)) := hG0.q.cell 0 _ rfl
  have hqm_1 : W3.cell? ⟨gb, 16, none⟩ = some (.int .u64 (dig G.q.m 1 : Int)) := hG0.q.cell 1 _ rfl
  have hqm_2 : W3.cell? ⟨gb, 17, none⟩ = some (.int .u64 (dig G.q.m 2 : Int)) := hG0.q.cell 2 _ rfl
  have hqm_3 : W3.cell? ⟨gb, 18, none⟩ = some (.int .u64 (dig G.q.m 3 : Int)) := hG0.q.cell 3 _ rfl
  have hqo_0 : W3.cell? ⟨gb, 19, none⟩ = some (.int .u64 (dig (mont G.q.m 1) 0 : Int)) := by rw [← OK.out.q.one']; exact hG0.q.cell 4 _ rfl
  have hqo_1 : W3.cell? ⟨gb, 20, none⟩ = some (.int .u64 (dig (mont G.q.m 1) 1 : Int)) := by rw [← OK.out.q.one']; exact hG0.q.cell 5 _ rfl
  have hqo_2 : W3.cell? ⟨gb, 21, none⟩ = some (.int .u64 (dig (mont G.q.m 1) 2 : Int)) := by rw [← OK.out.q.one']; exact hG0.q.cell 6 _ rfl
  have hqo_3 : W3.cell? ⟨gb, 22, none⟩ = some (.int .u64 (dig (mont G.q.m 1) 3 : Int)) := by rw [← OK.out.q.one']; exact hG0.q.cell 7 _ rfl
  have hn_0 := HN.out.cell (i := 0) (x := (dig (numOf s) 0 : Int)) rfl
  have hn_1 := HN.out.cell (i := 1) (x := (dig (numOf s) 1 : Int)) rfl
  have hn_2 := HN.out.cell (i := 2) (x := (dig (numOf s) 2 : Int)) rfl
  have hn_3 := HN.out.cell (i := 3) (x := (dig (numOf s) 3 : Int)) rfl
  have hln := HN.out.lt
  have hne : ((s.size : Int) != (G.size : Int)) = false := by simp [HL.out]
  have hovg := fun (E : Over W3) o => E.cell (b := gb) o hgl
  have hovn := fun (E : Over W3) o => E.cell (b := w2.heap.size) o hln
  refine wp_region_over (by kernel_rfl) (by kernel_rfl) ?_
  repeat (go_big_quiet_step (first | (go_at_call 129; exact calls_over (cmp_is (numOf s) G.q.m (-1) HLT.out OK.out.q.lt4 HCI.out _))))
  refine wpQuiet_nil ?_
  rintro _ ⟨E, rfl⟩
  have HC3 := Lib.hid ((HC.out.below HB3.out HC.out.lt).below E.h (by have := HB3.out.size; omega))
  have HB33 := Lib.hid (below_up (below_up HBW.out HB3.out) E.h)
  have HN3 := Lib.hid (HN.out.below E.h HN.out.lt)
  have hG3 := hG0.up E.h
  clear hovg hovn hG0 hn_0 hn_1 hn_2 hn_3 hln HC HBW HB3 HN
  generalize E.w = w3 at *
  have hn_0 := HN3.out.cell (i := 0) (x := (dig (numOf s) 0 : Int)) rfl
  have hn_1 := HN3.out.cell (i := 1) (x := (dig (numOf s) 1 : Int)) rfl
  have hn_2 := HN3.out.cell (i := 2) (x := (dig (numOf s) 2 : Int)) rfl
  have hn_3 := HN3.out.cell (i := 3) (x := (dig (numOf s) 3 : Int)) rfl
  have hln := HN3.out.lt
  go_wp2_with fail
  refine wp_region_otail 6 (by kernel_rfl) (by kernel_rfl) ?_
  simp only [List.take_succ_cons, List.take_zero, List.drop_succ_cons, List.drop_zero]
  have hovn := fun (E : Over w3) o => E.cell (b := w2.heap.size) o hln
  repeat (go_big_quiet_step (first | (go_at_call 130; exact calls_over (in_any G.q OK.out.q gb 15 (numOf s) HLT.out _ (hG3.up (Over.h _)).q))))
  all_goals (try unfold limbV)
  repeat (go_big_quiet_step (first | (go_at_call 130; exact calls_over (in_any G.q OK.out.q gb 15 (numOf s) HLT.out _ (hG3.up (Over.h _)).q))))
  all_goals (try unfold limbV)
  repeat (go_big_quiet_step (first | (go_at_call 130; exact calls_over (in_any G.q OK.out.q gb 15 (numOf s) HLT.out _ (hG3.up (Over.h _)).q))))
  refine wpQuiet_nil ?_
  rintro _ ⟨E, rfl⟩
  have HZ := Lib.hid (HC3.out.below E.h HC3.out.lt)
  have HBB := Lib.hid (below_up HB33.out E.h)
  clear hovn
  generalize E.w = w4 at *
  have HB5 := Lib.hid (below_fill (n := mont G.q.m (numOf s)) (b := w.heap.size) HBB.out (by omega))
  have HS5 := Lib.hid (HZ.out.fill rfl (mont G.q.m (numOf s)))
  have hz_0 := HZ.out.cell (i := 0) (x := 0) rfl
  have hz_1 := HZ.out.cell (i := 1) (x := 0) rfl
  have hz_2 := HZ.out.cell (i := 2) (x := 0) rfl
  have hz_3 := HZ.out.cell (i := 3) (x := 0) rfl
  have hzf_0 := HZ.out.frozen 0
  have hzf_1 := HZ.out.frozen 1
  have hzf_2 := HZ.out.frozen 2
  have hzf_3 := HZ.out.frozen 3
  go_wp2_with fail
  generalize (((((w4).setCell ⟨w.heap.size, 0, none⟩ (.int .u64 (dig (mont G.q.m (numOf s)) 0 : Int))).setCell ⟨w.heap.size, 1, none⟩ (.int .u64 (dig (mont G.q.m (numOf s)) 1 : Int))).setCell ⟨w.heap.size, 2, none⟩ (.int .u64 (dig (mont G.q.m (numOf s)) 2 : Int))).setCell ⟨w.heap.size, 3, none⟩ (.int .u64 (dig (mont G.q.m (numOf s)) 3 : Int))) = w5 at *
  clear hz_0 hz_1 hz_2 hz_3
  have hg_0 := HS5.out.cell (i := 0) (x := (dig (mont G.q.m (numOf s)) 0 : Int)) rfl
  have hg_1 := HS5.out.cell (i := 1) (x := (dig (mont G.q.m (numOf s)) 1 : Int)) rfl
  have hg_2 := HS5.out.cell (i := 2) (x := (dig (mont G.q.m (numOf s)) 2 : Int)) rfl
  have hg_3 := HS5.out.cell (i := 3) (x := (dig (mont G.q.m (numOf s)) 3 : Int)) rfl
  simp [bodyPost, results, Try.results59, go_sem, hg_0, hg_1, hg_2, hg_3]
  exact HB5.out


set_option maxRecDepth 10000 in
set_option maxHeartbeats 1000000 in
theorem gElem_zero (G : GP) (ok : G.Ok) (gb : Nat) (s : ByteArray) (hl : s.size = G.size) (hc : numOf s = 0) (w : World) (hG : GroupAt w gb G) :
    Calls Try.prog 106 #[.pointer (some ⟨gb, 0, none⟩), .string s] w fun e w' => e = .returned (.tuple #[limbV 0, .bool false]) ∧ Below w.heap.size w w' := by
  have e0 : limbV 0 = .agg #[.int .u64 0, .int .u64 0, .int .u64 0, .int .u64 0] := limbV_small 0 (by decide)
  rw [e0]
  clear e0
  have hs : s.size ≤ 32 := by have := ok.size_le; omega
  have hq := ok.odd
  have HLT := Lib.hid (numOf_lt s hs)
  have HCI : Hid (cmpI (numOf s) G.q.m = -1) := by show _ = _; unfold cmpI; rw [if_pos (by omega)]
  have HEQ : Hid (∀ W, (Op.equalIn 10000 89 (.agg #[.int .u64 (dig (numOf s) 0 : Int), .int .u64 (dig (numOf s) 1 : Int), .int .u64 (dig (numOf s) 2 : Int), .int .u64 (dig (numOf s) 3 : Int)]) (.agg #[.int .u64 0, .int .u64 0, .int .u64 0, .int .u64 0])).run Try.prog W = .ok true W) :=
  fun W => eqZero (numOf s) (numOf_lt s hs) W true (by simp; omega)
  have HL := Lib.hid hl
  clear hl hc hq
  have OK := Lib.hid ok
  clear ok
  go_enter Try.func106, Try.ntmps106
  go_wp2_with fail
  obtain ⟨W0, hW0⟩ : ∃ W9 : World, (w.alloc (Obj.cells #[.int .u64 0, .int .u64 0, .int .u64 0, .int .u64 0] 111)) = W9 := ⟨_, rfl⟩
  rw [hW0]
  have hC : Blk W0 (w.heap.size) 111 [0, 0, 0, 0] := by
    rw [← hW0]
    have h := (Blk.new w 111 [0, 0, 0, 0] _ rfl)
    exact h
  have hBW : Below w.heap.size w W0 := by rw [← hW0]; exact ((Below.refl w.heap.size w).alloc (Nat.le_refl _) _)
  clear hW0
  have HG0 := Lib.hid (hG.up hBW)
  have HC := Lib.hid hC
  have HBW := Lib.hid hBW
  have hcl := hC.lt
  clear hG hC hBW
  refine (read_any s hs W0).mono ?_
  rintro e w2 ⟨rfl, hb2⟩
  have hz2 := hb2.size
  have HN : Hid (Blk (w2.alloc (Obj.cells #[.int .u64 (dig (numOf s) 0 : Int), .int .u64 (dig (numOf s) 1 : Int), .int .u64 (dig (numOf s) 2 : Int), .int .u64 (dig (numOf s) 3 : Int)] 89)) w2.heap.size 89 (lim (numOf s))) := Blk.new w2 _ _ _ rfl
  have HB3 := Lib.hid (hb2.alloc hz2 (Obj.cells #[.int .u64 (dig (numOf s) 0 : Int), .int .u64 (dig (numOf s) 1 : Int), .int .u64 (dig (numOf s) 2 : Int), .int .u64 (dig (numOf s) 3 : Int)] 89))
  clear hb2
  unfold limbV
  go_wp2_with fail
  generalize w2.alloc (Obj.cells #[.int .u64 (dig (numOf s) 0 : Int), .int .u64 (dig (numOf s) 1 : Int), .int .u64 (dig (numOf s) 2 : Int), .int .u64 (dig (numOf s) 3 : Int)] 89) = W3 at *
  have hG0 := HG0.out.up HB3.out
  have hgl := hG0.lt
  have hgk := hG0.kind
  have hgs := hG0.size
  have hpm_0 : W3.cell? ⟨gb, 2, none⟩ = some (.int .u64 (dig G.p.m 0 : Int)) := hG0.p.cell 0 _ rfl
  have hpm_1 : W3.cell? ⟨gb, 3, none⟩ = some (.int .u64 (dig G.p.m 1 : Int)) := hG0.p.cell 1 _ rfl
  have hpm_2 : W3.cell? ⟨gb, 4, none⟩ = some (.int .u64 (dig G.p.m 2 : Int)) := hG0.p.cell 2 _ rfl
  have hpm_3 : W3.cell? ⟨gb, 5, none⟩ = some (.int .u64 (dig G.p.m 3 : Int)) := hG0.p.cell 3 _ rfl
  have hpo_0 : W3.cell? ⟨gb, 6, none⟩ = some (.int .u64 (dig (mont G.p.m 1) 0 : Int)) := by rw [← OK.out.p.one']; exact hG0.p.cell 4 _ rfl
  have hpo_1 : W3.cell? ⟨gb, 7, none⟩ = some (.int .u64 (dig (mont G.p.m 1) 1 : Int)) := by rw [← OK.out.p.one']; exact hG0.p.cell 5 _ rfl
  have hpo_2 : W3.cell? ⟨gb, 8, none⟩ = some (.int .u64 (dig (mont G.p.m 1) 2 : Int)) := by rw [← OK.out.p.one']; exact hG0.p.cell 6 _ rfl
  have hpo_3 : W3.cell? ⟨gb, 9, none⟩ = some (.int .u64 (dig (mont G.p.m 1) 3 : Int)) := by rw [← OK.out.p.one']; exact hG0.p.cell 7 _ rfl
  have hqm_0 : W3.cell? ⟨gb, 15, none⟩ = some (.int .u64 (dig G.q.m 0 : Int)) := hG0.q.cell 0 _ rfl
  have hqm_1 : W3.cell? ⟨gb, 16, none⟩ = some (.int .u64 (dig G.q.m 1 : Int)) := hG0.q.cell 1 _ rfl
  have hqm_2 : W3.cell? ⟨gb, 17, none⟩ = some (.int .u64 (dig G.q.m 2 : Int)) := hG0.q.cell 2 _ rfl
  have hqm_3 : W3.cell? ⟨gb, 18, none⟩ = some (.int .u64 (dig G.q.m 3 : Int)) := hG0.q.cell 3 _ rfl
  have hqo_0 : W3.cell? ⟨gb, 19, none⟩ = some (.int .u64 (dig (mont G.q.m 1) 0 : Int)) := by rw [← OK.out.q.one']; exact hG0.q.cell 4 _ rfl
  have hqo_1 : W3.cell? ⟨gb, 20, none⟩ = some (.int .u64 (dig (mont G.q.m 1) 1 : Int)) := by rw [← OK.out.q.one']; exact hG0.q.cell 5 _ rfl
  have hqo_2 : W3.cell? ⟨gb, 21, none⟩ = some (.int .u64 (dig (mont G.q.m 1) 2 : Int)) := by rw [← OK.out.q.one']; exact hG0.q.cell 6 _ rfl
  have hqo_3 : W3.cell? ⟨gb, 22, none⟩ = some (.int .u64 (dig (mont G.q.m 1) 3 : Int)) := by rw [← OK.out.q.one']; exact hG0.q.cell 7 _ rfl
  have hn_0 := HN.out.cell (i := 0) (x := (dig (numOf s) 0 : Int)) rfl
  have hn_1 := HN.out.cell (i := 1) (x := (dig (numOf s) 1 : Int)) rfl
  have hn_2 := HN.out.cell (i := 2) (x := (dig (numOf s) 2 : Int)) rfl
  have hn_3 := HN.out.cell (i := 3) (x := (dig (numOf s) 3 : Int)) rfl
  have hln := HN.out.lt
  have hne : ((s.size : Int) != (G.size : Int)) = false := by simp [HL.out]
  have hovg := fun (E : Over W3) o => E.cell (b := gb) o hgl
  have hovn := fun (E : Over W3) o => E.cell (b := w2.heap.size) o hln
  refine wp_region_over (by kernel_rfl) (by kernel_rfl) ?_
  iterate 14 (go_big_quiet_step (fail))
  refine wpQuiet_bin rfl .eql _ _ 89 _ rfl _ _ (.bool true) rfl rfl (fun _ => guardLimbs _ _ _ _ _ _) (fun _ => binLimbs (HEQ.out _)) ?_
  simp only [Act.put, List.setIfInBounds_toArray, List.set_cons_succ, List.set_cons_zero]
  repeat (go_big_quiet_step (first | (go_at_call 129; exact calls_over (cmp_is (numOf s) G.q.m (-1) HLT.out OK.out.q.lt4 HCI.out _))))
  refine wpQuiet_nil ?_
  rintro _ ⟨E, rfl⟩
  have HZ := Lib.hid ((HC.out.below HB3.out HC.out.lt).below E.h (by have := HB3.out.size; omega))
  have HBB := Lib.hid (below_up (below_up HBW.out HB3.out) E.h)
  clear hovg hovn
  generalize E.w = w3 at *
  have HS5 : Hid (Blk (((((w3).setCell ⟨w.heap.size, 0, none⟩ (.int .u64 0)).setCell ⟨w.heap.size, 1, none⟩ (.int .u64 0)).setCell ⟨w.heap.size, 2, none⟩ (.int .u64 0)).setCell ⟨w.heap.size, 3, none⟩ (.int .u64 0)) (w.heap.size) 111 [0, 0, 0, 0]) := (((HZ.out.set 0 0).set 1 0).set 2 0).set 3 0
  have HB5 : Hid (Below w.heap.size w (((((w3).setCell ⟨w.heap.size, 0, none⟩ (.int .u64 0)).setCell ⟨w.heap.size, 1, none⟩ (.int .u64 0)).setCell ⟨w.heap.size, 2, none⟩ (.int .u64 0)).setCell ⟨w.heap.size, 3, none⟩ (.int .u64 0))) := below_four HBB.out (by omega) _ _ _ _
  have hz_0 := HZ.out.cell (i := 0) (x := 0) rfl
  have hz_1 := HZ.out.cell (i := 1) (x := 0) rfl
  have hz_2 := HZ.out.cell (i := 2) (x := 0) rfl
  have hz_3 := HZ.out.cell (i := 3) (x := 0) rfl
  have hzf_0 := HZ.out.frozen 0
  have hzf_1 := HZ.out.frozen 1
  have hzf_2 := HZ.out.frozen 2
  have hzf_3 := HZ.out.frozen 3
  go_wp2_with fail
  generalize (((((w3).setCell ⟨w.heap.size, 0, none⟩ (.int .u64 0)).setCell ⟨w.heap.size, 1, none⟩ (.int .u64 0)).setCell ⟨w.heap.size, 2, none⟩ (.int .u64 0)).setCell ⟨w.heap.size, 3, none⟩ (.int .u64 0)) = w5 at *
  clear hz_0 hz_1 hz_2 hz_3
  have hg_0 := HS5.out.cell (i := 0) (x := 0) rfl
  have hg_1 := HS5.out.cell (i := 1) (x := 0) rfl
  have hg_2 := HS5.out.cell (i := 2) (x := 0) rfl
  have hg_3 := HS5.out.cell (i := 3) (x := 0) rfl
  simp [bodyPost, results, Try.results106, go_sem, hg_0, hg_1, hg_2, hg_3]
  exact HB5.out

set_option maxRecDepth 10000 in
set_option maxHeartbeats 1000000 in
theorem gElem_gt (G : GP) (ok : G.Ok) (gb : Nat) (s : ByteArray) (hl : s.size = G.size) (hc : G.q.m < numOf s) (w : World) (hG : GroupAt w gb G) :
    Calls Try.prog 106 #[.pointer (some ⟨gb, 0, none⟩), .string s] w fun e w' => e = .returned (.tuple #[limbV 0, .bool false]) ∧ Below w.heap.size w w' := by
  have e0 : limbV 0 = .agg #[.int .u64 0, .int .u64 0, .int .u64 0, .int .u64 0] := limbV_small 0 (by decide)
  rw [e0]
  clear e0
  have hs : s.size ≤ 32 := by have := ok.size_le; omega
  have hq := ok.odd
  have HLT := Lib.hid (numOf_lt s hs)
  have HCI : Hid (cmpI (numOf s) G.q.m = 1) := by show _ = _; unfold cmpI; rw [if_neg (by omega), if_pos (by omega)]
  have HEQ : Hid (∀ W, (Op.equalIn 10000 89 (.agg #[.int .u64 (dig (numOf s) 0 : Int), .int .u64 (dig (numOf s) 1 : Int), .int .u64 (dig (numOf s) 2 : Int), .int .u64 (dig (numOf s) 3 : Int)]) (.agg #[.int .u64 0, .int .u64 0, .int .u64 0, .int .u64 0])).run Try.prog W = .ok false W) :=
  fun W => eqZero (numOf s) (numOf_lt s hs) W false (by simp; omega)
  have HL := Lib.hid hl
  clear hl hc hq
  have OK := Lib.hid ok
  clear ok
  go_enter Try.func106, Try.ntmps106
  go_wp2_with fail
  obtain ⟨W0, hW0⟩ : ∃ W9 : World, (w.alloc (Obj.cells #[.int .u64 0, .int .u64 0, .int .u64 0, .int .u64 0] 111)) = W9 := ⟨_, rfl⟩
  rw [hW0]
  have hC : Blk W0 (w.heap.size) 111 [0, 0, 0, 0] := by
    rw [← hW0]
    have h := (Blk.new w 111 [0, 0, 0, 0] _ rfl)
    exact h
  have hBW : Below w.heap.size w W0 := by rw [← hW0]; exact ((Below.refl w.heap.size w).alloc (Nat.le_refl _) _)
  clear hW0
  have HG0 := Lib.hid (hG.up hBW)
  have HC := Lib.hid hC
  have HBW := Lib.hid hBW
  have hcl := hC.lt
  clear hG hC hBW
  refine (read_any s hs W0).mono ?_
  rintro e w2 ⟨rfl, hb2⟩
  have hz2 := hb2.size
  have HN : Hid (Blk (w2.alloc (Obj.cells #[.int .u64 (dig (numOf s) 0 : Int), .int .u64 (dig (numOf s) 1 : Int), .int .u64 (dig (numOf s) 2 : Int), .int .u64 (dig (numOf s) 3 : Int)] 89)) w2.heap.size 89 (lim (numOf s))) := Blk.new w2 _ _ _ rfl
  have HB3 := Lib.hid (hb2.alloc hz2 (Obj.cells #[.int .u64 (dig (numOf s) 0 : Int), .int .u64 (dig (numOf s) 1 : Int), .int .u64 (dig (numOf s) 2 : Int), .int .u64 (dig (numOf s) 3 : Int)] 89))
  clear hb2
  unfold limbV
  go_wp2_with fail
  generalize w2.alloc (Obj.cells #[.int .u64 (dig (numOf s) 0 : Int), .int .u64 (dig (numOf s) 1 : Int), .int .u64 (dig (numOf s) 2 : Int), .int .u64 (dig (numOf s) 3 : Int)] 89) = W3 at *
  have hG0 := HG0.out.up HB3.out
  have hgl := hG0.lt
  have hgk := hG0.kind
  have hgs := hG0.size
  have hpm_0 : W3.cell? ⟨gb, 2, none⟩ = some (.int .u64 (dig G.p.m 0 : Int)) := hG0.p.cell 0 _ rfl
  have hpm_1 : W3.cell? ⟨gb, 3, none⟩ = some (.int .u64 (dig G.p.m 1 : Int)) := hG0.p.cell 1 _ rfl
  have hpm_2 : W3.cell? ⟨gb, 4, none⟩ = some (.int .u64 (dig G.p.m 2 : Int)) := hG0.p.cell 2 _ rfl
  have hpm_3 : W3.cell? ⟨gb, 5, none⟩ = some (.int .u64 (dig G.p.m 3 : Int)) := hG0.p.cell 3 _ rfl
  have hpo_0 : W3.cell? ⟨gb, 6, none⟩ = some (.int .u64 (dig (mont G.p.m 1) 0 : Int)) := by rw [← OK.out.p.one']; exact hG0.p.cell 4 _ rfl
  have hpo_1 : W3.cell? ⟨gb, 7, none⟩ = some (.int .u64 (dig (mont G.p.m 1) 1 : Int)) := by rw [← OK.out.p.one']; exact hG0.p.cell 5 _ rfl
  have hpo_2 : W3.cell? ⟨gb, 8, none⟩ = some (.int .u64 (dig (mont G.p.m 1) 2 : Int)) := by rw [← OK.out.p.one']; exact hG0.p.cell 6 _ rfl
  have hpo_3 : W3.cell? ⟨gb, 9, none⟩ = some (.int .u64 (dig (mont G.p.m 1) 3 : Int)) := by rw [← OK.out.p.one']; exact hG0.p.cell 7 _ rfl
  have hqm_0 : W3.cell? ⟨gb, 15, none⟩ = some (.int .u64 (dig G.q.m 0 : Int)) := hG0.q.cell 0 _ rfl
  have hqm_1 : W3.cell? ⟨gb, 16, none⟩ = some (.int .u64 (dig G.q.m 1 : Int)) := hG0.q.cell 1 _ rfl
  have hqm_2 : W3.cell? ⟨gb, 17, none⟩ = some (.int .u64 (dig G.q.m 2 : Int)) := hG0.q.cell 2 _ rfl
  have hqm_3 : W3.cell? ⟨gb, 18, none⟩ = some (.int .u64 (dig G.q.m 3 : Int)) := hG0.q.cell 3 _ rfl
  have hqo_0 : W3.cell? ⟨gb, 19, none⟩ = some (.int .u64 (dig (mont G.q.m 1) 0 : Int)) := by rw [← OK.out.q.one']; exact hG0.q.cell 4 _ rfl
  have hqo_1 : W3.cell? ⟨gb, 20, none⟩ = some (.int .u64 (dig (mont G.q.m 1) 1 : Int)) := by rw [← OK.out.q.one']; exact hG0.q.cell 5 _ rfl
  have hqo_2 : W3.cell? ⟨gb, 21, none⟩ = some (.int .u64 (dig (mont G.q.m 1) 2 : Int)) := by rw [← OK.out.q.one']; exact hG0.q.cell 6 _ rfl
  have hqo_3 : W3.cell? ⟨gb, 22, none⟩ = some (.int .u64 (dig (mont G.q.m 1) 3 : Int)) := by rw [← OK.out.q.one']; exact hG0.q.cell 7 _ rfl
  have hn_0 := HN.out.cell (i := 0) (x := (dig (numOf s) 0 : Int)) rfl
  have hn_1 := HN.out.cell (i := 1) (x := (dig (numOf s) 1 : Int)) rfl
  have hn_2 := HN.out.cell (i := 2) (x := (dig (numOf s) 2 : Int)) rfl
  have hn_3 := HN.out.cell (i := 3) (x := (dig (numOf s) 3 : Int)) rfl
  have hln := HN.out.lt
  have hne : ((s.size : Int) != (G.size : Int)) = false := by simp [HL.out]
  have hovg := fun (E : Over W3) o => E.cell (b := gb) o hgl
  have hovn := fun (E : Over W3) o => E.cell (b := w2.heap.size) o hln
  refine wp_region_over (by kernel_rfl) (by kernel_rfl) ?_
  iterate 14 (go_big_quiet_step (fail))
  refine wpQuiet_bin rfl .eql _ _ 89 _ rfl _ _ (.bool false) rfl rfl (fun _ => guardLimbs _ _ _ _ _ _) (fun _ => binLimbs (HEQ.out _)) ?_
  simp only [Act.put, List.setIfInBounds_toArray, List.set_cons_succ, List.set_cons_zero]
  repeat (go_big_quiet_step (first | (go_at_call 129; exact calls_over (cmp_is (numOf s) G.q.m (1) HLT.out OK.out.q.lt4 HCI.out _))))
  refine wpQuiet_nil ?_
  rintro _ ⟨E, rfl⟩
  have HZ := Lib.hid ((HC.out.below HB3.out HC.out.lt).below E.h (by have := HB3.out.size; omega))
  have HBB := Lib.hid (below_up (below_up HBW.out HB3.out) E.h)
  clear hovg hovn
  generalize E.w = w3 at *
  have HS5 : Hid (Blk (((((w3).setCell ⟨w.heap.size, 0, none⟩ (.int .u64 0)).setCell ⟨w.heap.size, 1, none⟩ (.int .u64 0)).setCell ⟨w.heap.size, 2, none⟩ (.int .u64 0)).setCell ⟨w.heap.size, 3, none⟩ (.int .u64 0)) (w.heap.size) 111 [0, 0, 0, 0]) := (((HZ.out.set 0 0).set 1 0).set 2 0).set 3 0
  have HB5 : Hid (Below w.heap.size w (((((w3).setCell ⟨w.heap.size, 0, none⟩ (.int .u64 0)).setCell ⟨w.heap.size, 1, none⟩ (.int .u64 0)).setCell ⟨w.heap.size, 2, none⟩ (.int .u64 0)).setCell ⟨w.heap.size, 3, none⟩ (.int .u64 0))) := below_four HBB.out (by omega) _ _ _ _
  have hz_0 := HZ.out.cell (i := 0) (x := 0) rfl
  have hz_1 := HZ.out.cell (i := 1) (x := 0) rfl
  have hz_2 := HZ.out.cell (i := 2) (x := 0) rfl
  have hz_3 := HZ.out.cell (i := 3) (x := 0) rfl
  have hzf_0 := HZ.out.frozen 0
  have hzf_1 := HZ.out.frozen 1
  have hzf_2 := HZ.out.frozen 2
  have hzf_3 := HZ.out.frozen 3
  go_wp2_with fail
  generalize (((((w3).setCell ⟨w.heap.size, 0, none⟩ (.int .u64 0)).setCell ⟨w.heap.size, 1, none⟩ (.int .u64 0)).setCell ⟨w.heap.size, 2, none⟩ (.int .u64 0)).setCell ⟨w.heap.size, 3, none⟩ (.int .u64 0)) = w5 at *
  clear hz_0 hz_1 hz_2 hz_3
  have hg_0 := HS5.out.cell (i := 0) (x := 0) rfl
  have hg_1 := HS5.out.cell (i := 1) (x := 0) rfl
  have hg_2 := HS5.out.cell (i := 2) (x := 0) rfl
  have hg_3 := HS5.out.cell (i := 3) (x := 0) rfl
  simp [bodyPost, results, Try.results106, go_sem, hg_0, hg_1, hg_2, hg_3]
  exact HB5.out


set_option maxRecDepth 10000 in
set_option maxHeartbeats 1000000 in
theorem gElem_lt (G : GP) (ok : G.Ok) (gb : Nat) (s : ByteArray) (hl : s.size = G.size) (h0 : 0 < numOf s) (hc : numOf s < G.q.m) (w : World) (hG : GroupAt w gb G) :
    Calls Try.prog 106 #[.pointer (some ⟨gb, 0, none⟩), .string s] w fun e w' => e = .returned (.tuple #[elV G (numOf s), .bool true]) ∧ Below w.heap.size w w' := by
  have hs : s.size ≤ 32 := by have := ok.size_le; omega
  have HLT := Lib.hid (numOf_lt s hs)
  have HCI : Hid (cmpI (numOf s) G.q.m = -1) := by show _ = _; unfold cmpI; rw [if_pos (by omega)]
  have HEQ : Hid (∀ W, (Op.equalIn 10000 89 (.agg #[.int .u64 (dig (numOf s) 0 : Int), .int .u64 (dig (numOf s) 1 : Int), .int .u64 (dig (numOf s) 2 : Int), .int .u64 (dig (numOf s) 3 : Int)]) (.agg #[.int .u64 0, .int .u64 0, .int .u64 0, .int .u64 0])).run Try.prog W = .ok false W) :=
  fun W => eqZero (numOf s) (numOf_lt s hs) W false (by simp; omega)
  have HL := Lib.hid hl
  clear hl hc h0
  unfold elV limbV
  have OK := Lib.hid ok
  clear ok
  go_enter Try.func106, Try.ntmps106
  go_wp2_with fail
  obtain ⟨W0, hW0⟩ : ∃ W9 : World, (w.alloc (Obj.cells #[.int .u64 0, .int .u64 0, .int .u64 0, .int .u64 0] 111)) = W9 := ⟨_, rfl⟩
  rw [hW0]
  have hC : Blk W0 (w.heap.size) 111 [0, 0, 0, 0] := by
    rw [← hW0]
    have h := (Blk.new w 111 [0, 0, 0, 0] _ rfl)
    exact h
  have hBW : Below w.heap.size w W0 := by rw [← hW0]; exact ((Below.refl w.heap.size w).alloc (Nat.le_refl _) _)
  clear hW0
  have HG0 := Lib.hid (hG.up hBW)
  have HC := Lib.hid hC
  have HBW := Lib.hid hBW
  have hcl := hC.lt
  clear hG hC hBW
  refine (read_any s hs W0).mono ?_
  rintro e w2 ⟨rfl, hb2⟩
  have hz2 := hb2.size
  have HN : Hid (Blk (w2.alloc (Obj.cells #[.int .u64 (dig (numOf s) 0 : Int), .int .u64 (dig (numOf s) 1 : Int), .int .u64 (dig (numOf s) 2 : Int), .int .u64 (dig (numOf s) 3 : Int)] 89)) w2.heap.size 89 (lim (numOf s))) := Blk.new w2 _ _ _ rfl
  have HB3 := Lib.hid (hb2.alloc hz2 (Obj.cells #[.int .u64 (dig (numOf s) 0 : Int), .int .u64 (dig (numOf s) 1 : Int), .int .u64 (dig (numOf s) 2 : Int), .int .u64 (dig (numOf s) 3 : Int)] 89))
  clear hb2
  unfold limbV
  go_wp2_with fail
  generalize w2.alloc (Obj.cells #[.int .u64 (dig (numOf s) 0 : Int), .int .u64 (dig (numOf s) 1 : Int), .int .u64 (dig (numOf s) 2 : Int), .int .u64 (dig (numOf s) 3 : Int)] 89) = W3 at *
  have hG0 := HG0.out.up HB3.out
  have hgl := hG0.lt
  have hgk := hG0.kind
  have hgs := hG0.size
  have hpm_0 : W3.cell? ⟨gb, 2, none⟩ = some (.int .u64 (dig G.p.m 0 : Int)) := hG0.p.cell 0 _ rfl
  have hpm_1 : W3.cell? ⟨gb, 3, none⟩ = some (.int .u64 (dig G.p.m 1 : Int)) := hG0.p.cell 1 _ rfl
  have hpm_2 : W3.cell? ⟨gb, 4, none⟩ = some (.int .u64 (dig G.p.m 2 : Int)) := hG0.p.cell 2 _ rfl
  have hpm_3 : W3.cell? ⟨gb, 5, none⟩ = some (.int .u64 (dig G.p.m 3 : Int)) := hG0.p.cell 3 _ rfl
  have hpo_0 : W3.cell? ⟨gb, 6, none⟩ = some (.int .u64 (dig (mont G.p.m 1) 0 : Int)) := by rw [← OK.out.p.one']; exact hG0.p.cell 4 _ rfl
  have hpo_1 : W3.cell? ⟨gb, 7, none⟩ = some (.int .u64 (dig (mont G.p.m 1) 1 : Int)) := by rw [← OK.out.p.one']; exact hG0.p.cell 5 _ rfl
  have hpo_2 : W3.cell? ⟨gb, 8, none⟩ = some (.int .u64 (dig (mont G.p.m 1) 2 : Int)) := by rw [← OK.out.p.one']; exact hG0.p.cell 6 _ rfl
  have hpo_3 : W3.cell? ⟨gb, 9, none⟩ = some (.int .u64 (dig (mont G.p.m 1) 3 : Int)) := by rw [← OK.out.p.one']; exact hG0.p.cell 7 _ rfl
  have hqm_0 : W3.cell? ⟨gb, 15, none⟩ = some (.int .u64 (dig G.q.m 0 : Int)) := hG0.q.cell 0 _ rfl
  have hqm_1 : W3.cell? ⟨gb, 16, none⟩ = some (.int .u64 (dig G.q.m 1 : Int)) := hG0.q.cell 1 _ rfl
  have hqm_2 : W3.cell? ⟨gb, 17, none⟩ = some (.int .u64 (dig G.q.m 2 : Int)) := hG0.q.cell 2 _ rfl
  have hqm_3 : W3.cell? ⟨gb, 18, none⟩ = some (.int .u64 (dig G.q.m 3 : Int)) := hG0.q.cell 3 _ rfl
  have hqo_0 : W3.cell? ⟨gb, 19, none⟩ = some (.int .u64 (dig (mont G.q.m 1) 0 : Int)) := by rw [← OK.out.q.one']; exact hG0.q.cell 4 _ rfl
  have hqo_1 : W3.cell? ⟨gb, 20, none⟩ = some (.int .u64 (dig (mont G.q.m 1) 1 : Int)) := by rw [← OK.out.q.one']; exact hG0.q.cell 5 _ rfl
  have hqo_2 : W3.cell? ⟨gb, 21, none⟩ = some (.int .u64 (dig (mont G.q.m 1) 2 : Int)) := by rw [← OK.out.q.one']; exact hG0.q.cell 6 _ rfl
  have hqo_3 : W3.cell? ⟨gb, 22, none⟩ = some (.int .u64 (dig (mont G.q.m 1) 3 : Int)) := by rw [← OK.out.q.one']; exact hG0.q.cell 7 _ rfl
  have hn_0 := HN.out.cell (i := 0) (x := (dig (numOf s) 0 : Int)) rfl
  have hn_1 := HN.out.cell (i := 1) (x := (dig (numOf s) 1 : Int)) rfl
  have hn_2 := HN.out.cell (i := 2) (x := (dig (numOf s) 2 : Int)) rfl
  have hn_3 := HN.out.cell (i := 3) (x := (dig (numOf s) 3 : Int)) rfl
  have hln := HN.out.lt
  have hne : ((s.size : Int) != (G.size : Int)) = false := by simp [HL.out]
  have hovg := fun (E : Over W3) o => E.cell (b := gb) o hgl
  have hovn := fun (E : Over W3) o => E.cell (b := w2.heap.size) o hln
  refine wp_region_over (by kernel_rfl) (by kernel_rfl) ?_
  iterate 14 (go_big_quiet_step (fail))
  refine wpQuiet_bin rfl .eql _ _ 89 _ rfl _ _ (.bool false) rfl rfl (fun _ => guardLimbs _ _ _ _ _ _) (fun _ => binLimbs (HEQ.out _)) ?_
  simp only [Act.put, List.setIfInBounds_toArray, List.set_cons_succ, List.set_cons_zero]
  repeat (go_big_quiet_step (first | (go_at_call 129; exact calls_over (cmp_is (numOf s) G.q.m (-1) HLT.out OK.out.q.lt4 HCI.out _))))
  refine wpQuiet_nil ?_
  rintro _ ⟨E, rfl⟩
  have HC3 := Lib.hid ((HC.out.below HB3.out HC.out.lt).below E.h (by have := HB3.out.size; omega))
  have HB33 := Lib.hid (below_up (below_up HBW.out HB3.out) E.h)
  have HN3 := Lib.hid (HN.out.below E.h HN.out.lt)
  have hG3 := hG0.up E.h
  clear hovg hovn hG0 hn_0 hn_1 hn_2 hn_3 hln HC HBW HB3 HN
  generalize E.w = w3 at *
  have hn_0 := HN3.out.cell (i := 0) (x := (dig (numOf s) 0 : Int)) rfl
  have hn_1 := HN3.out.cell (i := 1) (x := (dig (numOf s) 1 : Int)) rfl
  have hn_2 := HN3.out.cell (i := 2) (x := (dig (numOf s) 2 : Int)) rfl
  have hn_3 := HN3.out.cell (i := 3) (x := (dig (numOf s) 3 : Int)) rfl
  have hln := HN3.out.lt
  go_wp2_with fail
  refine wp_region_otail 6 (by kernel_rfl) (by kernel_rfl) ?_
  simp only [List.take_succ_cons, List.take_zero, List.drop_succ_cons, List.drop_zero]
  have hovn := fun (E : Over w3) o => E.cell (b := w2.heap.size) o hln
  repeat (go_big_quiet_step (first | (go_at_call 130; exact calls_over (in_any G.p OK.out.p gb 2 (numOf s) HLT.out _ (hG3.up (Over.h _)).p))))
  all_goals (try unfold limbV)
  repeat (go_big_quiet_step (first | (go_at_call 130; exact calls_over (in_any G.p OK.out.p gb 2 (numOf s) HLT.out _ (hG3.up (Over.h _)).p))))
  all_goals (try unfold limbV)
  repeat (go_big_quiet_step (first | (go_at_call 130; exact calls_over (in_any G.p OK.out.p gb 2 (numOf s) HLT.out _ (hG3.up (Over.h _)).p))))
  refine wpQuiet_nil ?_
  rintro _ ⟨E, rfl⟩
  have HZ := Lib.hid (HC3.out.below E.h HC3.out.lt)
  have HBB := Lib.hid (below_up HB33.out E.h)
  clear hovn
  generalize E.w = w4 at *
  have HB5 := Lib.hid (below_fill (n := mont G.p.m (numOf s)) (b := w.heap.size) HBB.out (by omega))
  have HS5 := Lib.hid (HZ.out.fill rfl (mont G.p.m (numOf s)))
  have hz_0 := HZ.out.cell (i := 0) (x := 0) rfl
  have hz_1 := HZ.out.cell (i := 1) (x := 0) rfl
  have hz_2 := HZ.out.cell (i := 2) (x := 0) rfl
  have hz_3 := HZ.out.cell (i := 3) (x := 0) rfl
  have hzf_0 := HZ.out.frozen 0
  have hzf_1 := HZ.out.frozen 1
  have hzf_2 := HZ.out.frozen 2
  have hzf_3 := HZ.out.frozen 3
  go_wp2_with fail
  generalize (((((w4).setCell ⟨w.heap.size, 0, none⟩ (.int .u64 (dig (mont G.p.m (numOf s)) 0 : Int))).setCell ⟨w.heap.size, 1, none⟩ (.int .u64 (dig (mont G.p.m (numOf s)) 1 : Int))).setCell ⟨w.heap.size, 2, none⟩ (.int .u64 (dig (mont G.p.m (numOf s)) 2 : Int))).setCell ⟨w.heap.size, 3, none⟩ (.int .u64 (dig (mont G.p.m (numOf s)) 3 : Int))) = w5 at *
  clear hz_0 hz_1 hz_2 hz_3
  have hg_0 := HS5.out.cell (i := 0) (x := (dig (mont G.p.m (numOf s)) 0 : Int)) rfl
  have hg_1 := HS5.out.cell (i := 1) (x := (dig (mont G.p.m (numOf s)) 1 : Int)) rfl
  have hg_2 := HS5.out.cell (i := 2) (x := (dig (mont G.p.m (numOf s)) 2 : Int)) rfl
  have hg_3 := HS5.out.cell (i := 3) (x := (dig (mont G.p.m (numOf s)) 3 : Int)) rfl
  simp [bodyPost, results, Try.results106, go_sem, hg_0, hg_1, hg_2, hg_3]
  exact HB5.out

set_option maxRecDepth 10000 in
set_option maxHeartbeats 1000000 in
theorem gElem_eq (G : GP) (ok : G.Ok) (gb : Nat) (s : ByteArray) (hl : s.size = G.size) (h0 : 0 < numOf s) (hc : numOf s = G.q.m) (w : World) (hG : GroupAt w gb G) :
    Calls Try.prog 106 #[.pointer (some ⟨gb, 0, none⟩), .string s] w fun e w' => e = .returned (.tuple #[elV G (numOf s), .bool true]) ∧ Below w.heap.size w w' := by
  have hs : s.size ≤ 32 := by have := ok.size_le; omega
  have HLT := Lib.hid (numOf_lt s hs)
  have HCI : Hid (cmpI (numOf s) G.q.m = 0) := by show _ = _; unfold cmpI; rw [if_neg (by omega), if_neg (by omega)]
  have HEQ : Hid (∀ W, (Op.equalIn 10000 89 (.agg #[.int .u64 (dig (numOf s) 0 : Int), .int .u64 (dig (numOf s) 1 : Int), .int .u64 (dig (numOf s) 2 : Int), .int .u64 (dig (numOf s) 3 : Int)]) (.agg #[.int .u64 0, .int .u64 0, .int .u64 0, .int .u64 0])).run Try.prog W = .ok false W) :=
  fun W => eqZero (numOf s) (numOf_lt s hs) W false (by simp; omega)
  have HL := Lib.hid hl
  clear hl hc h0
  unfold elV limbV
  have OK := Lib.hid ok
  clear ok
  go_enter Try.func106, Try.ntmps106
  go_wp2_with fail
  obtain ⟨W0, hW0⟩ : ∃ W9 : World, (w.alloc (Obj.cells #[.int .u64 0, .int .u64 0, .int .u64 0, .int .u64 0] 111)) = W9 := ⟨_, rfl⟩
  rw [hW0]
  have hC : Blk W0 (w.heap.size) 111 [0, 0, 0, 0] := by
    rw [← hW0]
    have h := (Blk.new w 111 [0, 0, 0, 0] _ rfl)
    exact h
  have hBW : Below w.heap.size w W0 := by rw [← hW0]; exact ((Below.refl w.heap.size w).alloc (Nat.le_refl _) _)
  clear hW0
  have HG0 := Lib.hid (hG.up hBW)
  have HC := Lib.hid hC
  have HBW := Lib.hid hBW
  have hcl := hC.lt
  clear hG hC hBW
  refine (read_any s hs W0).mono ?_
  rintro e w2 ⟨rfl, hb2⟩
  have hz2 := hb2.size
  have HN : Hid (Blk (w2.alloc (Obj.cells #[.int .u64 (dig (numOf s) 0 : Int), .int .u64 (dig (numOf s) 1 : Int), .int .u64 (dig (numOf s) 2 : Int), .int .u64 (dig (numOf s) 3 : Int)] 89)) w2.heap.size 89 (lim (numOf s))) := Blk.new w2 _ _ _ rfl
  have HB3 := Lib.hid (hb2.alloc hz2 (Obj.cells #[.int .u64 (dig (numOf s) 0 : Int), .int .u64 (dig (numOf s) 1 : Int), .int .u64 (dig (numOf s) 2 : Int), .int .u64 (dig (numOf s) 3 : Int)] 89))
  clear hb2
  unfold limbV
  go_wp2_with fail
  generalize w2.alloc (Obj.cells #[.int .u64 (dig (numOf s) 0 : Int), .int .u64 (dig (numOf s) 1 : Int), .int .u64 (dig (numOf s) 2 : Int), .int .u64 (dig (numOf s) 3 : Int)] 89) = W3 at *
  have hG0 := HG0.out.up HB3.out
  have hgl := hG0.lt
  have hgk := hG0.kind
  have hgs := hG0.size
  have hpm_0 : W3.cell? ⟨gb, 2, none⟩ = some (.int .u64 (dig G.p.m 0 : Int)) := hG0.p.cell 0 _ rfl
  have hpm_1 : W3.cell? ⟨gb, 3, none⟩ = some (.int .u64 (dig G.p.m 1 : Int)) := hG0.p.cell 1 _ rfl
  have hpm_2 : W3.cell? ⟨gb, 4, none⟩ = some (.int .u64 (dig G.p.m 2 : Int)) := hG0.p.cell 2 _ rfl
  have hpm_3 : W3.cell? ⟨gb, 5, none⟩ = some (.int .u64 (dig G.p.m 3 : Int)) := hG0.p.cell 3 _ rfl
  have hpo_0 : W3.cell? ⟨gb, 6, none⟩ = some (.int .u64 (dig (mont G.p.m 1) 0 : Int)) := by rw [← OK.out.p.one']; exact hG0.p.cell 4 _ rfl
  have hpo_1 : W3.cell? ⟨gb, 7, none⟩ = some (.int .u64 (dig (mont G.p.m 1) 1 : Int)) := by rw [← OK.out.p.one']; exact hG0.p.cell 5 _ rfl
  have hpo_2 : W3.cell? ⟨gb, 8, none⟩ = some (.int .u64 (dig (mont G.p.m 1) 2 : Int)) := by rw [← OK.out.p.one']; exact hG0.p.cell 6 _ rfl
  have hpo_3 : W3.cell? ⟨gb, 9, none⟩ = some (.int .u64 (dig (mont G.p.m 1) 3 : Int)) := by rw [← OK.out.p.one']; exact hG0.p.cell 7 _ rfl
  have hqm_0 : W3.cell? ⟨gb, 15, none⟩ = some (.int .u64 (dig G.q.m 0 : Int)) := hG0.q.cell 0 _ rfl
  have hqm_1 : W3.cell? ⟨gb, 16, none⟩ = some (.int .u64 (dig G.q.m 1 : Int)) := hG0.q.cell 1 _ rfl
  have hqm_2 : W3.cell? ⟨gb, 17, none⟩ = some (.int .u64 (dig G.q.m 2 : Int)) := hG0.q.cell 2 _ rfl
  have hqm_3 : W3.cell? ⟨gb, 18, none⟩ = some (.int .u64 (dig G.q.m 3 : Int)) := hG0.q.cell 3 _ rfl
  have hqo_0 : W3.cell? ⟨gb, 19, none⟩ = some (.int .u64 (dig (mont G.q.m 1) 0 : Int)) := by rw [← OK.out.q.one']; exact hG0.q.cell 4 _ rfl
  have hqo_1 : W3.cell? ⟨gb, 20, none⟩ = some (.int .u64 (dig (mont G.q.m 1) 1 : Int)) := by rw [← OK.out.q.one']; exact hG0.q.cell 5 _ rfl
  have hqo_2 : W3.cell? ⟨gb, 21, none⟩ = some (.int .u64 (dig (mont G.q.m 1) 2 : Int)) := by rw [← OK.out.q.one']; exact hG0.q.cell 6 _ rfl
  have hqo_3 : W3.cell? ⟨gb, 22, none⟩ = some (.int .u64 (dig (mont G.q.m 1) 3 : Int)) := by rw [← OK.out.q.one']; exact hG0.q.cell 7 _ rfl
  have hn_0 := HN.out.cell (i := 0) (x := (dig (numOf s) 0 : Int)) rfl
  have hn_1 := HN.out.cell (i := 1) (x := (dig (numOf s) 1 : Int)) rfl
  have hn_2 := HN.out.cell (i := 2) (x := (dig (numOf s) 2 : Int)) rfl
  have hn_3 := HN.out.cell (i := 3) (x := (dig (numOf s) 3 : Int)) rfl
  have hln := HN.out.lt
  have hne : ((s.size : Int) != (G.size : Int)) = false := by simp [HL.out]
  have hovg := fun (E : Over W3) o => E.cell (b := gb) o hgl
  have hovn := fun (E : Over W3) o => E.cell (b := w2.heap.size) o hln
  refine wp_region_over (by kernel_rfl) (by kernel_rfl) ?_
  iterate 14 (go_big_quiet_step (fail))
  refine wpQuiet_bin rfl .eql _ _ 89 _ rfl _ _ (.bool false) rfl rfl (fun _ => guardLimbs _ _ _ _ _ _) (fun _ => binLimbs (HEQ.out _)) ?_
  simp only [Act.put, List.setIfInBounds_toArray, List.set_cons_succ, List.set_cons_zero]
  repeat (go_big_quiet_step (first | (go_at_call 129; exact calls_over (cmp_is (numOf s) G.q.m (0) HLT.out OK.out.q.lt4 HCI.out _))))
  refine wpQuiet_nil ?_
  rintro _ ⟨E, rfl⟩
  have HC3 := Lib.hid ((HC.out.below HB3.out HC.out.lt).below E.h (by have := HB3.out.size; omega))
  have HB33 := Lib.hid (below_up (below_up HBW.out HB3.out) E.h)
  have HN3 := Lib.hid (HN.out.below E.h HN.out.lt)
  have hG3 := hG0.up E.h
  clear hovg hovn hG0 hn_0 hn_1 hn_2 hn_3 hln HC HBW HB3 HN
  generalize E.w = w3 at *
  have hn_0 := HN3.out.cell (i := 0) (x := (dig (numOf s) 0 : Int)) rfl
  have hn_1 := HN3.out.cell (i := 1) (x := (dig (numOf s) 1 : Int)) rfl
  have hn_2 := HN3.out.cell (i := 2) (x := (dig (numOf s) 2 : Int)) rfl
  have hn_3 := HN3.out.cell (i := 3) (x := (dig (numOf s) 3 : Int)) rfl
  have hln := HN3.out.lt
  go_wp2_with fail
  refine wp_region_otail 6 (by kernel_rfl) (by kernel_rfl) ?_
  simp only [List.take_succ_cons, List.take_zero, List.drop_succ_cons, List.drop_zero]
  have hovn := fun (E : Over w3) o => E.cell (b := w2.heap.size) o hln
  repeat (go_big_quiet_step (first | (go_at_call 130; exact calls_over (in_any G.p OK.out.p gb 2 (numOf s) HLT.out _ (hG3.up (Over.h _)).p))))
  all_goals (try unfold limbV)
  repeat (go_big_quiet_step (first | (go_at_call 130; exact calls_over (in_any G.p OK.out.p gb 2 (numOf s) HLT.out _ (hG3.up (Over.h _)).p))))
  all_goals (try unfold limbV)
  repeat (go_big_quiet_step (first | (go_at_call 130; exact calls_over (in_any G.p OK.out.p gb 2 (numOf s) HLT.out _ (hG3.up (Over.h _)).p))))
  refine wpQuiet_nil ?_
  rintro _ ⟨E, rfl⟩
  have HZ := Lib.hid (HC3.out.below E.h HC3.out.lt)
  have HBB := Lib.hid (below_up HB33.out E.h)
  clear hovn
  generalize E.w = w4 at *
  have HB5 := Lib.hid (below_fill (n := mont G.p.m (numOf s)) (b := w.heap.size) HBB.out (by omega))
  have HS5 := Lib.hid (HZ.out.fill rfl (mont G.p.m (numOf s)))
  have hz_0 := HZ.out.cell (i := 0) (x := 0) rfl
  have hz_1 := HZ.out.cell (i := 1) (x := 0) rfl
  have hz_2 := HZ.out.cell (i := 2) (x := 0) rfl
  have hz_3 := HZ.out.cell (i := 3) (x := 0) rfl
  have hzf_0 := HZ.out.frozen 0
  have hzf_1 := HZ.out.frozen 1
  have hzf_2 := HZ.out.frozen 2
  have hzf_3 := HZ.out.frozen 3
  go_wp2_with fail
  generalize (((((w4).setCell ⟨w.heap.size, 0, none⟩ (.int .u64 (dig (mont G.p.m (numOf s)) 0 : Int))).setCell ⟨w.heap.size, 1, none⟩ (.int .u64 (dig (mont G.p.m (numOf s)) 1 : Int))).setCell ⟨w.heap.size, 2, none⟩ (.int .u64 (dig (mont G.p.m (numOf s)) 2 : Int))).setCell ⟨w.heap.size, 3, none⟩ (.int .u64 (dig (mont G.p.m (numOf s)) 3 : Int))) = w5 at *
  clear hz_0 hz_1 hz_2 hz_3
  have hg_0 := HS5.out.cell (i := 0) (x := (dig (mont G.p.m (numOf s)) 0 : Int)) rfl
  have hg_1 := HS5.out.cell (i := 1) (x := (dig (mont G.p.m (numOf s)) 1 : Int)) rfl
  have hg_2 := HS5.out.cell (i := 2) (x := (dig (mont G.p.m (numOf s)) 2 : Int)) rfl
  have hg_3 := HS5.out.cell (i := 3) (x := (dig (mont G.p.m (numOf s)) 3 : Int)) rfl
  simp [bodyPost, results, Try.results106, go_sem, hg_0, hg_1, hg_2, hg_3]
  exact HB5.out

end Go.Proofs.Ytipgjookfdkciaa
