/- Texts of this seat, one behind the other: what SigmaEither leans on. No condition beyond those that each names. -/
import Derived.Test.YtdlnnkbigeiilaaZSigmaEither3
import Derived.WalkKit
import Derived.Test.YtdlnnkbigeiilaaProg
import Derived.IntWalk
import Derived.Deep.QuietTactic
import Derived.RegionTactic
import Derived.Outline
import Derived.Deep.MidRow
import Derived.Deep.WholeRow
import Derived.Laws.CopyOwn
import Derived.Lib.BufferWrite
import Derived.BigQuiet
import Derived.Lib.SliceRun
import Derived.LoopTactic
import Derived.Lib.SlBytesConst
import Derived.Lib.IndexBytes
import Derived.Deep.OwnRows

set_option maxRecDepth 100000
set_option maxHeartbeats 4000000
set_option linter.unusedVariables false
set_option linter.unusedSimpArgs false
namespace Go.Proofs.Ytdlnnkbigeiilaa
structure Stp where
 a : Nat
 o : Nat
 m : Option Nat
 t : Nat
deriving DecidableEq
abbrev WL := List (BitVec 32)
def rotB (x : BitVec 32) (n : Nat) : BitVec 32 := BitVec.ofNat 32 (x.toNat / 2 ^ n + x.toNat % 2 ^ n * 2 ^ (32 - n))
def stepB (m v : WL) (s : Stp) : WL :=
 v.set s.a (if s.t = 0 then (v.getD s.a 0 + v.getD s.o 0) + (match s.m with | some k => m.getD k 0 | none => 0) else rotB (v.getD s.a 0 ^^^ v.getD s.o 0) s.t)
def ordL : List (List Nat) := [[0,1,2,3,4,5,6,7,8,9,10,11,12,13,14,15],[14,10,4,8,9,15,13,6,1,12,0,2,11,7,5,3],[11,8,12,0,5,2,15,13,10,14,3,6,7,1,9,4],[7,9,3,1,13,12,11,14,2,6,5,10,4,0,15,8],[9,0,5,7,2,4,10,15,14,1,11,12,6,8,3,13],
 [2,12,6,10,0,11,8,3,4,13,7,5,15,14,1,9],[12,5,1,15,14,13,4,10,0,7,6,3,9,2,8,11],[13,11,7,14,12,1,3,9,5,0,15,4,8,6,2,10],[6,15,14,9,11,3,0,8,12,2,13,7,1,4,10,5],[10,2,8,4,7,6,1,5,15,11,9,14,3,12,13,0]]
def ordN (r i : Nat) : Nat := (ordL.getD r []).getD i 0
def cA (i : Nat) : Nat := i % 4
def cB (i : Nat) : Nat := 4 + (i % 4 + i / 4) % 4
def cC (i : Nat) : Nat := 8 + (i % 4 + 2 * (i / 4)) % 4
def cD (i : Nat) : Nat := 12 + (i % 4 + 3 * (i / 4)) % 4
def quartL (i x y : Nat) : List Stp := [⟨cA i, cB i, some x, 0⟩, ⟨cD i, cA i, none, 16⟩, ⟨cC i, cD i, none, 0⟩, ⟨cB i, cC i, none, 12⟩, ⟨cA i, cB i, some y, 0⟩, ⟨cD i, cA i, none, 8⟩, ⟨cC i, cD i, none, 0⟩, ⟨cB i, cC i, none, 7⟩]
def quartB (m v : WL) (r i : Nat) : WL := (quartL i (ordN r (2 * i)) (ordN r (2 * i + 1))).foldl (stepB m) v
def rowL (r : Nat) : List Stp := (List.range 8).flatMap fun i => quartL i (ordN r (2 * i)) (ordN r (2 * i + 1))
def allL : List Stp := (List.range 10).flatMap rowL
def stirB (v m : WL) : WL := allL.foldl (stepB m) v
theorem stepB_len (m v : WL) (s : Stp) : (stepB m v s).length = v.length := by unfold stepB; rw [List.length_set]
theorem steps_len (m : WL) : ∀ (l : List Stp) (v : WL), (l.foldl (stepB m) v).length = v.length
 | [], _ => rfl
 | s :: l, v => by rw [List.foldl_cons, steps_len m l, stepB_len]
theorem stirB_len (v m : WL) : (stirB v m).length = v.length := steps_len _ _ _
def halfB (m : WL) (r i : Nat) (v : WL) : WL := ((List.range i).flatMap fun i => quartL i (ordN r (2 * i)) (ordN r (2 * i + 1))).foldl (stepB m) v
def roundsB (m : WL) (r : Nat) (v : WL) : WL := ((List.range r).flatMap rowL).foldl (stepB m) v
theorem halfB_succ (m : WL) (r i : Nat) (v : WL) : halfB m r (i + 1) v = quartB m (halfB m r i v) r i := by
 unfold halfB quartB
 rw [List.range_succ, List.flatMap_append, List.foldl_append]
 simp
theorem roundsB_succ (m : WL) (r : Nat) (v : WL) : roundsB m (r + 1) v = halfB m r 8 (roundsB m r v) := by
 unfold roundsB halfB
 rw [List.range_succ, List.flatMap_append, List.foldl_append]
 simp [rowL]
theorem roundsB_all (m : WL) (v : WL) : roundsB m 10 v = stirB v m := rfl
theorem halfB_len (m : WL) (r i : Nat) (v : WL) : (halfB m r i v).length = v.length := steps_len _ _ _
theorem roundsB_len (m : WL) (r : Nat) (v : WL) : (roundsB m r v).length = v.length := steps_len _ _ _
theorem quart_words (m v : WL) (r i : Nat) (hv : v.length = 16) (a b c d x y : BitVec 32)
  (ha : v.getD (cA i) 0 = a) (hb : v.getD (cB i) 0 = b) (hc : v.getD (cC i) 0 = c) (hd : v.getD (cD i) 0 = d) (hx : m.getD (ordN r (2 * i)) 0 = x) (hy : m.getD (ordN r (2 * i + 1)) 0 = y) :
  let a1 := a + b + x
  let d1 := rotB (d ^^^ a1) 16
  let c1 := c + d1
  let b1 := rotB (b ^^^ c1) 12
  let a2 := a1 + b1 + y
  let d2 := rotB (d1 ^^^ a2) 8
  let c2 := c1 + d2
  let b2 := rotB (b1 ^^^ c2) 7
  quartB m v r i = (((((((v.set (cA i) a1).set (cD i) d1).set (cC i) c1).set (cB i) b1).set (cA i) a2).set (cD i) d2).set (cC i) c2).set (cB i) b2 := by
 intro a1 d1 c1 b1 a2 d2 c2 b2
 have hA : cA i < 4 := by unfold cA; omega
 have hB : 4 ≤ cB i ∧ cB i < 8 := by unfold cB; omega
 have hC : 8 ≤ cC i ∧ cC i < 12 := by unfold cC; omega
 have hD : 12 ≤ cD i ∧ cD i < 16 := by unfold cD; omega
 unfold quartB quartL
 generalize cA i = A at *
 generalize cB i = B at *
 generalize cC i = C at *
 generalize cD i = D at *
 simp only [List.foldl_cons, List.foldl_nil]
 have gs : ∀ (l : WL) (k : Nat) (u : BitVec 32), k < l.length → (l.set k u).getD k 0 = u := fun l k u h => by simp [List.getD, h]
 have gn : ∀ (l : WL) (k j : Nat) (u : BitVec 32), k ≠ j → (l.set k u).getD j 0 = l.getD j 0 := fun l k j u h => by simp [List.getD, List.getElem?_set_ne h]
 have e1 : stepB m v ⟨A, B, some (ordN r (2 * i)), 0⟩ = v.set A a1 := by unfold stepB; simp only [if_pos, ha, hb, hx]; rfl
 rw [e1]
 have e2 : stepB m (v.set A a1) ⟨D, A, none, 16⟩ = (v.set A a1).set D d1 := by
  unfold stepB; rw [if_neg (by simp), gn _ A D _ (by omega), gs _ A _ (by omega), hd]
 rw [e2]
 have e3 : stepB m ((v.set A a1).set D d1) ⟨C, D, none, 0⟩ = ((v.set A a1).set D d1).set C c1 := by
  unfold stepB; rw [if_pos rfl, gn _ D C _ (by omega), gn _ A C _ (by omega), gs _ D _ (by simp; omega), hc]; simp [c1]
 rw [e3]
 have e4 : stepB m (((v.set A a1).set D d1).set C c1) ⟨B, C, none, 12⟩ = (((v.set A a1).set D d1).set C c1).set B b1 := by
  unfold stepB; rw [if_neg (by simp), gn _ C B _ (by omega), gn _ D B _ (by omega), gn _ A B _ (by omega), gs _ C _ (by simp; omega), hb]
 rw [e4]
 have e5 : stepB m ((((v.set A a1).set D d1).set C c1).set B b1) ⟨A, B, some (ordN r (2 * i + 1)), 0⟩ = ((((v.set A a1).set D d1).set C c1).set B b1).set A a2 := by
  unfold stepB; rw [if_pos rfl, gn _ B A _ (by omega), gn _ C A _ (by omega), gn _ D A _ (by omega), gs _ A _ (by omega), gs _ B _ (by simp; omega)]; rw [show (match (some (ordN r (2 * i + 1)) : Option Nat) with | some k => m.getD k 0 | none => 0) = y from hy]
 rw [e5]
 have e6 : stepB m (((((v.set A a1).set D d1).set C c1).set B b1).set A a2) ⟨D, A, none, 8⟩ = (((((v.set A a1).set D d1).set C c1).set B b1).set A a2).set D d2 := by
  unfold stepB; rw [if_neg (by simp), gn _ A D _ (by omega), gn _ B D _ (by omega), gn _ C D _ (by omega), gs _ D _ (by simp; omega), gs _ A _ (by simp; omega)]
 rw [e6]
 have e7 : stepB m ((((((v.set A a1).set D d1).set C c1).set B b1).set A a2).set D d2) ⟨C, D, none, 0⟩ = ((((((v.set A a1).set D d1).set C c1).set B b1).set A a2).set D d2).set C c2 := by
  unfold stepB; rw [if_pos rfl, gn _ D C _ (by omega), gn _ A C _ (by omega), gn _ B C _ (by omega), gs _ C _ (by simp; omega), gs _ D _ (by simp; omega)]; simp [c2]
 rw [e7]
 unfold stepB; rw [if_neg (by simp), gn _ C B _ (by omega), gn _ D B _ (by omega), gn _ A B _ (by omega), gs _ B _ (by simp; omega), gs _ C _ (by simp; omega)]
theorem rot_or (x : BitVec 32) (n : Nat) (h0 : n = 16 ∨ n = 12 ∨ n = 8 ∨ n = 7) : (x >>> n) ||| (x <<< (32 - n)) = rotB x n := by
 apply BitVec.eq_of_toNat_eq
 have hx := x.isLt
 unfold rotB
 rw [BitVec.toNat_or, BitVec.toNat_ushiftRight, BitVec.toNat_shiftLeft, BitVec.toNat_ofNat, Nat.or_comm]
 have e : x.toNat <<< (32 - n) % 2 ^ 32 = (x.toNat % 2 ^ n) <<< (32 - n) := by
  rw [Nat.shiftLeft_eq, Nat.shiftLeft_eq]
  generalize x.toNat = X at *
  rcases h0 with rfl | rfl | rfl | rfl <;> omega
 rw [e, ← Nat.shiftLeft_add_eq_or_of_lt (by rw [Nat.shiftRight_eq_div_pow]; generalize x.toNat = X at *; rcases h0 with rfl | rfl | rfl | rfl <;> omega), Nat.shiftRight_eq_div_pow, Nat.shiftLeft_eq]
 generalize x.toNat = X at *
 rcases h0 with rfl | rfl | rfl | rfl <;> omega
def startB : WL := [0x6a09e667, 0xbb67ae85, 0x3c6ef372, 0xa54ff53a, 0x510e527f, 0x9b05688c, 0x1f83d9ab, 0x5be0cd19]
def preB (h : WL) (n : Nat) (last : Bool) : WL :=
 let v := (h ++ startB).set 12 (startB.getD 4 0 ^^^ BitVec.ofNat 32 n)
 let v := v.set 13 (startB.getD 5 0 ^^^ BitVec.ofNat 32 (n / 4294967296))
 if last then v.set 14 (~~~ startB.getD 6 0) else v
def mixB (h w : WL) (k : Nat) : WL := (List.range 8).map fun i => if i < k then h.getD i 0 ^^^ w.getD i 0 ^^^ w.getD (i + 8) 0 else h.getD i 0
def pressB (h m : WL) (n : Nat) (last : Bool) : WL := mixB h (stirB (preB h n last) m) 8
theorem mixB_len (h w : WL) (k : Nat) : (mixB h w k).length = 8 := by unfold mixB; simp
theorem pressB_len (h m : WL) (n : Nat) (last : Bool) : (pressB h m n last).length = 8 := mixB_len _ _ _
theorem mixB_at (h w : WL) (k i : Nat) (hi : i < (mixB h w k).length) : (mixB h w k)[i] = if i < k then h.getD i 0 ^^^ w.getD i 0 ^^^ w.getD (i + 8) 0 else h.getD i 0 := by simp only [mixB, List.getElem_map, List.getElem_range]
theorem mixB_zero (h w : WL) (hh : h.length = 8) : mixB h w 0 = h := by
 apply List.ext_getElem (by rw [mixB_len, hh])
 intro i h1 h2
 rw [mixB_at, if_neg (by omega)]
 simp [List.getD, List.getElem?_eq_getElem h2]
theorem mixB_succ (h w : WL) (k : Nat) : mixB h w (k + 1) = (mixB h w k).set k (h.getD k 0 ^^^ w.getD k 0 ^^^ w.getD (k + 8) 0) := by
 apply List.ext_getElem (by rw [List.length_set, mixB_len, mixB_len])
 intro i h1 h2
 rw [List.getElem_set, mixB_at, mixB_at]
 by_cases e : k = i
 ·subst e; rw [if_pos (by omega), if_pos rfl]
 ·rw [if_neg e]
  by_cases e2 : i < k
  ·rw [if_pos e2, if_pos (by omega)]
  ·rw [if_neg e2, if_neg (by omega)]
def byteW (l : List UInt8) (k j : Nat) : Nat := if j < k then (l.getD j 0).toNat else 0
def wordB (l : List UInt8) (k j : Nat) : BitVec 32 := BitVec.ofNat 32 (byteW l k (4 * j) + byteW l k (4 * j + 1) * 256 + byteW l k (4 * j + 2) * 65536 + byteW l k (4 * j + 3) * 16777216)
def wordsB (l : List UInt8) (k : Nat) : WL := (List.range 16).map (wordB l k)
theorem wordsB_len (l : List UInt8) (k : Nat) : (wordsB l k).length = 16 := by unfold wordsB; simp
theorem byteW_lt (l : List UInt8) (k j : Nat) : byteW l k j < 256 := by
 unfold byteW
 split
 ·exact (l.getD j 0).toNat_lt
 ·omega
theorem wordsB_zero (l : List UInt8) : wordsB l 0 = List.replicate 16 0 := by
 unfold wordsB
 rw [List.map_congr_left (g := fun _ => (0 : BitVec 32)) (fun j _ => by unfold wordB byteW; simp)]
 rfl
theorem wordsB_at (l : List UInt8) (k j : Nat) (hj : j < (wordsB l k).length) : (wordsB l k)[j] = wordB l k j := by simp only [wordsB, List.getElem_map, List.getElem_range]
theorem wordsB_get (l : List UInt8) (k j : Nat) (h : j < 16) : (wordsB l k).getD j 0 = wordB l k j := by
 unfold wordsB
 simp [List.getD, h]
theorem wordsB_succ (l : List UInt8) (k : Nat) (hk : k < 64) : wordsB l (k + 1) = (wordsB l k).set (k / 4) ((wordsB l k).getD (k / 4) 0 + BitVec.ofNat 32 ((l.getD k 0).toNat * 256 ^ (k % 4))) := by
 apply List.ext_getElem (by rw [List.length_set, wordsB_len, wordsB_len])
 intro j h1 h2
 have hj : j < 16 := by rwa [wordsB_len] at h1
 rw [List.getElem_set]
 simp only [wordsB_get l k (k / 4) (show k / 4 < 16 by omega)]
 rw [wordsB_at, wordsB_at]
 by_cases e : k / 4 = j
 ·rw [if_pos e, e]
  unfold wordB
  rw [← BitVec.ofNat_add]
  congr 1
  have hr : k % 4 = 0 ∨ k % 4 = 1 ∨ k % 4 = 2 ∨ k % 4 = 3 := by omega
  unfold byteW
  rcases hr with hr | hr | hr | hr
  ·obtain rfl : k = 4 * j := by omega
   rw [hr]
   simp only [Nat.reducePow]
   (repeat' split) <;> omega
  ·obtain rfl : k = 4 * j + 1 := by omega
   rw [hr]
   simp only [Nat.reducePow]
   (repeat' split) <;> omega
  ·obtain rfl : k = 4 * j + 2 := by omega
   rw [hr]
   simp only [Nat.reducePow]
   (repeat' split) <;> omega
  ·obtain rfl : k = 4 * j + 3 := by omega
   rw [hr]
   simp only [Nat.reducePow]
   (repeat' split) <;> omega
 ·rw [if_neg e]
  unfold wordB
  congr 1
  have key : ∀ i, i ≠ k → byteW l (k + 1) i = byteW l k i := fun i hi => by
   unfold byteW
   by_cases h : i < k
   ·rw [if_pos h, if_pos (by omega)]
   ·rw [if_neg h, if_neg (by omega)]
  rw [key _ (by omega), key _ (by omega), key _ (by omega), key _ (by omega)]
theorem wordsB_congr (l l' : List UInt8) (k k' : Nat) (h : ∀ j, j < 64 → byteW l k j = byteW l' k' j) : wordsB l k = wordsB l' k' := by
 unfold wordsB
 apply List.map_congr_left
 intro j hj
 have hj := List.mem_range.1 hj
 unfold wordB
 rw [h _ (by omega), h _ (by omega), h _ (by omega), h _ (by omega)]
def h0B : WL := startB.set 0 0x6b08e647
def pieceB (s : List UInt8) (k : Nat) : List UInt8 := (s.drop (64 * k)).take 64
def allB (s : List UInt8) : Nat → WL
 | 0 => h0B
 | k + 1 => pressB (allB s k) (wordsB (pieceB s k) 64) (64 * (k + 1)) false
def lastB (s : List UInt8) : Nat := (s.length - 1) / 64
def digW (s : List UInt8) : WL := pressB (allB s (lastB s)) (wordsB (pieceB s (lastB s)) 64) s.length true
theorem digW_len (s : List UInt8) : (digW s).length = 8 := pressB_len _ _ _ _
theorem pieceB_append (s t : List UInt8) (k : Nat) (h : 64 * (k + 1) ≤ s.length) : pieceB (s ++ t) k = pieceB s k := by
 unfold pieceB
 rw [List.drop_append_of_le_length (by omega), List.take_append_of_le_length (by rw [List.length_drop]; omega)]
theorem allB_append (s t : List UInt8) : ∀ k, 64 * k ≤ s.length → allB (s ++ t) k = allB s k
 | 0, _ => rfl
 | k + 1, h => by unfold allB; rw [allB_append s t k (by omega), pieceB_append s t k h]
def outB (w : WL) : List UInt8 := w.flatMap fun x => [UInt8.ofNat (x.toNat % 256), UInt8.ofNat (x.toNat / 256 % 256), UInt8.ofNat (x.toNat / 65536 % 256), UInt8.ofNat (x.toNat / 16777216 % 256)]
theorem outB_len (w : WL) : (outB w).length = 4 * w.length := by
 unfold outB
 induction w with
 | nil => rfl
 | cons x w ih => rw [List.flatMap_cons, List.length_append, ih, List.length_cons]; simp; omega
def digB (s : List UInt8) : List UInt8 := outB (digW s)
theorem digB_len (s : List UInt8) : (digB s).length = 32 := by unfold digB; rw [outB_len, digW_len]
def fourL (n : Nat) : List UInt8 := [UInt8.ofNat (n / 16777216 % 256), UInt8.ofNat (n / 65536 % 256), UInt8.ofNat (n / 256 % 256), UInt8.ofNat (n % 256)]
def bytesOf (s : ByteArray) : List UInt8 := s.data.toList
def pfxL (s : ByteArray) : List UInt8 := fourL s.size ++ bytesOf s
def joinL (label : ByteArray) (ps : List ByteArray) : List UInt8 := pfxL label ++ ps.flatMap pfxL
def digS (s : List UInt8) : ByteArray := ⟨(digB s).toArray⟩
def tagS (label : ByteArray) (ps : List ByteArray) : ByteArray := digS (joinL label ps)
def fourS (n : Nat) : ByteArray := ⟨(fourL n).toArray⟩
theorem digS_size (s : List UInt8) : (digS s).size = 32 := by
 show (digB s).toArray.size = 32
 rw [List.size_toArray, digB_len]
theorem tagS_size (l : ByteArray) (ps : List ByteArray) : (tagS l ps).size = 32 := digS_size _
theorem fourS_size (n : Nat) : (fourS n).size = 4 := rfl
structure Fold (s : List UInt8) (h : WL) (n : Nat) (hb : List UInt8) (k : Nat) : Prop where
 le : k ≤ 64
 sum : n + k = s.length
 mod : n % 64 = 0
 hs : h = allB s (n / 64)
 held : hb.take k = s.drop n
 len : hb.length = 64
theorem Fold.nil (hb : List UInt8) (h : hb.length = 64) : Fold [] h0B 0 hb 0 := ⟨by omega, rfl, rfl, rfl, rfl, h⟩
theorem Fold.press {s : List UInt8} {h : WL} {n : Nat} {hb : List UInt8} (f : Fold s h n hb 64) : Fold s (pressB h (wordsB hb 64) (n + 64) false) (n + 64) hb 0 := by
 obtain ⟨_, h1, h2, h3, h4, h5⟩ := f
 refine ⟨by omega, by omega, by omega, ?_, by rw [List.take_zero, List.drop_eq_nil_of_le (by omega)], h5⟩
 obtain ⟨q, rfl⟩ : ∃ q, n = 64 * q := ⟨n / 64, by omega⟩
 have e : (64 * q + 64) / 64 = q + 1 := by omega
 have e2 : 64 * q / 64 = q := by omega
 rw [e]
 rw [e2] at h3
 rw [h3]
 show _ = pressB (allB s q) (wordsB (pieceB s q) 64) (64 * (q + 1)) false
 have e3 : pieceB s q = hb := by
  unfold pieceB
  rw [← h4, List.take_take, Nat.min_self, List.take_of_length_le (by omega)]
 rw [e3, show 64 * (q + 1) = 64 * q + 64 by omega]
theorem Fold.lay {s : List UInt8} {h : WL} {n : Nat} {hb : List UInt8} {k : Nat} (f : Fold s h n hb k) (t : List UInt8) (ht : k + t.length ≤ 64) : Fold (s ++ t) h n (hb.take k ++ t ++ hb.drop (k + t.length)) (k + t.length) := by
 obtain ⟨h0, h1, h2, h3, h4, h5⟩ := f
 have hk : (hb.take k).length = k := by rw [List.length_take]; omega
 refine ⟨ht, by rw [List.length_append]; omega, h2, ?_, ?_, ?_⟩
 ·rw [allB_append _ _ _ (by omega)]; exact h3
 ·rw [List.take_append_of_le_length (by rw [List.length_append, hk]; exact Nat.le_refl _), List.take_of_length_le (by rw [List.length_append, hk]; exact Nat.le_refl _), List.drop_append_of_le_length (by omega), h4]
 ·simp; omega
theorem Fold.fin {s : List UInt8} {h : WL} {n : Nat} {hb : List UInt8} {k : Nat} (f : Fold s h n hb k) (h0 : s = [] ∨ 0 < k) : pressB h (wordsB (hb.take k ++ List.replicate (64 - k) 0) 64) (n + k) true = digW s := by
 obtain ⟨hk, h1, h2, h3, h4, h5⟩ := f
 unfold digW
 have e1 : n / 64 = lastB s := by
  unfold lastB
  rcases h0 with rfl | h0
  ·have : n = 0 := by simp at h1; omega
   subst this; rfl
  ·omega
 have e2 : n = 64 * lastB s := by omega
 rw [h3, e1, h1]
 congr 1
 apply wordsB_congr
 intro j hj
 unfold byteW
 rw [if_pos hj, if_pos hj, h4]
 congr 1
 unfold pieceB
 rw [← e2]
 have e3 : (s.drop n).length = k := by rw [List.length_drop]; omega
 rw [List.take_of_length_le (by omega)]
 unfold List.getD
 by_cases h : j < k
 ·rw [List.getElem?_append_left (by omega)]
 ·rw [List.getElem?_append_right (by omega), List.getElem?_eq_none (l := s.drop n) (by omega), List.getElem?_replicate]
  split <;> rfl
end Go.Proofs.Ytdlnnkbigeiilaa
namespace Go.Proofs.Ytdlnnkbigeiilaa
open Go.RowKit
theorem wrap32_nat (n : Nat) : IntKind.u32.wrap (n : Int) = ((n % 4294967296 : Nat) : Int) := by
 simp [IntKind.wrap, IntKind.signed, IntKind.bits]
theorem bv_of (x : BitVec 32) : BitVec.ofInt 32 (x.toNat : Int) = x := by apply BitVec.eq_of_toNat_eq; simp
theorem wrap_bv (x : BitVec 32) : IntKind.u32.wrap (x.toNat : Int) = (x.toNat : Int) := by
 have := x.isLt
 rw [wrap32_nat, Nat.mod_eq_of_lt (by omega)]
theorem bits_xor (a b : BitVec 32) : bits BinOp.xor IntKind.u32 (a.toNat : Int) (b.toNat : Int) = ((a ^^^ b).toNat : Int) := by
 show IntKind.u32.wrap ((BitVec.ofInt 32 (a.toNat : Int) ^^^ BitVec.ofInt 32 (b.toNat : Int) : BitVec 32).toNat : Int) = _
 rw [bv_of, bv_of, wrap_bv]
theorem bits_not (a : BitVec 32) : bits BinOp.xor IntKind.u32 4294967295 (a.toNat : Int) = ((~~~ a).toNat : Int) := by
 have e : (4294967295 : Int) = ((4294967295#32).toNat : Int) := rfl
 rw [e, bits_xor, BitVec.not_def, show (4294967295#32) = BitVec.allOnes 32 from rfl]
theorem bits_or (a b : Nat) (ha : a < 4294967296) (hb : b < 4294967296) : bits BinOp.or IntKind.u32 (a : Int) (b : Int) = ((a ||| b : Nat) : Int) := by
 show IntKind.u32.wrap ((BitVec.ofInt 32 (a : Int) ||| BitVec.ofInt 32 (b : Int) : BitVec 32).toNat : Int) = _
 have e : ∀ n : Nat, BitVec.ofInt 32 (n : Int) = BitVec.ofNat 32 n := fun n => by apply BitVec.eq_of_toNat_eq; simp
 rw [e, e, wrap_bv, BitVec.toNat_or, BitVec.toNat_ofNat, BitVec.toNat_ofNat, Nat.mod_eq_of_lt (show a < 2 ^ 32 from ha), Nat.mod_eq_of_lt (show b < 2 ^ 32 from hb)]
theorem add32 (a b : BitVec 32) : ((a.toNat : Int) + (b.toNat : Int)) % 4294967296 = ((a + b).toNat : Int) := by
 rw [BitVec.toNat_add]; omega
def wlV (l : WL) : List Value := l.map fun x => .int .u32 (x.toNat : Int)
theorem wlV_len (l : WL) : (wlV l).length = l.length := List.length_map _
theorem wlV_get (l : WL) (i : Nat) (h : i < l.length) : (wlV l)[i]? = some (.int .u32 ((l.getD i 0).toNat : Int)) := by
 unfold wlV
 simp [List.getD, h]
theorem wlV_set (l : WL) (i : Nat) (x : BitVec 32) : (wlV l).set i (.int .u32 (x.toNat : Int)) = wlV (l.set i x) := by
 unfold wlV
 rw [List.map_set]
end Go.Proofs.Ytdlnnkbigeiilaa
namespace Go.Proofs.Ytdlnnkbigeiilaa
open Go.RowKit
theorem turn_nat (x : BitVec 32) (n : Nat) (h0 : n = 16 ∨ n = 12 ∨ n = 8 ∨ n = 7) : x.toNat / 2 ^ n ||| x.toNat * 2 ^ (32 - n) % 4294967296 = (rotB x n).toNat := by
 rw [← rot_or x n h0, BitVec.toNat_or, BitVec.toNat_ushiftRight, BitVec.toNat_shiftLeft, Nat.shiftRight_eq_div_pow, Nat.shiftLeft_eq]
theorem turn_any (x : BitVec 32) (n : Nat) (h0 : n = 16 ∨ n = 12 ∨ n = 8 ∨ n = 7) (w : World) : Calls Try.prog 169 #[.int .u32 (x.toNat : Int), .int .i64 (n : Int)] w fun e w' => e = .returned (.int .u32 ((rotB x n).toNat : Int)) ∧ Below w.heap.size w w' := by
 have hx := x.isLt
 have ht := turn_nat x n h0
 have HB := Lib.hid (bits_or (x.toNat / 2 ^ n) (x.toNat * 2 ^ (32 - n) % 4294967296) (Nat.lt_of_le_of_lt (Nat.div_le_self _ _) hx) (Nat.mod_lt _ (by decide)))
 rw [ht] at HB
 have HBo := HB.out
 clear ht HB
 rcases h0 with rfl | rfl | rfl | rfl <;> simp at HBo
 all_goals
  go_enter Try.func169, Try.ntmps169
  go_wp2_with fail
  refine wp_region_over (by kernel_rfl) (by kernel_rfl) ?_
  repeat (go_big_quiet_step (first | fail))
  all_goals (try unfold elV limbV)
  repeat (go_big_quiet_step (first | fail))
  all_goals (try unfold elV limbV)
  repeat (go_big_quiet_step (first | fail))
  all_goals (try unfold ciphV)
  refine wpQuiet_nil ?_
  rintro _ ⟨E, rfl⟩
  have HB := Lib.hid E.h
  have HZS := Lib.hid E.h.size
  obtain ⟨w1, hq9⟩ : ∃ W9 : World, E.w = W9 := ⟨_, rfl⟩
  rw [hq9] at HB HZS ⊢
  clear hq9 E
  go_wp2_with fail
  go_ret
  exact ⟨rfl, HB.out⟩
def ordB : ByteArray := ⟨#[48, 49, 50, 51, 52, 53, 54, 55, 56, 57, 97, 98, 99, 100, 101, 102, 101, 97, 52, 56, 57, 102, 100, 54, 49, 99, 48, 50, 98, 55, 53, 51, 98, 56, 99, 48, 53, 50, 102, 100, 97, 101, 51, 54, 55, 49, 57, 52, 55, 57, 51, 49, 100, 99, 98, 101, 50, 54, 53, 97, 52, 48, 102, 56, 57, 48, 53, 55, 50, 52, 97, 102, 101, 49, 98, 99, 54, 56, 51, 100, 50, 99, 54, 97, 48, 98, 56, 51, 52, 100, 55, 53, 102, 101, 49, 57, 99, 53, 49, 102, 101, 100, 52, 97, 48, 55, 54, 51, 57, 50, 56, 98, 100, 98, 55, 101, 99, 49, 51, 57, 53, 48, 102, 52, 56, 54, 50, 97, 54, 102, 101, 57, 98, 51, 48, 56, 99, 50, 100, 55, 49, 52, 97, 53, 97, 50, 56, 52, 55, 54, 49, 53, 102, 98, 57, 101, 51, 99, 100, 48]⟩
theorem ord_tab : ∀ k : Fin 160, (ordB.data.getD k.1 0).toNat = if ordN (k.1 / 16) (k.1 % 16) < 10 then 48 + ordN (k.1 / 16) (k.1 % 16) else 87 + ordN (k.1 / 16) (k.1 % 16) := by decide +kernel
theorem ord_lt : ∀ k : Fin 160, ordN (k.1 / 16) (k.1 % 16) < 16 := by decide +kernel
theorem ordN_lt {r i : Nat} (hr : r < 10) (hi : i < 16) : ordN r i < 16 := by
 have h := ord_lt ⟨16 * r + i, by omega⟩
 simp only at h
 rwa [show (16 * r + i) / 16 = r by omega, show (16 * r + i) % 16 = i by omega] at h
theorem place_at {r i : Nat} (hr : r < 10) (hi : i < 16) (h : 16 * r + i < ordB.size) : (ordB[16 * r + i].toNat : Int) = if ordN r i < 10 then 48 + (ordN r i : Int) else 87 + (ordN r i : Int) := by
 have h1 := ord_tab ⟨16 * r + i, by omega⟩
 simp only at h1
 rw [show (16 * r + i) / 16 = r by omega, show (16 * r + i) % 16 = i by omega] at h1
 have e : ordB[16 * r + i] = ordB.data.getD (16 * r + i) 0 := by
  show ordB.data[16 * r + i]'h = _
  unfold Array.getD
  exact (dif_pos h).symm
 rw [e, h1]
 split <;> simp
theorem place_lo {r i : Nat} (hr : r < 10) (hi : i < 16) (h : 16 * r + i < ordB.size) (hc : (ordB[16 * r + i].toNat : Int) < 97) : ((ordB[16 * r + i].toNat : Int) - 48) % 256 = (ordN r i : Int) := by
 rw [place_at hr hi h] at *
 have := ordN_lt hr hi
 split at * <;> omega
theorem place_hi {r i : Nat} (hr : r < 10) (hi : i < 16) (h : 16 * r + i < ordB.size) (hc : 97 ≤ (ordB[16 * r + i].toNat : Int)) : ((ordB[16 * r + i].toNat : Int) - 97) % 256 + 10 = (ordN r i : Int) := by
 rw [place_at hr hi h] at *
 have := ordN_lt hr hi
 split at * <;> omega
theorem place_any (r i : Nat) (hr : r < 10) (hi : i < 16) (w : World) : Calls Try.prog 162 #[.int .i64 (r : Int), .int .i64 (i : Int)] w fun e w' => e = .returned (.int .i64 (ordN r i : Int)) ∧ Below w.heap.size w w' := by
 go_enter Try.func162, Try.ntmps162
 go_wp2_with fail
 ·go_ret
  exact ⟨ret_int (place_hi hr hi (show 16 * r + i < 160 by omega) (by assumption)), Below.refl _ _⟩
 ·go_ret
  exact ⟨ret_int (place_lo hr hi (show 16 * r + i < 160 by omega) (by assumption)), Below.refl _ _⟩
theorem corners_any (pb i : Nat) (hi : i < 8) (w : World) : Calls Try.prog 168 #[.pointer (some ⟨pb, 0, none⟩), .int .i64 (i : Int)] w fun e w' => e = .returned (.tuple #[.pointer (some ⟨pb, cA i, none⟩), .pointer (some ⟨pb, cB i, none⟩), .pointer (some ⟨pb, cC i, none⟩), .pointer (some ⟨pb, cD i, none⟩)]) ∧ Below w.heap.size w w' := by
 have h8 : i = 0 ∨ i = 1 ∨ i = 2 ∨ i = 3 ∨ i = 4 ∨ i = 5 ∨ i = 6 ∨ i = 7 := by omega
 clear hi
 rcases h8 with rfl | rfl | rfl | rfl | rfl | rfl | rfl | rfl
 all_goals
  go_enter Try.func168, Try.ntmps168
  go_wp2_with fail
  refine wp_region_over (by kernel_rfl) (by kernel_rfl) ?_
  repeat (go_big_quiet_step (first | fail))
  all_goals (try unfold elV limbV)
  repeat (go_big_quiet_step (first | fail))
  all_goals (try unfold elV limbV)
  repeat (go_big_quiet_step (first | fail))
  all_goals (try unfold ciphV)
  refine wpQuiet_nil ?_
  rintro _ ⟨E, rfl⟩
  have HB := Lib.hid E.h
  have HZS := Lib.hid E.h.size
  obtain ⟨w1, hq9⟩ : ∃ W9 : World, E.w = W9 := ⟨_, rfl⟩
  rw [hq9] at HB HZS ⊢
  clear hq9 E
  go_wp2_with fail
  simp [bodyPost, results, Try.results168, go_sem, cA, cB, cC, cD]
  exact HB.out
structure W4 (l : WL) (A B C D : Nat) (a b c d : BitVec 32) : Prop where
 len : l.length = 16
 bd : A < 4 ∧ 4 ≤ B ∧ B < 8 ∧ 8 ≤ C ∧ C < 12 ∧ 12 ≤ D ∧ D < 16
 ha : l.getD A 0 = a
 hb : l.getD B 0 = b
 hc : l.getD C 0 = c
 hd : l.getD D 0 = d
section
variable {l : WL} {A B C D : Nat} {a b c d z : BitVec 32}
theorem W4.ca (h : W4 l A B C D a b c d) : (wlV l)[A]? = some (.int .u32 (a.toNat : Int)) := h.ha ▸ wlV_get l A (by have := h.len; have := h.bd; omega)
theorem W4.cb (h : W4 l A B C D a b c d) : (wlV l)[B]? = some (.int .u32 (b.toNat : Int)) := h.hb ▸ wlV_get l B (by have := h.len; have := h.bd; omega)
theorem W4.cc (h : W4 l A B C D a b c d) : (wlV l)[C]? = some (.int .u32 (c.toNat : Int)) := h.hc ▸ wlV_get l C (by have := h.len; have := h.bd; omega)
theorem W4.cd (h : W4 l A B C D a b c d) : (wlV l)[D]? = some (.int .u32 (d.toNat : Int)) := h.hd ▸ wlV_get l D (by have := h.len; have := h.bd; omega)
theorem set_same (l : WL) (k : Nat) (u : BitVec 32) (h : k < l.length) : (l.set k u).getD k 0 = u := by simp [List.getD, h]
theorem set_other (l : WL) (k j : Nat) (u : BitVec 32) (h : k ≠ j) : (l.set k u).getD j 0 = l.getD j 0 := by simp [List.getD, List.getElem?_set_ne h]
theorem W4.sa (h : W4 l A B C D a b c d) : W4 (l.set A z) A B C D z b c d := by
 have h1 := h.len; have h2 := h.bd
 exact ⟨by rw [List.length_set]; exact h1, h2, set_same _ _ _ (by omega), by rw [set_other _ _ _ _ (by omega)]; exact h.hb, by rw [set_other _ _ _ _ (by omega)]; exact h.hc, by rw [set_other _ _ _ _ (by omega)]; exact h.hd⟩
theorem W4.sb (h : W4 l A B C D a b c d) : W4 (l.set B z) A B C D a z c d := by
 have h1 := h.len; have h2 := h.bd
 exact ⟨by rw [List.length_set]; exact h1, h2, by rw [set_other _ _ _ _ (by omega)]; exact h.ha, set_same _ _ _ (by omega), by rw [set_other _ _ _ _ (by omega)]; exact h.hc, by rw [set_other _ _ _ _ (by omega)]; exact h.hd⟩
theorem W4.sc (h : W4 l A B C D a b c d) : W4 (l.set C z) A B C D a b z d := by
 have h1 := h.len; have h2 := h.bd
 exact ⟨by rw [List.length_set]; exact h1, h2, by rw [set_other _ _ _ _ (by omega)]; exact h.ha, by rw [set_other _ _ _ _ (by omega)]; exact h.hb, set_same _ _ _ (by omega), by rw [set_other _ _ _ _ (by omega)]; exact h.hd⟩
theorem W4.sd (h : W4 l A B C D a b c d) : W4 (l.set D z) A B C D a b c z := by
 have h1 := h.len; have h2 := h.bd
 exact ⟨by rw [List.length_set]; exact h1, h2, by rw [set_other _ _ _ _ (by omega)]; exact h.ha, by rw [set_other _ _ _ _ (by omega)]; exact h.hb, by rw [set_other _ _ _ _ (by omega)]; exact h.hc, set_same _ _ _ (by omega)⟩
theorem Bx.wset {W : World} {b i : Nat} {t : TypeId} {l : WL} {x : BitVec 32} (h : Bx W b t ((wlV l).set i (.int .u32 (x.toNat : Int)))) : Bx W b t (wlV (l.set i x)) := wlV_set l i x ▸ h
end
theorem quarter_any (m v : WL) (r i : Nat) (hi : i < 8) (hv : v.length = 16) (pb : Nat) (w : World) (hp : Bx w pb 228 (wlV v)) :
  Calls Try.prog 161 #[.pointer (some ⟨pb, 0, none⟩), .int .i64 (i : Int), .int .u32 ((m.getD (ordN r (2 * i)) 0).toNat : Int), .int .u32 ((m.getD (ordN r (2 * i + 1)) 0).toNat : Int)] w
   fun e w' => e = .returned (.tuple #[]) ∧ Bx w' pb 228 (wlV (quartB m v r i)) ∧ Kept (fun q => q = pb) w w' := by
 have hq := quart_words m v r i hv _ _ _ _ _ _ rfl rfl rfl rfl rfl rfl
 have HC := Lib.hid (fun w => corners_any pb i hi w)
 have HW := Lib.hid (show W4 v (cA i) (cB i) (cC i) (cD i) _ _ _ _ from ⟨hv, by unfold cA cB cC cD; omega, rfl, rfl, rfl, rfl⟩)
 generalize quartB m v r i = V at *
 generalize m.getD (ordN r (2 * i)) 0 = x at *
 generalize m.getD (ordN r (2 * i + 1)) 0 = y at *
 generalize v.getD (cA i) 0 = a at *
 generalize v.getD (cB i) 0 = b at *
 generalize v.getD (cC i) 0 = c at *
 generalize v.getD (cD i) 0 = d at *
 generalize cA i = A at *
 generalize cB i = B at *
 generalize cC i = C at *
 generalize cD i = D at *
 have HQ := Lib.hid hq
 have Hp := Lib.hid hp
 clear hp hv hi hq
 go_enter Try.func161, Try.ntmps161
 go_wp2_with fail
 have HK := Lib.hid (Kept.refl (fun q9 => q9 = pb) w)
 refine (HC.out w).mono ?_
 rintro e w1 ⟨rfl, hb9⟩
 replace Hp := Lib.hid (Hp.out.up hb9)
 replace HK := Lib.hid (Kept.up HK.out hb9)
 have HZS := Lib.hid hb9.size
 clear hb9
 go_wp2_with fail
 have g1 := add32 b x
 obtain ⟨za1, e0⟩ : ∃ z, b + x = z := ⟨_, rfl⟩
 rw [e0] at g1
 have g2 := add32 a za1
 obtain ⟨a1, e1⟩ : ∃ z, a + za1 = z := ⟨_, rfl⟩
 rw [e1] at g2
 have Eza1 := Lib.hid e0
 have Ea1 := Lib.hid e1
 clear e1 e0
 have hlp := Hp.out.lt
 have hcA := Hp.out.cell HW.out.ca
 have hcB := Hp.out.cell HW.out.cb
 have hcC := Hp.out.cell HW.out.cc
 have hcD := Hp.out.cell HW.out.cd
 refine wp_region_otail 10 (by kernel_rfl) (by kernel_rfl) ?_
 simp only [List.take_succ_cons, List.take_zero, List.drop_succ_cons, List.drop_zero]
 have hov_pb := fun (E : Over w1) o => E.cell (b := pb) o hlp
 repeat (go_big_quiet_step (first | fail))
 all_goals (try unfold elV limbV)
 repeat (go_big_quiet_step (first | fail))
 all_goals (try unfold elV limbV)
 repeat (go_big_quiet_step (first | fail))
 all_goals (try unfold ciphV)
 refine wpQuiet_nil ?_
 rintro _ ⟨E, rfl⟩
 clear hov_pb
 replace Hp := Lib.hid (Hp.out.up E.h)
 replace HK := Lib.hid (Kept.up HK.out E.h)
 replace HZS := sz HZS E.h.size
 obtain ⟨w2, hq9⟩ : ∃ W9 : World, E.w = W9 := ⟨_, rfl⟩
 rw [hq9] at Hp HK HZS ⊢
 clear hq9 E hcA hcB hcC hcD hlp
 have hcT := Hp.out.cell HW.out.ca
 have f3_p := Hp.out.frozen
 obtain ⟨w3, hq3, hg9, hz9, hx9⟩ := put1 Hp A (.int .u32 (a1.toNat : Int)) _ rfl
 replace HK := Lib.hid (Kept.grown HK.out hg9.out (fun q9 e9 => by obtain rfl := Option.some.inj e9; exact Or.inr (rfl)))
 replace HZS := sz HZS hz9.out
 replace Hp := hx9
 clear hx9 hg9 hz9
 replace Hp := Lib.hid Hp.out.wset
 replace HW := Lib.hid (HW.out.sa (z := a1))
 go_wp2_with fail
 clear hq3 f3_p hcT g1 g2
 have g1 := bits_xor d a1
 obtain ⟨zd1, e0⟩ : ∃ z, d ^^^ a1 = z := ⟨_, rfl⟩
 rw [e0] at g1
 obtain ⟨d1, e1⟩ : ∃ z, rotB zd1 16 = z := ⟨_, rfl⟩
 have HT := Lib.hid (fun w => turn_any zd1 16 (by omega) w)
 rw [e1] at HT
 have Ezd1 := Lib.hid e0
 have Ed1 := Lib.hid e1
 clear e1 e0
 have hlp := Hp.out.lt
 have hcA := Hp.out.cell HW.out.ca
 have hcB := Hp.out.cell HW.out.cb
 have hcC := Hp.out.cell HW.out.cc
 have hcD := Hp.out.cell HW.out.cd
 refine wp_region_otail 10 (by kernel_rfl) (by kernel_rfl) ?_
 simp only [List.take_succ_cons, List.take_zero, List.drop_succ_cons, List.drop_zero]
 have hov_pb := fun (E : Over w3) o => E.cell (b := pb) o hlp
 repeat (go_big_quiet_step (first | (go_at_call 169; exact calls_over (HT.out _))))
 all_goals (try unfold elV limbV)
 repeat (go_big_quiet_step (first | (go_at_call 169; exact calls_over (HT.out _))))
 all_goals (try unfold elV limbV)
 repeat (go_big_quiet_step (first | (go_at_call 169; exact calls_over (HT.out _))))
 all_goals (try unfold ciphV)
 refine wpQuiet_nil ?_
 rintro _ ⟨E, rfl⟩
 clear hov_pb
 replace Hp := Lib.hid (Hp.out.up E.h)
 replace HK := Lib.hid (Kept.up HK.out E.h)
 replace HZS := sz HZS E.h.size
 obtain ⟨w4, hq9⟩ : ∃ W9 : World, E.w = W9 := ⟨_, rfl⟩
 rw [hq9] at Hp HK HZS ⊢
 clear hq9 E hcA hcB hcC hcD hlp
 have hcT := Hp.out.cell HW.out.cd
 have f5_p := Hp.out.frozen
 obtain ⟨w5, hq5, hg9, hz9, hx9⟩ := put1 Hp D (.int .u32 (d1.toNat : Int)) _ rfl
 replace HK := Lib.hid (Kept.grown HK.out hg9.out (fun q9 e9 => by obtain rfl := Option.some.inj e9; exact Or.inr (rfl)))
 replace HZS := sz HZS hz9.out
 replace Hp := hx9
 clear hx9 hg9 hz9
 replace Hp := Lib.hid Hp.out.wset
 replace HW := Lib.hid (HW.out.sd (z := d1))
 go_wp2_with fail
 clear hq5 f5_p hcT g1 HT
 have g2 := add32 c d1
 obtain ⟨c1, e1⟩ : ∃ z, c + d1 = z := ⟨_, rfl⟩
 rw [e1] at g2
 have Ec1 := Lib.hid e1
 clear e1
 have hlp := Hp.out.lt
 have hcA := Hp.out.cell HW.out.ca
 have hcB := Hp.out.cell HW.out.cb
 have hcC := Hp.out.cell HW.out.cc
 have hcD := Hp.out.cell HW.out.cd
 refine wp_region_otail 8 (by kernel_rfl) (by kernel_rfl) ?_
 simp only [List.take_succ_cons, List.take_zero, List.drop_succ_cons, List.drop_zero]
 have hov_pb := fun (E : Over w5) o => E.cell (b := pb) o hlp
 repeat (go_big_quiet_step (first | fail))
 all_goals (try unfold elV limbV)
 repeat (go_big_quiet_step (first | fail))
 all_goals (try unfold elV limbV)
 repeat (go_big_quiet_step (first | fail))
 all_goals (try unfold ciphV)
 refine wpQuiet_nil ?_
 rintro _ ⟨E, rfl⟩
 clear hov_pb
 replace Hp := Lib.hid (Hp.out.up E.h)
 replace HK := Lib.hid (Kept.up HK.out E.h)
 replace HZS := sz HZS E.h.size
 obtain ⟨w6, hq9⟩ : ∃ W9 : World, E.w = W9 := ⟨_, rfl⟩
 rw [hq9] at Hp HK HZS ⊢
 clear hq9 E hcA hcB hcC hcD hlp
 have hcT := Hp.out.cell HW.out.cc
 have f7_p := Hp.out.frozen
 obtain ⟨w7, hq7, hg9, hz9, hx9⟩ := put1 Hp C (.int .u32 (c1.toNat : Int)) _ rfl
 replace HK := Lib.hid (Kept.grown HK.out hg9.out (fun q9 e9 => by obtain rfl := Option.some.inj e9; exact Or.inr (rfl)))
 replace HZS := sz HZS hz9.out
 replace Hp := hx9
 clear hx9 hg9 hz9
 replace Hp := Lib.hid Hp.out.wset
 replace HW := Lib.hid (HW.out.sc (z := c1))
 go_wp2_with fail
 clear hq7 f7_p hcT g2
 have g1 := bits_xor b c1
 obtain ⟨zb1, e0⟩ : ∃ z, b ^^^ c1 = z := ⟨_, rfl⟩
 rw [e0] at g1
 obtain ⟨b1, e1⟩ : ∃ z, rotB zb1 12 = z := ⟨_, rfl⟩
 have HT := Lib.hid (fun w => turn_any zb1 12 (by omega) w)
 rw [e1] at HT
 have Ezb1 := Lib.hid e0
 have Eb1 := Lib.hid e1
 clear e1 e0
 have hlp := Hp.out.lt
 have hcA := Hp.out.cell HW.out.ca
 have hcB := Hp.out.cell HW.out.cb
 have hcC := Hp.out.cell HW.out.cc
 have hcD := Hp.out.cell HW.out.cd
 refine wp_region_otail 10 (by kernel_rfl) (by kernel_rfl) ?_
 simp only [List.take_succ_cons, List.take_zero, List.drop_succ_cons, List.drop_zero]
 have hov_pb := fun (E : Over w7) o => E.cell (b := pb) o hlp
 repeat (go_big_quiet_step (first | (go_at_call 169; exact calls_over (HT.out _))))
 all_goals (try unfold elV limbV)
 repeat (go_big_quiet_step (first | (go_at_call 169; exact calls_over (HT.out _))))
 all_goals (try unfold elV limbV)
 repeat (go_big_quiet_step (first | (go_at_call 169; exact calls_over (HT.out _))))
 all_goals (try unfold ciphV)
 refine wpQuiet_nil ?_
 rintro _ ⟨E, rfl⟩
 clear hov_pb
 replace Hp := Lib.hid (Hp.out.up E.h)
 replace HK := Lib.hid (Kept.up HK.out E.h)
 replace HZS := sz HZS E.h.size
 obtain ⟨w8, hq9⟩ : ∃ W9 : World, E.w = W9 := ⟨_, rfl⟩
 rw [hq9] at Hp HK HZS ⊢
 clear hq9 E hcA hcB hcC hcD hlp
 have hcT := Hp.out.cell HW.out.cb
 have f9_p := Hp.out.frozen
 obtain ⟨w9, hq9, hg9, hz9, hx9⟩ := put1 Hp B (.int .u32 (b1.toNat : Int)) _ rfl
 replace HK := Lib.hid (Kept.grown HK.out hg9.out (fun q9 e9 => by obtain rfl := Option.some.inj e9; exact Or.inr (rfl)))
 replace HZS := sz HZS hz9.out
 replace Hp := hx9
 clear hx9 hg9 hz9
 replace Hp := Lib.hid Hp.out.wset
 replace HW := Lib.hid (HW.out.sb (z := b1))
 go_wp2_with fail
 clear hq9 f9_p hcT g1 HT
 have g1 := add32 b1 y
 obtain ⟨za2, e0⟩ : ∃ z, b1 + y = z := ⟨_, rfl⟩
 rw [e0] at g1
 have g2 := add32 a1 za2
 obtain ⟨a2, e1⟩ : ∃ z, a1 + za2 = z := ⟨_, rfl⟩
 rw [e1] at g2
 have Eza2 := Lib.hid e0
 have Ea2 := Lib.hid e1
 clear e1 e0
 have hlp := Hp.out.lt
 have hcA := Hp.out.cell HW.out.ca
 have hcB := Hp.out.cell HW.out.cb
 have hcC := Hp.out.cell HW.out.cc
 have hcD := Hp.out.cell HW.out.cd
 refine wp_region_otail 10 (by kernel_rfl) (by kernel_rfl) ?_
 simp only [List.take_succ_cons, List.take_zero, List.drop_succ_cons, List.drop_zero]
 have hov_pb := fun (E : Over w9) o => E.cell (b := pb) o hlp
 repeat (go_big_quiet_step (first | fail))
 all_goals (try unfold elV limbV)
 repeat (go_big_quiet_step (first | fail))
 all_goals (try unfold elV limbV)
 repeat (go_big_quiet_step (first | fail))
 all_goals (try unfold ciphV)
 refine wpQuiet_nil ?_
 rintro _ ⟨E, rfl⟩
 clear hov_pb
 replace Hp := Lib.hid (Hp.out.up E.h)
 replace HK := Lib.hid (Kept.up HK.out E.h)
 replace HZS := sz HZS E.h.size
 obtain ⟨w10, hq9⟩ : ∃ W9 : World, E.w = W9 := ⟨_, rfl⟩
 rw [hq9] at Hp HK HZS ⊢
 clear hq9 E hcA hcB hcC hcD hlp
 have hcT := Hp.out.cell HW.out.ca
 have f11_p := Hp.out.frozen
 obtain ⟨w11, hq11, hg9, hz9, hx9⟩ := put1 Hp A (.int .u32 (a2.toNat : Int)) _ rfl
 replace HK := Lib.hid (Kept.grown HK.out hg9.out (fun q9 e9 => by obtain rfl := Option.some.inj e9; exact Or.inr (rfl)))
 replace HZS := sz HZS hz9.out
 replace Hp := hx9
 clear hx9 hg9 hz9
 replace Hp := Lib.hid Hp.out.wset
 replace HW := Lib.hid (HW.out.sa (z := a2))
 go_wp2_with fail
 clear hq11 f11_p hcT g1 g2
 have g1 := bits_xor d1 a2
 obtain ⟨zd2, e0⟩ : ∃ z, d1 ^^^ a2 = z := ⟨_, rfl⟩
 rw [e0] at g1
 obtain ⟨d2, e1⟩ : ∃ z, rotB zd2 8 = z := ⟨_, rfl⟩
 have HT := Lib.hid (fun w => turn_any zd2 8 (by omega) w)
 rw [e1] at HT
 have Ezd2 := Lib.hid e0
 have Ed2 := Lib.hid e1
 clear e1 e0
 have hlp := Hp.out.lt
 have hcA := Hp.out.cell HW.out.ca
 have hcB := Hp.out.cell HW.out.cb
 have hcC := Hp.out.cell HW.out.cc
 have hcD := Hp.out.cell HW.out.cd
 refine wp_region_otail 10 (by kernel_rfl) (by kernel_rfl) ?_
 simp only [List.take_succ_cons, List.take_zero, List.drop_succ_cons, List.drop_zero]
 have hov_pb := fun (E : Over w11) o => E.cell (b := pb) o hlp
 repeat (go_big_quiet_step (first | (go_at_call 169; exact calls_over (HT.out _))))
 all_goals (try unfold elV limbV)
 repeat (go_big_quiet_step (first | (go_at_call 169; exact calls_over (HT.out _))))
 all_goals (try unfold elV limbV)
 repeat (go_big_quiet_step (first | (go_at_call 169; exact calls_over (HT.out _))))
 all_goals (try unfold ciphV)
 refine wpQuiet_nil ?_
 rintro _ ⟨E, rfl⟩
 clear hov_pb
 replace Hp := Lib.hid (Hp.out.up E.h)
 replace HK := Lib.hid (Kept.up HK.out E.h)
 replace HZS := sz HZS E.h.size
 obtain ⟨w12, hq9⟩ : ∃ W9 : World, E.w = W9 := ⟨_, rfl⟩
 rw [hq9] at Hp HK HZS ⊢
 clear hq9 E hcA hcB hcC hcD hlp
 have hcT := Hp.out.cell HW.out.cd
 have f13_p := Hp.out.frozen
 obtain ⟨w13, hq13, hg9, hz9, hx9⟩ := put1 Hp D (.int .u32 (d2.toNat : Int)) _ rfl
 replace HK := Lib.hid (Kept.grown HK.out hg9.out (fun q9 e9 => by obtain rfl := Option.some.inj e9; exact Or.inr (rfl)))
 replace HZS := sz HZS hz9.out
 replace Hp := hx9
 clear hx9 hg9 hz9
 replace Hp := Lib.hid Hp.out.wset
 replace HW := Lib.hid (HW.out.sd (z := d2))
 go_wp2_with fail
 clear hq13 f13_p hcT g1 HT
 have g2 := add32 c1 d2
 obtain ⟨c2, e1⟩ : ∃ z, c1 + d2 = z := ⟨_, rfl⟩
 rw [e1] at g2
 have Ec2 := Lib.hid e1
 clear e1
 have hlp := Hp.out.lt
 have hcA := Hp.out.cell HW.out.ca
 have hcB := Hp.out.cell HW.out.cb
 have hcC := Hp.out.cell HW.out.cc
 have hcD := Hp.out.cell HW.out.cd
 refine wp_region_otail 8 (by kernel_rfl) (by kernel_rfl) ?_
 simp only [List.take_succ_cons, List.take_zero, List.drop_succ_cons, List.drop_zero]
 have hov_pb := fun (E : Over w13) o => E.cell (b := pb) o hlp
 repeat (go_big_quiet_step (first | fail))
 all_goals (try unfold elV limbV)
 repeat (go_big_quiet_step (first | fail))
 all_goals (try unfold elV limbV)
 repeat (go_big_quiet_step (first | fail))
 all_goals (try unfold ciphV)
 refine wpQuiet_nil ?_
 rintro _ ⟨E, rfl⟩
 clear hov_pb
 replace Hp := Lib.hid (Hp.out.up E.h)
 replace HK := Lib.hid (Kept.up HK.out E.h)
 replace HZS := sz HZS E.h.size
 obtain ⟨w14, hq9⟩ : ∃ W9 : World, E.w = W9 := ⟨_, rfl⟩
 rw [hq9] at Hp HK HZS ⊢
 clear hq9 E hcA hcB hcC hcD hlp
 have hcT := Hp.out.cell HW.out.cc
 have f15_p := Hp.out.frozen
 obtain ⟨w15, hq15, hg9, hz9, hx9⟩ := put1 Hp C (.int .u32 (c2.toNat : Int)) _ rfl
 replace HK := Lib.hid (Kept.grown HK.out hg9.out (fun q9 e9 => by obtain rfl := Option.some.inj e9; exact Or.inr (rfl)))
 replace HZS := sz HZS hz9.out
 replace Hp := hx9
 clear hx9 hg9 hz9
 replace Hp := Lib.hid Hp.out.wset
 replace HW := Lib.hid (HW.out.sc (z := c2))
 go_wp2_with fail
 clear hq15 f15_p hcT g2
 have g1 := bits_xor b1 c2
 obtain ⟨zb2, e0⟩ : ∃ z, b1 ^^^ c2 = z := ⟨_, rfl⟩
 rw [e0] at g1
 obtain ⟨b2, e1⟩ : ∃ z, rotB zb2 7 = z := ⟨_, rfl⟩
 have HT := Lib.hid (fun w => turn_any zb2 7 (by omega) w)
 rw [e1] at HT
 have Ezb2 := Lib.hid e0
 have Eb2 := Lib.hid e1
 clear e1 e0
 have hlp := Hp.out.lt
 have hcA := Hp.out.cell HW.out.ca
 have hcB := Hp.out.cell HW.out.cb
 have hcC := Hp.out.cell HW.out.cc
 have hcD := Hp.out.cell HW.out.cd
 refine wp_region_otail 10 (by kernel_rfl) (by kernel_rfl) ?_
 simp only [List.take_succ_cons, List.take_zero, List.drop_succ_cons, List.drop_zero]
 have hov_pb := fun (E : Over w15) o => E.cell (b := pb) o hlp
 repeat (go_big_quiet_step (first | (go_at_call 169; exact calls_over (HT.out _))))
 all_goals (try unfold elV limbV)
 repeat (go_big_quiet_step (first | (go_at_call 169; exact calls_over (HT.out _))))
 all_goals (try unfold elV limbV)
 repeat (go_big_quiet_step (first | (go_at_call 169; exact calls_over (HT.out _))))
 all_goals (try unfold ciphV)
 refine wpQuiet_nil ?_
 rintro _ ⟨E, rfl⟩
 clear hov_pb
 replace Hp := Lib.hid (Hp.out.up E.h)
 replace HK := Lib.hid (Kept.up HK.out E.h)
 replace HZS := sz HZS E.h.size
 obtain ⟨w16, hq9⟩ : ∃ W9 : World, E.w = W9 := ⟨_, rfl⟩
 rw [hq9] at Hp HK HZS ⊢
 clear hq9 E hcA hcB hcC hcD hlp
 have hcT := Hp.out.cell HW.out.cb
 have f17_p := Hp.out.frozen
 obtain ⟨w17, hq17, hg9, hz9, hx9⟩ := put1 Hp B (.int .u32 (b2.toNat : Int)) _ rfl
 replace HK := Lib.hid (Kept.grown HK.out hg9.out (fun q9 e9 => by obtain rfl := Option.some.inj e9; exact Or.inr (rfl)))
 replace HZS := sz HZS hz9.out
 replace Hp := hx9
 clear hx9 hg9 hz9
 replace Hp := Lib.hid Hp.out.wset
 replace HW := Lib.hid (HW.out.sb (z := b2))
 go_wp2_with fail
 clear hq17 f17_p hcT g1 HT
 go_end0
 have h := HQ.out
 rw [BitVec.add_assoc a b x, Eza1.out, Ea1.out, Ezd1.out, Ed1.out, Ec1.out, Ezb1.out, Eb1.out, BitVec.add_assoc a1 b1 y, Eza2.out, Ea2.out, Ezd2.out, Ed2.out, Ec2.out, Ezb2.out, Eb2.out] at h
 exact ⟨rfl, h ▸ Hp.out, HK.out⟩
end Go.Proofs.Ytdlnnkbigeiilaa
namespace Go.Proofs.Ytdlnnkbigeiilaa
open Go.RowKit
theorem wpList_pushM {P : Program} (N : Nat) (w0 : World) (hN : N ≤ w0.heap.size) {ops : Array Oper} {rest : List Oper} {o : Oper} {a : Act} {Q : Exit → Act → World → Prop} (hgd : o.guard = none) (s x : Operand) (t : TypeId)
  (ho : o.op = .call { callee := .builtin .append, args := #[s, x], argTypes := #[t, t] })
  (e : TypeId) (i : TypeInfo) (z : Value) (size bytes m : Nat) (ht : P.underlying t = some (.slice e)) (hi : P.info? e = some i) (hz : i.zero = some z)
  (hsize : i.size = size) (hby : i.bytes = bytes) (hzs : z.cells.size = size) (hsz : 0 < size) (hm : 0 < m)
  (v : Value) (n : Nat) (xs : List Value) (hs : a.eval s = v) (hown : RowO N w0 e size v n xs)
  (news : Array Value) (e2 : TypeId) (b : Nat) (hb : w0.heap.size = b) (hx : a.eval x = .slice (some ⟨b, 0, none⟩) m m) (hl : news.size = m * size) (h1 : ∀ u ∈ news.toList, u.oneCell' = true)
  (h63 : (n + m) * bytes ≤ 140737488355328) (hn : n + m ≤ maxLen)
  (h : ∀ g cap w', RowO N w' e size (.slice (some ⟨g, 0, none⟩) (n + m) cap) (n + m) (xs ++ news.toList) → w0.grownBy w' v.ownBlock → wpList P ops Q rest (a.put o.dst (.slice (some ⟨g, 0, none⟩) (n + m) cap)) w') :
  wpList P ops Q (o :: rest) a (w0.alloc (.cells news e2)) := by
 subst hb
 refine wpList_append_lies _ hgd s x t ho N e i z size bytes ht hi hz hsize hby hzs hsz v n xs hs (World.ownsRow.alloc hown _) ⟨w0.heap.size, 0, none⟩ m m news.toList hx (by simpa using hl)
  (World.news_of_block (heap_alloc_new w0 _)) h1 hm hn h63 (by simp; omega) _ rfl ?_
 intro g cap w' hown' hg _ _
 refine h g cap w' hown' ⟨hg.os, hg.tape, hg.output, ?_, ?_⟩
 ·have := hg.size; simp at this; omega
 ·intro k hk hne
  rw [hg.block k (by simp; omega) hne]
  exact Below.heap_alloc _ _ _ hk
end Go.Proofs.Ytdlnnkbigeiilaa
namespace Go.Proofs.Ytdlnnkbigeiilaa
open Go.RowKit
def putL (cs : List Value) (o : Nat) : List Value → List Value
 | [] => cs
 | v :: vs => putL (cs.set o v) (o + 1) vs
theorem putL_eq : ∀ (vs cs : List Value) (o : Nat), o + vs.length ≤ cs.length → putL cs o vs = cs.take o ++ vs ++ cs.drop (o + vs.length)
 | [], cs, o, _ => by simp [putL]
 | v :: vs, cs, o, h => by
   rw [List.length_cons] at h
   rw [putL, putL_eq vs _ _ (by rw [List.length_set]; omega)]
   have h1 : (cs.set o v).take (o + 1) = cs.take o ++ [v] := by
    rw [List.take_succ_eq_append_getElem (by rw [List.length_set]; omega), List.take_set_of_le (Nat.le_refl _), List.getElem_set_self]
   have h2 : (cs.set o v).drop (o + 1 + vs.length) = cs.drop (o + (v :: vs).length) := by
    rw [List.drop_set_of_lt (by omega), List.length_cons, show o + 1 + vs.length = o + (vs.length + 1) by omega]
   rw [h1, h2]
   simp
theorem putL_all (cs vs : List Value) (h : vs.length = cs.length) : putL cs 0 vs = vs := by
 rw [putL_eq _ _ _ (by omega)]
 simp [h]
section
variable {W w0 w : World} {b o n : Nat} {t : TypeId} {cs vs : List Value} {P : Program}
theorem Bx.range (h : Bx W b t cs) : W.rangeAt b 0 cs := fun j v hv => by rw [Nat.zero_add]; exact h.cell hv
theorem Bx.part {as1 bs : List Value} (h : Bx W b t (as1 ++ (cs ++ bs))) (ho : as1.length = o) : W.rangeAt b o cs := fun j v hv => h.cell (by
 have hj := (List.getElem?_eq_some_iff.1 hv).1
 rw [List.getElem?_append_right (by omega), show o + j - as1.length = j by omega, List.getElem?_append_left hj, hv])
theorem Bx.there (h : Bx W b t cs) (hn : o + n ≤ cs.length) : W.there b o n := fun j hj => ⟨by rw [h.cell (List.getElem?_eq_getElem (show o + j < cs.length by omega))]; rfl, h.frozen _⟩
theorem Bx.put : ∀ (vs : List Value) {W : World} {cs : List Value} {o : Nat}, Bx W b t cs → Bx (W.setCells b o vs) b t (putL cs o vs)
 | [], _, _, _, h => h
 | v :: vs, _, _, _, h => Bx.put vs (h.set _ v)
theorem grown_put (b : Nat) : ∀ (vs : List Value) (W : World) (o : Nat), W.grownBy (W.setCells b o vs) (some b)
 | [], W, _ => ⟨rfl, rfl, rfl, Nat.le_refl _, fun _ _ _ => rfl⟩
 | v :: vs, W, o => (grown_set W b o v).trans (grown_put b vs _ _)
theorem size_put (b : Nat) : ∀ (vs : List Value) (W : World) (o : Nat), (W.setCells b o vs).heap.size = W.heap.size
 | [], _, _ => rfl
 | v :: vs, W, o => by
   show ((W.setCell ⟨b, o, none⟩ v).setCells b (o + 1) vs).heap.size = _
   rw [size_put b vs]
   simp [World.setCell]
theorem puts (h : Hid (Bx W b t cs)) (o : Nat) (vs cs' : List Value) (hc : putL cs o vs = cs') : ∃ W', W.setCells b o vs = W' ∧ Hid (W.grownBy W' (some b)) ∧ Hid (W'.heap.size = W.heap.size) ∧ Hid (Bx W' b t cs') :=
 ⟨_, rfl, Lib.hid (grown_put b vs W o), Lib.hid (size_put b vs W o), Lib.hid (hc ▸ h.out.put vs)⟩
theorem wp_store_new {op : Oper} {a : Act} {K : Act → World → Prop} {Q : Exit → Act → World → Prop} (ty t : TypeId) (x y : Operand) (ho : op.op = .store ty x y) (c c' : List Value)
  (hx : a.eval x = .pointer (some ⟨w.heap.size, 0, none⟩)) (hy : a.eval y = .agg c'.toArray) (hi : (P.info? ty).map (·.size) = some c'.length) (hc : c.length = c'.length) (h1 : ∀ v ∈ c', v.oneCell' = true)
  (h : K (a.put op.dst undef) (w.alloc (.cells c'.toArray t))) : op.wp P a (w.alloc (.cells c.toArray t)) K Q := by
 refine wp_store_mid ty x y ho w.heap.size 0 c'.toArray hx hy ?_ (by simpa using hi) (all_oneCell_toArray h1) ?_
 ·have hb : Bx (w.alloc (.cells c.toArray t)) w.heap.size t c := Bx.new w t c _ rfl
  exact hb.there (by simp; omega)
 ·have hb : Bx (w.alloc (.cells c.toArray t)) w.heap.size t c := Bx.new w t c _ rfl
  have e : (w.alloc (.cells c.toArray t)).setCells w.heap.size 0 c' = w.alloc (.cells c'.toArray t) := by
   have key : ∀ (vs c : List Value) (o : Nat), (w.alloc (.cells c.toArray t)).setCells w.heap.size o vs = w.alloc (.cells (putL c o vs).toArray t) := by
    intro vs
    induction vs with
    | nil => intro c o; rfl
    | cons v vs ih =>
     intro c o
     show ((w.alloc (.cells c.toArray t)).setCell ⟨w.heap.size, o, none⟩ v).setCells w.heap.size (o + 1) vs = _
     rw [World.setCell_alloc_at _ _ _ _ _ rfl]
     simp only [List.setIfInBounds_toArray]
     exact ih _ _
   rw [key, putL_all _ _ hc.symm]
  simp only
  rw [e]
  exact h
theorem wpList_store_new {ops : Array Oper} {rest : List Oper} {op : Oper} {a : Act} {Q : Exit → Act → World → Prop} (hgd : op.guard = none) (ty t : TypeId) (x y : Operand) (ho : op.op = .store ty x y) (c c' : List Value)
  (hx : a.eval x = .pointer (some ⟨w.heap.size, 0, none⟩)) (hy : a.eval y = .agg c'.toArray) (hi : (P.info? ty).map (·.size) = some c'.length) (hc : c.length = c'.length) (h1 : ∀ v ∈ c', v.oneCell' = true)
  (h : wpList P ops Q rest (a.put op.dst undef) (w.alloc (.cells c'.toArray t))) : wpList P ops Q (op :: rest) a (w.alloc (.cells c.toArray t)) :=
 wpList_plain hgd fun _ hK => wp_store_new ty t x y ho c c' hx hy hi hc h1 (hK _ _ h)
theorem grown_row {g : Nat} (w : World) (cs : Array Value) : w.grownBy (w.setRow g cs) (some g) :=
 ⟨rfl, rfl, rfl, by simp [World.setRow], fun k _ hk => setRow_other w g k cs (fun e => hk (by rw [e]))⟩
theorem wpList_copyB {ops : Array Oper} {rest : List Oper} {op : Oper} {a : Act} {Q : Exit → Act → World → Prop} (hgd : op.guard = none) (d s : Operand) (dT sT : TypeId)
  (ho : op.op = .call { callee := .builtin .copy, args := #[d, s], argTypes := #[dT, sT] }) (elem : TypeId) (hu : P.underlying dT = some (.slice elem)) (hsz : (P.info? elem).map (·.size) = some 1)
  (g off dLen dCap : Nat) (ad : Addr) (sLen sCap : Nat) (hd : a.eval d = .slice (some ⟨g, off, none⟩) dLen dCap) (hs : a.eval s = .slice (some ad) sLen sCap)
  (cur : List Value) (t : TypeId) (hg : Bx w g t cur) (cs : List Value) (hn : cs.length = Nat.min sLen dLen)
  (hsrc : ∀ j v, cs[j]? = some v → w.cell? (ad.add j) = some v) (hfit : off + cs.length ≤ cur.length) (h1 : ∀ v ∈ cs, v.oneCell' = true) (cs' : List Value) (hc : putL cur off cs = cs')
  (h : ∀ w', Hid (w.grownBy w' (some g)) → Hid (w'.heap.size = w.heap.size) → Hid (Bx w' g t cs') → wpList P ops Q rest (a.put op.dst (goInt cs.length)) w') : wpList P ops Q (op :: rest) a w := by
 refine wpList_copy_own hgd d s dT sT ho elem hu hsz g off dLen dCap ad sLen sCap hd hs cur.toArray t hg cs hn hsrc (by simpa using hfit) h1 ?_
 refine h _ (Lib.hid (grown_row _ _)) (Lib.hid (by simp [World.setRow])) (Lib.hid ?_)
 show (w.setRow g _).heap[g]? = _
 rw [setRow_heap w g _ _ t _ hg, ← hc, putL_eq _ _ _ hfit]
 simp
theorem run_copy_str (w : World) (dT sT ty elem : TypeId) (g o dLen dCap : Nat) (s : ByteArray) (cur : Array Value) (t : TypeId)
  (hu : P.underlying dT = some (.slice elem)) (hs : (P.info? elem).map (·.size) = some 1) (hg : w.heap[g]? = some (.cells cur t (0, 0))) (hfit : o + dLen ≤ cur.size) :
  (Builtin.copy_ #[dT, sT] ty #[.slice (some ⟨g, o, none⟩) dLen dCap, .string s]).run P w =
   .ok (goInt (Nat.min s.size dLen)) (w.setRow g (cur.toList.take o ++ (Lib.byteCells s.data.toList).take dLen ++ cur.toList.drop (o + ((Lib.byteCells s.data.toList).take dLen).length)).toArray) := by
 have hlen : ((Lib.byteCells s.data.toList).take dLen).length = Nat.min s.size dLen := by
  rw [List.length_take, Lib.byteCells_length, ← Lib.size_eq, Nat.min_comm]
 have hst := run_storeCells_at P g o t ((Lib.byteCells s.data.toList).take dLen) 0 cur w hg (by rw [hlen]; have := Nat.min_le_right s.size dLen; simp only [Nat.add_zero]; exact Nat.le_trans (Nat.add_le_add_left this _) hfit) (fun v hv => Lib.byteCells_one _ v (List.mem_of_mem_take hv))
 have htk : List.take (Nat.min s.size dLen) (List.map (fun b : UInt8 => Value.int IntKind.u8 (b.toNat : Int)) s.data.toList) = (Lib.byteCells s.data.toList).take dLen := by
  unfold Lib.byteCells
  show List.take (min s.size dLen) _ = _
  rw [Nat.min_comm, ← List.take_take, List.take_of_length_le (i := s.size) (by rw [List.length_map, ← Lib.size_eq]; exact Nat.le_refl _)]
 simp only [Nat.add_zero] at hst
 cases hq : P.info? elem with
 | none => simp [hq] at hs
 | some i =>
  simp [Builtin.copy_, run_underlying hu, Builtin.lenOf, Builtin.firstCells, sizeOf, typeInfo, hq]
  rw [htk, hst]
  simp [Result.andThen]
theorem wpList_copyS {ops : Array Oper} {rest : List Oper} {op : Oper} {a : Act} {Q : Exit → Act → World → Prop} (hgd : op.guard = none) (d s : Operand) (dT sT : TypeId)
  (ho : op.op = .call { callee := .builtin .copy, args := #[d, s], argTypes := #[dT, sT] }) (elem : TypeId) (hu : P.underlying dT = some (.slice elem)) (hsz : (P.info? elem).map (·.size) = some 1)
  (g off dLen dCap : Nat) (x : ByteArray) (hd : a.eval d = .slice (some ⟨g, off, none⟩) dLen dCap) (hs : a.eval s = .string x)
  (cur : List Value) (t : TypeId) (hg : Bx w g t cur) (hfit : off + dLen ≤ cur.length) (cs' : List Value) (hc : putL cur off ((Lib.byteCells x.data.toList).take dLen) = cs')
  (h : ∀ w', Hid (w.grownBy w' (some g)) → Hid (w'.heap.size = w.heap.size) → Hid (Bx w' g t cs') → wpList P ops Q rest (a.put op.dst (goInt (Nat.min x.size dLen))) w') : wpList P ops Q (op :: rest) a w := by
 refine wpList_plain hgd fun K hK => ?_
 have hrun := run_copy_str (P := P) w dT sT op.type elem g off dLen dCap x cur.toArray t hu hsz hg (by simpa using hfit)
 have hl : off + ((Lib.byteCells x.data.toList).take dLen).length ≤ cur.length := by rw [List.length_take]; have := Nat.min_le_left dLen (Lib.byteCells x.data.toList).length; omega
 unfold Oper.wp
 simp [execOp, ho, resolve, invoke, builtin, hd, hs, hrun, Result.andThen]
 refine hK _ _ (h _ (Lib.hid (grown_row _ _)) (Lib.hid (by simp [World.setRow])) (Lib.hid ?_))
 show (w.setRow g _).heap[g]? = _
 rw [setRow_heap w g _ _ t _ hg, ← hc, putL_eq _ _ _ hl]
 simp
theorem wpList_clearB {ops : Array Oper} {rest : List Oper} {op : Oper} {a : Act} {Q : Exit → Act → World → Prop} (hgd : op.guard = none) (x : Operand) (T : TypeId)
  (ho : op.op = .call { callee := .builtin .clear, args := #[x], argTypes := #[T] }) (e : TypeId) (z : Value) (ht : P.underlying T = some (.slice e)) (hv : ∀ w, (zeroValue e).run P w = .ok z w) (hz : z.cells = #[z]) (h1 : z.oneCell' = true)
  (g off n c : Nat) (hx : a.eval x = .slice (some ⟨g, off, none⟩) n c) (cur : List Value) (t : TypeId) (hg : Bx w g t cur) (hfit : off + n ≤ cur.length) (cs' : List Value) (hc : putL cur off (List.replicate n z) = cs')
  (h : ∀ w', Hid (w.grownBy w' (some g)) → Hid (w'.heap.size = w.heap.size) → Hid (Bx w' g t cs') → wpList P ops Q rest (a.put op.dst (.tuple #[])) w') : wpList P ops Q (op :: rest) a w := by
 refine wpList_plain hgd fun K hK => ?_
 by_cases hn : n = 0
 ·subst hn
  have hrun : (Builtin.clear_ #[T] op.type #[.slice (some ⟨g, off, none⟩) 0 c]).run P w = .ok (.tuple #[]) w := by simp [Builtin.clear_, run_underlying ht]
  unfold Oper.wp
  simp [execOp, ho, resolve, invoke, builtin, hx, hrun, Result.andThen]
  exact hK _ _ (h w (Lib.hid ⟨rfl, rfl, rfl, Nat.le_refl _, fun _ _ _ => rfl⟩) (Lib.hid rfl) (Lib.hid (hc ▸ hg)))
 ·have hrun := Lib.run_clear_slice (P := P) w T e op.type z ht hv hz h1 g off n c (by omega) (fun j hj => (hg.there hfit j hj).1) (fun j hj => (hg.there hfit j hj).2)
  unfold Oper.wp
  simp [execOp, ho, resolve, invoke, builtin, hx, hrun, Result.andThen]
  exact hK _ _ (h _ (Lib.hid (grown_put g _ w off)) (Lib.hid (size_put g _ w off)) (Lib.hid (hc ▸ hg.put _)))
theorem wpQuiet_load {ops : Array Oper} {C : World → Prop} {Q : Act → Prop} {rest : List Oper} {op : Oper} {a : Act} (hgd : op.guard = none) (ty : TypeId) (x : Operand) (ho : op.op = .load ty x)
  (b o : Nat) (hx : a.eval x = .pointer (some ⟨b, o, none⟩)) (cs : List Value) (d : TypeDesc) (hC : ∀ w, C w → w.rangeAt b o cs) (hu : P.underlying ty = some d) (hd : d.isRow = true) (hi : (P.info? ty).map (·.size) = some cs.length)
  (h : wpQuiet P ops C Q rest (a.put op.dst (.agg cs.toArray))) : wpQuiet P ops C Q (op :: rest) a := by
 refine BigFrame.wpQuiet_want (by simp [Region.wanted, hgd]) fun K hK => ⟨_, fun w hw => ?_, hK _ h⟩
 unfold Oper.quietAt execOp
 simp only [ho, hx, Instr.loadAt, Instr.sureAddr, Sem.run_bind, Sem.run_pure, Result.andThen_ok, run_loadVar_mid w b o ty cs d (hC w hw) hu hd hi]
 exact ⟨rfl, rfl⟩
end
theorem ret_arr {P : Program} {fn : Func} {R : Ending → World → Prop} {a : Act} {w : World} {p : Tmp} {ty : TypeId} (h : fn.results = #[.cell p ty]) {b : Nat} {t : TypeId} {cs : List Value} (hb : Bx w b t cs) (d : TypeDesc)
  (hp : a.tmps.getD p undef = .pointer (some ⟨b, 0, none⟩)) (hu : P.underlying ty = some d) (hd : d.isRow = true) (hi : (P.info? ty).map (·.size) = some cs.length) (ha : a.defers = []) (hR : R (.returned (.agg cs.toArray)) w) : bodyPost P fn R .ret a w :=
 bodyPost_ret (results_cell_row h a.tmps w b t cs.toArray (0, 0) d hp hb hu (by cases d <;> simp_all) (by simpa using hi)) ha hR
theorem run_index_arr {P : Program} (w : World) (t e : TypeId) (k : IntKind) (n : Nat) (cs : List Value) (i : Nat) (v : Value) (hv : cs[i]? = some v) (hu : P.underlying t = some (.array n e)) (hn : cs.length = n) (hs : (P.info? e).map (·.size) = some 1) (he : P.underlying e = some (.int k)) :
  (Instr.index t (.agg cs.toArray) (.int .i64 (i : Int))).run P w = .ok v w := by
 have hi : i < n := hn ▸ (List.getElem?_eq_some_iff.1 hv).1
 cases hq : P.info? e with
 | none => simp [hq] at hs
 | some inf =>
  have h1 : inf.size = 1 := by simpa [hq] using hs
  simp [Instr.index, asIntOf, run_underlying hu, hi, sizeOf, typeInfo, hq, h1, part, isAgg, run_underlying he, hv]
theorem wl_one (l : WL) : ∀ v ∈ wlV l, v.oneCell' = true := fun v hv => by
 unfold wlV at hv
 obtain ⟨x, _, rfl⟩ := List.mem_map.1 hv
 rfl
end Go.Proofs.Ytdlnnkbigeiilaa
namespace Go.Proofs.Ytdlnnkbigeiilaa
open Go.RowKit
end Go.Proofs.Ytdlnnkbigeiilaa
namespace Go.Proofs.Ytdlnnkbigeiilaa
open Go.RowKit
end Go.Proofs.Ytdlnnkbigeiilaa
namespace Go.Proofs.Ytdlnnkbigeiilaa
open Go.RowKit
def zw (n : Nat) : WL := List.replicate n 0
theorem wl_cell {W : World} {b : Nat} {t : TypeId} {l : WL} (h : Bx W b t (wlV l)) (i : Nat) (hi : i < l.length) : W.cell? ⟨b, i, none⟩ = some (.int .u32 ((l.getD i 0).toNat : Int)) := h.cell (wlV_get l i hi)
theorem info16 : (Try.prog.info? 195).map (·.size) = some 16 := by kernel_rfl
theorem infoPool : (Try.prog.info? 228).map (·.size) = some 16 := by kernel_rfl
theorem Stir_any (v m : WL) (hv : v.length = 16) (hm : m.length = 16) (w : World) :
  Calls Try.prog 151 #[.agg (wlV v).toArray, .agg (wlV m).toArray] w fun e w' => e = .returned (.agg (wlV (stirB v m)).toArray) ∧ Below w.heap.size w w' := by
 have HV := Lib.hid hv
 have HM := Lib.hid hm
 have HI := Lib.hid (show (Try.prog.info? 195).map (·.size) = some (wlV v).length by rw [wlV_len, hv]; exact info16)
 have HIP := Lib.hid (show (Try.prog.info? 228).map (·.size) = some (wlV v).length by rw [wlV_len, hv]; exact infoPool)
 have HZ := Lib.hid (show (wlV (zw 16)).length = (wlV v).length by rw [wlV_len, wlV_len, hv]; rfl)
 clear hv hm
 have hz : (#[.int .u32 0, .int .u32 0, .int .u32 0, .int .u32 0, .int .u32 0, .int .u32 0, .int .u32 0, .int .u32 0, .int .u32 0, .int .u32 0, .int .u32 0, .int .u32 0, .int .u32 0, .int .u32 0, .int .u32 0, .int .u32 0] : Array Value) = (wlV (zw 16)).toArray := rfl
 go_enter Try.func151, Try.ntmps151
 go_upto_region 1 with (fail)
 obtain ⟨w1, hq1, hb9, hz9, Ha, Hb, Hr⟩ := new3 w 195 (wlV v) 195 (wlV m) 195 (wlV (zw 16))
 rw [hq1]
 clear hq1
 have HB := Lib.hid hb9
 have HZS := hz9
 clear hb9 hz9
 go_upto_region 2 with (first | refine wpList_load_mid rfl 195 (.tmp 2) rfl w.heap.size 0 rfl (wlV v) _ Ha.out.range Try.underlying195 rfl HI.out ?_ | refine wpList_store_new rfl 228 228 (.tmp 5) (.tmp 8) rfl (wlV (zw 16)) (wlV v) rfl rfl HIP.out HZ.out (wl_one v) ?_)
 clear hz HIP HZ HI Ha
 obtain ⟨w2, hq2, hb9, hz9, Hp⟩ := new1 w1 228 (wlV v)
 rw [hq2]
 clear hq2
 replace Hb := Lib.hid (Hb.out.up hb9)
 replace Hr := Lib.hid (Hr.out.up hb9)
 replace HB := hbu HB hb9
 replace HZS := sz HZS hz9.out
 clear hb9 hz9
 have HK := Lib.hid (Kept.refl (fun q9 => q9 = w1.heap.size) w2)
 have HL0 := HB
 go_wp2_with fail
 go_loopw [9] (fun c wr => ∃ k : Nat, k ≤ 10 ∧ c = .int .i64 k ∧ Hid (Bx wr w1.heap.size 228 (wlV (roundsB m k v))) ∧ Hid (Kept (fun q9 => q9 = w1.heap.size) w2 wr)) (fun c _ => 10 - (intOf c).toNat)
 case atStart => exact ⟨0, by omega, rfl, Hp, HK⟩
 case round =>
  obtain ⟨k, hk, rfl, HQ, HK1⟩ := hrel
  clear HK
  have hg9 := HK1.out
  clear Hp
  replace Hb := Lib.hid (Bx.keptP (P := fun q9 => q9 = w1.heap.size) Hb.out hg9 (show ¬ (w.heap.size + 1 = w1.heap.size) by have g0 := HZS.out; omega))
  replace Hr := Lib.hid (Bx.keptP (P := fun q9 => q9 = w1.heap.size) Hr.out hg9 (show ¬ (w.heap.size + 2 = w1.heap.size) by have g0 := HZS.out; omega))
  replace HB := Lib.hid (Below.keptP HB.out hg9 (by have g0 := HZS.out; omega) (fun q9 h9 => (show w.heap.size ≤ _ by subst h9; have g0 := HZS.out; omega)))
  replace HZS := sz HZS (show w2.heap.size ≤ wr.heap.size from hg9.size)
  clear hg9
  have Hp := HQ
  clear HQ
  have HVL := Lib.hid (show (roundsB m k v).length = 16 by rw [roundsB_len]; exact HV.out)
  by_cases hk10 : k < 10
  ·have hdk : decide ((k : Int) < 10) = true := by simp; omega
   have hrs := Lib.hid (roundsB_succ m k v)
   generalize roundsB m k v = V at *
   obtain ⟨wo, rfl⟩ : ∃ wo : World, wo = wr := ⟨_, rfl⟩
   have HK2 := Lib.hid (Kept.refl (fun q9 => q9 = w1.heap.size) wo)
   go_wp2_with fail
   go_loopw [12] (fun c wr => ∃ i : Nat, i ≤ 8 ∧ c = .int .i64 i ∧ Hid (Bx wr w1.heap.size 228 (wlV (halfB m k i V))) ∧ Hid (Kept (fun q9 => q9 = w1.heap.size) wo wr)) (fun c _ => 8 - (intOf c).toNat)
   case atStart => exact ⟨0, by omega, rfl, Hp, HK2⟩
   case round =>
    obtain ⟨i, hi, rfl, HQ, HK3⟩ := hrel
    clear HK2
    have hg9 := HK3.out
    clear Hp
    replace Hb := Lib.hid (Bx.keptP (P := fun q9 => q9 = w1.heap.size) Hb.out hg9 (show ¬ (w.heap.size + 1 = w1.heap.size) by have g0 := HZS.out; omega))
    replace Hr := Lib.hid (Bx.keptP (P := fun q9 => q9 = w1.heap.size) Hr.out hg9 (show ¬ (w.heap.size + 2 = w1.heap.size) by have g0 := HZS.out; omega))
    replace HB := Lib.hid (Below.keptP HB.out hg9 (by have g0 := HZS.out; omega) (fun q9 h9 => (show w.heap.size ≤ _ by subst h9; have g0 := HZS.out; omega)))
    replace HZS := sz HZS (show wo.heap.size ≤ wr.heap.size from hg9.size)
    clear hg9
    have Hp := HQ
    clear HQ
    have HVI := Lib.hid (show (halfB m k i V).length = 16 by rw [halfB_len]; exact HVL.out)
    by_cases hi8 : i < 8
    ·have HS := Lib.hid (halfB_succ m k i V)
     have HQU := fun W h => quarter_any m (halfB m k i V) k i hi8 HVI.out w1.heap.size W h
     have HP1 := fun w => place_any k (2 * i) hk10 (by omega) w
     have HP2 := fun w => place_any k (2 * i + 1) hk10 (by omega) w
     have o1 : ordN k (2 * i) < 16 := ordN_lt hk10 (by omega)
     have o2 : ordN k (2 * i + 1) < 16 := ordN_lt hk10 (by omega)
     rw [show ((2 * i : Nat) : Int) = 2 * (i : Int) from by omega] at HP1
     rw [show ((2 * i + 1 : Nat) : Int) = 2 * (i : Int) + 1 from by omega] at HP2
     generalize quartB m (halfB m k i V) k i = V2 at *
     generalize halfB m k i V = V1 at *
     generalize ordN k (2 * i) = j1 at *
     generalize ordN k (2 * i + 1) = j2 at *
     have c1 := wl_cell Hb.out j1 (by rw [HM.out]; exact o1)
     have c2 := wl_cell Hb.out j2 (by rw [HM.out]; exact o2)
     have HQU := Lib.hid HQU
     have HP1 := Lib.hid HP1
     have HP2 := Lib.hid HP2
     generalize m.getD j1 0 = x1 at *
     generalize m.getD j2 0 = x2 at *
     have a1 : (0 : Int) ≤ (j1 : Int) := by omega
     have a2 : (j1 : Int) < 16 := by omega
     have a3 : (0 : Int) ≤ (j2 : Int) := by omega
     have a4 : (j2 : Int) < 16 := by omega
     go_wp2_with fail
     refine wp_region_otail 14 (by kernel_rfl) (by kernel_rfl) ?_
     simp only [List.take_succ_cons, List.take_zero, List.drop_succ_cons, List.drop_zero]
     have hov_w_heap_size___1 := fun (E : Over wr) o => E.cell (b := w.heap.size + 1) o Hb.out.lt
     repeat (go_big_quiet_step (first | (go_at_call 162; exact calls_over ((by first | with_reducible exact HP1.out _ | with_reducible exact HP2.out _)))))
     all_goals (try unfold elV limbV)
     repeat (go_big_quiet_step (first | (go_at_call 162; exact calls_over ((by first | with_reducible exact HP1.out _ | with_reducible exact HP2.out _)))))
     all_goals (try unfold elV limbV)
     repeat (go_big_quiet_step (first | (go_at_call 162; exact calls_over ((by first | with_reducible exact HP1.out _ | with_reducible exact HP2.out _)))))
     all_goals (try unfold ciphV)
     refine wpQuiet_nil ?_
     rintro _ ⟨E, rfl⟩
     clear hov_w_heap_size___1
     replace Hb := Lib.hid (Hb.out.up E.h)
     replace Hr := Lib.hid (Hr.out.up E.h)
     replace Hp := Lib.hid (Hp.out.up E.h)
     replace HK3 := Lib.hid (Kept.up HK3.out E.h)
     replace HB := hbu HB E.h
     replace HZS := sz HZS E.h.size
     obtain ⟨w3, hq9⟩ : ∃ W9 : World, E.w = W9 := ⟨_, rfl⟩
     rw [hq9] at Hb Hr Hp HK3 HB HZS ⊢
     clear hq9 E c1 c2
     go_wp2_with fail
     refine (HQU.out _ Hp.out).mono ?_
     rintro e wq ⟨rfl, hq1, hk1⟩
     have HQ1 := Lib.hid hq1
     have HK4 := Lib.hid (HK3.out.trans hk1)
     clear hq1 hk1 HQU HP1 HP2
     go_wp2_with fail
     go_roundw
     case rel => exact ⟨i + 1, by omega, by go_num, by rw [HS.out]; exact HQ1, HK4⟩
     case measure => simp [intOf]; omega
    ·have hi8' : i = 8 := by omega
     subst hi8'
     have HQ := Hp
     rw [← hrs.out] at HQ
     have HK5 := Lib.hid (HK1.out.trans HK3.out)
     go_wp2_with fail
     go_roundw
     case rel => exact ⟨k + 1, by omega, by go_num, HQ, HK5⟩
     case measure => simp [intOf]; omega
  ·have hk' : k = 10 := by omega
   subst hk'
   rw [roundsB_all] at Hp
   have HSL := Lib.hid (stirB_len v m)
   obtain ⟨S, hS⟩ : ∃ S, stirB v m = S := ⟨_, rfl⟩
   rw [hS] at Hp HSL
   have HS := Lib.hid hS
   clear hS
   have HSI := Lib.hid (show (Try.prog.info? 228).map (·.size) = some (wlV S).length by rw [wlV_len, HSL.out, HV.out]; exact infoPool)
   have HSJ := Lib.hid (show (Try.prog.info? 195).map (·.size) = some (wlV S).length by rw [wlV_len, HSL.out, HV.out]; exact info16)
   have HZ := Lib.hid (show (wlV S).length = (wlV (zw 16)).length by rw [wlV_len, wlV_len, HSL.out, HV.out]; rfl)
   obtain ⟨w5, hq5, hg5, hz5, hr5⟩ := puts Hr 0 (wlV S) (wlV S) (putL_all _ _ HZ.out)
   have HB5 := hbg HB hg5 (by omega)
   go_wp2_with (first | refine wpList_load_mid rfl 228 (.tmp 5) rfl w1.heap.size 0 rfl (wlV S) _ Hp.out.range Try.underlying228 rfl HSI.out ?_ | refine wpList_store_mid rfl 195 (.tmp 4) (.tmp 32) rfl (w.heap.size + 2) 0 (wlV S).toArray rfl rfl (Hr.out.there (by simp [HZ.out])) (by simpa using HSJ.out) (all_oneCell_toArray (wl_one S)) ?_)
   rw [hq5]
   exact ret_arr Try.results151 hr5.out _ rfl Try.underlying195 rfl HSJ.out rfl ⟨by rw [HS.out], HB5.out⟩
end Go.Proofs.Ytdlnnkbigeiilaa
namespace Go.Proofs.Ytdlnnkbigeiilaa
open Go.RowKit
end Go.Proofs.Ytdlnnkbigeiilaa
namespace Go.Proofs.Ytdlnnkbigeiilaa
open Go.RowKit
theorem info8 : (Try.prog.info? 135).map (·.size) = some 8 := by kernel_rfl
theorem infoW : (Try.prog.info? 134).map (·.size) = some 1 := by kernel_rfl
def startV : WL := startB
theorem startB_len : startV.length = 8 := rfl
theorem start_any (w : World) : Calls Try.prog 127 #[] w fun e w' => e = .returned (.agg (wlV startV).toArray) ∧ Below w.heap.size w w' := by
 go_enter Try.func127, Try.ntmps127
 go_wp2_with fail
 obtain ⟨w1, hq1, hb9, hz9, Hr⟩ := new1 w 135 [.int .u32 1779033703, .int .u32 3144134277, .int .u32 1013904242, .int .u32 2773480762, .int .u32 1359893119, .int .u32 2600822924, .int .u32 528734635, .int .u32 1541459225]
 rw [hq1]
 clear hq1
 have HB := Lib.hid hb9
 have HZS := hz9
 clear hb9 hz9
 have r_ := Hr.out.c8
 simp [bodyPost, results, Try.results127, go_sem, r_]
 exact ⟨rfl, HB.out⟩
theorem wlV_app (l m : WL) : wlV l ++ wlV m = wlV (l ++ m) := by unfold wlV; rw [List.map_append]
theorem pre_copy1 (h : WL) (hh : h.length = 8) : putL (wlV (zw 16)) 0 (wlV h) = wlV (h ++ zw 8) := by
 rw [putL_eq _ _ _ (by rw [wlV_len, wlV_len, hh]; decide), List.take_zero, List.nil_append, wlV_len, hh, ← wlV_app]
 rfl
theorem pre_copy2 (h : WL) (hh : h.length = 8) : putL (wlV (h ++ zw 8)) 8 (wlV startV) = wlV (h ++ startV) := by
 have h8 : (wlV h).length = 8 := by rw [wlV_len, hh]
 rw [putL_eq _ _ _ (by rw [wlV_len, wlV_len, List.length_append, hh]; decide), ← wlV_app, List.take_append_of_le_length (by omega), List.take_of_length_le (by omega), wlV_len, startB_len, List.drop_eq_nil_of_le (by rw [List.length_append, h8, wlV_len]; decide), List.append_nil, wlV_app]
theorem pre_cell (h : WL) (hh : h.length = 8) (j : Nat) (hj : j < 8) : (wlV (h ++ startV))[8 + j]? = (wlV startV)[j]? := by
 rw [← wlV_app, List.getElem?_append_right (by rw [wlV_len, hh]; omega), wlV_len, hh, show 8 + j - 8 = j by omega]
theorem wl_ne (l : WL) (i j : Nat) (x : BitVec 32) (h : i ≠ j) : (wlV (l.set i x))[j]? = (wlV l)[j]? := by rw [← wlV_set, List.getElem?_set_ne h]
theorem xor_lo (n : Nat) : bits BinOp.xor IntKind.u32 1359893119 ((n : Int) % 4294967296) = ((startB.getD 4 0 ^^^ BitVec.ofNat 32 n).toNat : Int) := by
 rw [← bits_xor, BitVec.toNat_ofNat]; rfl
theorem xor_hi (n : Nat) (hn : n < 18446744073709551616) : bits BinOp.xor IntKind.u32 2600822924 ((n : Int) / 4294967296) = ((startB.getD 5 0 ^^^ BitVec.ofNat 32 (n / 4294967296)).toNat : Int) := by
 rw [← bits_xor, BitVec.toNat_ofNat, Nat.mod_eq_of_lt (show n / 4294967296 < 2 ^ 32 by omega)]; rfl
theorem Press_any (h m : WL) (hh : h.length = 8) (hm : m.length = 16) (n : Nat) (hn : n < 18446744073709551616) (last : Bool) (w : World) :
  Calls Try.prog 128 #[.agg (wlV h).toArray, .agg (wlV m).toArray, .int .u64 (n : Int), .bool last] w fun e w' => e = .returned (.agg (wlV (pressB h m n last)).toArray) ∧ Below w.heap.size w w' := by
 have HH := Lib.hid hh
 have HM := Lib.hid hm
 have HL8 := Lib.hid (show (wlV h).length = 8 by rw [wlV_len, hh])
 have HI8 := Lib.hid (show (Try.prog.info? 135).map (·.size) = some (wlV startV).length from info8)
 have HZ8 := Lib.hid (show (wlV (zw 8)).length = (wlV startV).length from rfl)
 have HIM := Lib.hid (show (Try.prog.info? 195).map (·.size) = some (wlV m).length by rw [wlV_len, hm]; exact info16)
 have hz : (#[.int .u32 0, .int .u32 0, .int .u32 0, .int .u32 0, .int .u32 0, .int .u32 0, .int .u32 0, .int .u32 0, .int .u32 0, .int .u32 0, .int .u32 0, .int .u32 0, .int .u32 0, .int .u32 0, .int .u32 0, .int .u32 0] : Array Value) = (wlV (zw 16)).toArray := rfl
 have hz8 : (#[.int .u32 0, .int .u32 0, .int .u32 0, .int .u32 0, .int .u32 0, .int .u32 0, .int .u32 0, .int .u32 0] : Array Value) = (wlV (zw 8)).toArray := rfl
 have E1 := Lib.hid (pre_copy1 h hh)
 have E2 := Lib.hid (pre_copy2 h hh)
 have hx12 := xor_lo n
 have hx13 := xor_hi n hn
 clear hh hm
 go_enter Try.func128, Try.ntmps128
 go_upto_region 2 with (fail)
 obtain ⟨w1, hq1, hb9, hz9, Ha, Hb, Hr, Hv⟩ := new4 w 135 (wlV h) 195 (wlV m) 135 (wlV (zw 8)) 195 (wlV (zw 16))
 rw [hq1]
 clear hq1
 have HB := Lib.hid hb9
 have HZS := hz9
 clear hb9 hz9
 go_wp2_with fail
 refine (start_any w1).mono ?_
 rintro e w2 ⟨rfl, hb9⟩
 replace Ha := Lib.hid (Ha.out.up hb9)
 replace Hb := Lib.hid (Hb.out.up hb9)
 replace Hr := Lib.hid (Hr.out.up hb9)
 replace Hv := Lib.hid (Hv.out.up hb9)
 replace HB := hbu HB hb9
 replace HZS := sz HZS hb9.size
 clear hb9
 go_upto_region 3 with (refine wpList_store_new rfl 135 135 (.tmp 10) (.tmp 13) rfl (wlV (zw 8)) (wlV startV) rfl rfl HI8.out HZ8.out (wl_one startV) ?_)
 obtain ⟨w3, hq3, hb9, hz9, Hs⟩ := new1 w2 135 (wlV startV)
 rw [hq3]
 clear hq3
 replace Ha := Lib.hid (Ha.out.up hb9)
 replace Hb := Lib.hid (Hb.out.up hb9)
 replace Hr := Lib.hid (Hr.out.up hb9)
 replace Hv := Lib.hid (Hv.out.up hb9)
 replace HB := hbu HB hb9
 replace HZS := sz HZS hz9.out
 clear hb9 hz9
 go_simp
 refine wp_region_otail 2 (by kernel_rfl) (by kernel_rfl) ?_
 simp only [List.take_succ_cons, List.take_zero, List.drop_succ_cons, List.drop_zero]
 repeat (go_big_quiet_step (first | fail))
 all_goals (try unfold elV limbV)
 repeat (go_big_quiet_step (first | fail))
 all_goals (try unfold elV limbV)
 repeat (go_big_quiet_step (first | fail))
 all_goals (try unfold ciphV)
 refine wpQuiet_nil ?_
 rintro _ ⟨E, rfl⟩
 replace Ha := Lib.hid (Ha.out.up E.h)
 replace Hb := Lib.hid (Hb.out.up E.h)
 replace Hr := Lib.hid (Hr.out.up E.h)
 replace Hv := Lib.hid (Hv.out.up E.h)
 replace Hs := Lib.hid (Hs.out.up E.h)
 replace HB := hbu HB E.h
 replace HZS := sz HZS E.h.size
 obtain ⟨w4, hq9⟩ : ∃ W9 : World, E.w = W9 := ⟨_, rfl⟩
 rw [hq9] at Ha Hb Hr Hv Hs HB HZS ⊢
 clear hq9 E
 refine wpList_copyB rfl (.tmp 14) (.tmp 15) 217 217 rfl 134 Try.underlying217 infoW (w.heap.size + 3) 0 8 16 ⟨w.heap.size, 0, none⟩ 8 8 rfl rfl (wlV (zw 16)) 195 Hv.out (wlV h) (by rw [HL8.out]; rfl) (fun j v hv => by rw [Addr.add_mid]; exact Ha.out.range j v hv) (by rw [HL8.out]; decide) (wl_one h) _ E1.out ?_
 intro wc hg9 hz9 hx9
 replace Ha := Lib.hid (Ha.out.grown hg9.out (sne (by have g0 := HZS.out; omega)))
 replace Hb := Lib.hid (Hb.out.grown hg9.out (sne (by have g0 := HZS.out; omega)))
 replace Hr := Lib.hid (Hr.out.grown hg9.out (sne (by have g0 := HZS.out; omega)))
 replace Hs := Lib.hid (Hs.out.grown hg9.out (sne (by have g0 := HZS.out; omega)))
 replace HB := hbg HB hg9 (by have g0 := HZS.out; omega)
 replace HZS := sz HZS hz9.out
 replace Hv := hx9
 clear hx9 hg9 hz9
 go_wp2_with fail
 go_simp
 refine wp_region_otail 2 (by kernel_rfl) (by kernel_rfl) ?_
 simp only [List.take_succ_cons, List.take_zero, List.drop_succ_cons, List.drop_zero]
 repeat (go_big_quiet_step (first | fail))
 all_goals (try unfold elV limbV)
 repeat (go_big_quiet_step (first | fail))
 all_goals (try unfold elV limbV)
 repeat (go_big_quiet_step (first | fail))
 all_goals (try unfold ciphV)
 refine wpQuiet_nil ?_
 rintro _ ⟨E, rfl⟩
 replace Ha := Lib.hid (Ha.out.up E.h)
 replace Hb := Lib.hid (Hb.out.up E.h)
 replace Hr := Lib.hid (Hr.out.up E.h)
 replace Hv := Lib.hid (Hv.out.up E.h)
 replace Hs := Lib.hid (Hs.out.up E.h)
 replace HB := hbu HB E.h
 replace HZS := sz HZS E.h.size
 obtain ⟨w5, hq9⟩ : ∃ W9 : World, E.w = W9 := ⟨_, rfl⟩
 rw [hq9] at Ha Hb Hr Hv Hs HB HZS ⊢
 clear hq9 E
 refine wpList_copyB rfl (.tmp 17) (.tmp 18) 217 217 rfl 134 Try.underlying217 infoW (w.heap.size + 3) 8 8 8 ⟨w2.heap.size, 0, none⟩ 8 8 rfl rfl (wlV (h ++ zw 8)) 195 Hv.out (wlV startV) rfl (fun j v hv => by rw [Addr.add_mid]; exact Hs.out.range j v hv) (by rw [wlV_len, wlV_len, List.length_append, HH.out]; decide) (wl_one startV) _ E2.out ?_
 intro wd hg9 hz9 hx9
 replace Ha := Lib.hid (Ha.out.grown hg9.out (sne (by have g0 := HZS.out; omega)))
 replace Hb := Lib.hid (Hb.out.grown hg9.out (sne (by have g0 := HZS.out; omega)))
 replace Hr := Lib.hid (Hr.out.grown hg9.out (sne (by have g0 := HZS.out; omega)))
 replace Hs := Lib.hid (Hs.out.grown hg9.out (sne (by have g0 := HZS.out; omega)))
 replace HB := hbg HB hg9 (by have g0 := HZS.out; omega)
 replace HZS := sz HZS hz9.out
 replace Hv := hx9
 clear hx9 hg9 hz9 Hs
 have c12 : wd.cell? ⟨w.heap.size + 3, 12, none⟩ = some (.int .u32 1359893119) := Hv.out.cell (by rw [show 12 = 8 + 4 from rfl, pre_cell h HH.out 4 (by decide)]; rfl)
 obtain ⟨z12, e12⟩ : ∃ z, startB.getD 4 0 ^^^ BitVec.ofNat 32 n = z := ⟨_, rfl⟩
 obtain ⟨z13, e13⟩ : ∃ z, startB.getD 5 0 ^^^ BitVec.ofNat 32 (n / 4294967296) = z := ⟨_, rfl⟩
 rw [e12] at hx12
 rw [e13] at hx13
 have HPR := Lib.hid (show ∀ b, preB h n b = if b then (((h ++ startV).set 12 z12).set 13 z13).set 14 (~~~ startB.getD 6 0) else ((h ++ startV).set 12 z12).set 13 z13 from fun b => by rw [← e12, ← e13]; rfl)
 clear e12 e13
 have f6_v := Hv.out.frozen
 obtain ⟨w6, hq6, hg9, hz9, hx9⟩ := put1 Hv 12 (.int .u32 (z12.toNat : Int)) _ rfl
 replace Ha := Lib.hid (Ha.out.grown hg9.out (sne (by have g0 := HZS.out; omega)))
 replace Hb := Lib.hid (Hb.out.grown hg9.out (sne (by have g0 := HZS.out; omega)))
 replace Hr := Lib.hid (Hr.out.grown hg9.out (sne (by have g0 := HZS.out; omega)))
 replace HB := hbg HB hg9 (by have g0 := HZS.out; omega)
 replace HZS := sz HZS hz9.out
 replace Hv := hx9
 clear hx9 hg9 hz9
 replace Hv := Lib.hid Hv.out.wset
 go_upto_region 6 with (fail)
 clear c12
 have c13 : w6.cell? ⟨w.heap.size + 3, 13, none⟩ = some (.int .u32 2600822924) := Hv.out.cell (by rw [wl_ne _ _ _ _ (by decide), show 13 = 8 + 5 from rfl, pre_cell h HH.out 5 (by decide)]; rfl)
 have f7_v := Hv.out.frozen
 obtain ⟨w7, hq7, hg9, hz9, hx9⟩ := put1 Hv 13 (.int .u32 (z13.toNat : Int)) _ rfl
 replace Ha := Lib.hid (Ha.out.grown hg9.out (sne (by have g0 := HZS.out; omega)))
 replace Hb := Lib.hid (Hb.out.grown hg9.out (sne (by have g0 := HZS.out; omega)))
 replace Hr := Lib.hid (Hr.out.grown hg9.out (sne (by have g0 := HZS.out; omega)))
 replace HB := hbg HB hg9 (by have g0 := HZS.out; omega)
 replace HZS := sz HZS hz9.out
 replace Hv := hx9
 clear hx9 hg9 hz9
 replace Hv := Lib.hid Hv.out.wset
 go_upto_region 7 with (fail)
 clear c13 hx12 hx13
 have HLV := Lib.hid (show (((h ++ startV).set 12 z12).set 13 z13).length = 16 by rw [List.length_set, List.length_set, List.length_append, HH.out]; rfl)
 have c14 : w7.cell? ⟨w.heap.size + 3, 14, none⟩ = some (.int .u32 528734635) := Hv.out.cell (by rw [wl_ne _ _ _ _ (by decide), wl_ne _ _ _ _ (by decide), show 14 = 8 + 6 from rfl, pre_cell h HH.out 6 (by decide)]; rfl)
 generalize ((h ++ startV).set 12 z12).set 13 z13 = V1 at *
 cases last
 case true =>
  have hx14 : bits BinOp.xor IntKind.u32 IntKind.u32.max 528734635 = ((~~~ startB.getD 6 0).toNat : Int) := by rw [← bits_not]; rfl
  obtain ⟨z14, e14⟩ : ∃ z, ~~~ startB.getD 6 0 = z := ⟨_, rfl⟩
  rw [e14] at hx14 HPR
  clear e14
  have f8_v := Hv.out.frozen
  obtain ⟨w8, hq8, hg9, hz9, hx9⟩ := put1 Hv 14 (.int .u32 (z14.toNat : Int)) _ rfl
  replace Ha := Lib.hid (Ha.out.grown hg9.out (sne (by have g0 := HZS.out; omega)))
  replace Hb := Lib.hid (Hb.out.grown hg9.out (sne (by have g0 := HZS.out; omega)))
  replace Hr := Lib.hid (Hr.out.grown hg9.out (sne (by have g0 := HZS.out; omega)))
  replace HB := hbg HB hg9 (by have g0 := HZS.out; omega)
  replace HZS := sz HZS hz9.out
  replace Hv := hx9
  clear hx9 hg9 hz9
  replace Hv := Lib.hid Hv.out.wset
  have HPV := Lib.hid (show V1.set 14 z14 = preB h n true from (HPR.out true).symm)
  have HVL := Lib.hid (show (preB h n true).length = 16 by rw [← HPV.out, List.length_set]; exact HLV.out)
  rw [HPV.out] at Hv
  clear HPV HPR HLV
  go_upto_region 9 with (fail)
  rw [if_neg (show ¬ (IntKind.u32.signed = true) by decide), hx14, hq8]
  clear c14 hx14
  have HVI := Lib.hid (show (Try.prog.info? 195).map (·.size) = some (wlV (preB h n true)).length by rw [wlV_len, HVL.out]; exact info16)
  have HSA := Lib.hid (fun w => Stir_any (preB h n true) m HVL.out HM.out w)
  have HSL := Lib.hid (stirB_len (preB h n true) m)
  have HPE := Lib.hid (show mixB h (stirB (preB h n true) m) 8 = pressB h m n true from rfl)
  generalize stirB (preB h n true) m = S at *
  generalize preB h n true = V at *
  go_wp2_with (first | refine wpList_load_mid rfl 195 (.tmp 9) rfl (w.heap.size + 3) 0 rfl (wlV V) _ Hv.out.range Try.underlying195 rfl HVI.out ?_ | refine wpList_load_mid rfl 195 (.tmp 5) rfl (w.heap.size + 1) 0 rfl (wlV m) _ Hb.out.range Try.underlying195 rfl HIM.out ?_)
  refine (HSA.out w8).mono ?_
  rintro e w9 ⟨rfl, hb9⟩
  replace Ha := Lib.hid (Ha.out.up hb9)
  replace Hb := Lib.hid (Hb.out.up hb9)
  replace Hr := Lib.hid (Hr.out.up hb9)
  replace Hv := Lib.hid (Hv.out.up hb9)
  replace HB := hbu HB hb9
  replace HZS := sz HZS hb9.size
  clear hb9
  have HIS := Lib.hid (show (Try.prog.info? 195).map (·.size) = some (wlV S).length by rw [wlV_len, HSL.out, HVL.out]; exact info16)
  have HZS2 := Lib.hid (show (wlV (zw 16)).length = (wlV S).length by rw [wlV_len, wlV_len, HSL.out, HVL.out]; rfl)
  go_upto_region 10 with (refine wpList_store_new rfl 195 195 (.tmp 11) (.tmp 40) rfl (wlV (zw 16)) (wlV S) rfl rfl HIS.out HZS2.out (wl_one S) ?_)
  clear HVI HSA HIM HZS2 HIS Hv Hb
  obtain ⟨w10, hq10, hb9, hz9, Hs⟩ := new1 w9 195 (wlV S)
  rw [hq10]
  clear hq10
  replace Ha := Lib.hid (Ha.out.up hb9)
  replace Hr := Lib.hid (Hr.out.up hb9)
  replace HB := hbu HB hb9
  replace HZS := sz HZS hz9.out
  clear hb9 hz9
  rw [show wlV h = wlV (mixB h S 0) by rw [mixB_zero h S HH.out]] at Ha
  clear hz hz8
  have HK := Lib.hid (Kept.refl (fun q9 => q9 = w.heap.size) w10)
  go_wp2_with fail
  clear hq8 f8_v hq7 f7_v hq6 f6_v
  go_loopw [41] (fun c wr => ∃ k : Nat, k ≤ 8 ∧ c = .int .i64 k ∧ Hid (Bx wr w.heap.size 135 (wlV (mixB h S k))) ∧ Hid (Kept (fun q9 => q9 = w.heap.size) w10 wr)) (fun c _ => 8 - (intOf c).toNat)
  case atStart => exact ⟨0, by omega, rfl, Ha, HK⟩
  case round =>
   obtain ⟨k, hk, rfl, HQ, HK1⟩ := hrel
   clear HK
   have hg9 := HK1.out
   clear Ha
   replace Hr := Lib.hid (Bx.keptP (P := fun q9 => q9 = w.heap.size) Hr.out hg9 (show ¬ (w.heap.size + 2 = w.heap.size) by have g0 := HZS.out; omega))
   replace Hs := Lib.hid (Bx.keptP (P := fun q9 => q9 = w.heap.size) Hs.out hg9 (show ¬ (w9.heap.size = w.heap.size) by have g0 := HZS.out; omega))
   replace HB := Lib.hid (Below.keptP HB.out hg9 (by have g0 := HZS.out; omega) (fun q9 h9 => (show w.heap.size ≤ _ by subst h9; have g0 := HZS.out; omega)))
   replace HZS := sz HZS (show w10.heap.size ≤ wr.heap.size from hg9.size)
   clear hg9
   have Ha := HQ
   clear HQ
   have HAL := Lib.hid (mixB_len h S k)
   by_cases hk8 : k < 8
   ·have hs := mixB_succ h S k
    have c1 := wl_cell Ha.out k (by rw [HAL.out]; exact hk8)
    have e1 : (mixB h S k).getD k 0 = h.getD k 0 := by
     show ((mixB h S k)[k]?).getD 0 = _
     rw [List.getElem?_eq_getElem (by rw [HAL.out]; exact hk8)]
     exact (mixB_at h S k k (by rw [HAL.out]; exact hk8)).trans (if_neg (by omega))
    rw [e1] at c1
    have c2 := wl_cell Hs.out k (by rw [HSL.out, HVL.out]; omega)
    have c3 := wl_cell Hs.out (k + 8) (by rw [HSL.out, HVL.out]; omega)
    generalize h.getD k 0 = x at *
    generalize S.getD k 0 = y at *
    generalize S.getD (k + 8) 0 = z at *
    have g1 := bits_xor y z
    obtain ⟨yz, e2⟩ : ∃ u, y ^^^ z = u := ⟨_, rfl⟩
    rw [e2] at g1
    have g2 := bits_xor x yz
    obtain ⟨u, e3⟩ : ∃ u, x ^^^ yz = u := ⟨_, rfl⟩
    rw [e3] at g2
    rw [show x ^^^ y ^^^ z = u by rw [← e3, ← e2, BitVec.xor_assoc]] at hs
    have HSS := Lib.hid hs
    clear hs e1 e2 e3
    generalize mixB h S k = M at *
    go_wp2_with fail
    refine wp_region_otail 13 (by kernel_rfl) (by kernel_rfl) ?_
    simp only [List.take_succ_cons, List.take_zero, List.drop_succ_cons, List.drop_zero]
    have hov_w_heap_size := fun (E : Over wr) o => E.cell (b := w.heap.size) o Ha.out.lt
    have hov_w9_heap_size := fun (E : Over wr) o => E.cell (b := w9.heap.size) o Hs.out.lt
    repeat (go_big_quiet_step (first | fail))
    all_goals (try unfold elV limbV)
    repeat (go_big_quiet_step (first | fail))
    all_goals (try unfold elV limbV)
    repeat (go_big_quiet_step (first | fail))
    all_goals (try unfold ciphV)
    refine wpQuiet_nil ?_
    rintro _ ⟨E, rfl⟩
    clear hov_w_heap_size hov_w9_heap_size
    replace Hr := Lib.hid (Hr.out.up E.h)
    replace Hs := Lib.hid (Hs.out.up E.h)
    replace Ha := Lib.hid (Ha.out.up E.h)
    replace HK1 := Lib.hid (Kept.up HK1.out E.h)
    replace HB := hbu HB E.h
    replace HZS := sz HZS E.h.size
    obtain ⟨w11, hq9⟩ : ∃ W9 : World, E.w = W9 := ⟨_, rfl⟩
    rw [hq9] at Hr Hs Ha HK1 HB HZS ⊢
    clear hq9 E c1 c2 c3
    have c1 := Ha.out.cell (wlV_get M k (by rw [HAL.out]; exact hk8))
    have f12_a := Ha.out.frozen
    obtain ⟨w12, hq12, hg9, hz9, hx9⟩ := put1 Ha k (.int .u32 (u.toNat : Int)) _ rfl
    replace Hr := Lib.hid (Hr.out.grown hg9.out (sne (by have g0 := HZS.out; omega)))
    replace Hs := Lib.hid (Hs.out.grown hg9.out (sne (by have g0 := HZS.out; omega)))
    replace HK1 := Lib.hid (Kept.grown HK1.out hg9.out (fun q9 e9 => by obtain rfl := Option.some.inj e9; exact Or.inr (rfl)))
    replace HB := hbg HB hg9 (by have g0 := HZS.out; omega)
    replace HZS := sz HZS hz9.out
    replace Ha := hx9
    clear hx9 hg9 hz9
    replace Ha := Lib.hid Ha.out.wset
    go_wp2_with fail
    clear hq12 f12_a c1 g1 g2
    have HQ := Ha
    rw [← HSS.out] at HQ
    go_roundw
    case rel => exact ⟨k + 1, by omega, by go_num, HQ, HK1⟩
    case measure => simp [intOf]; omega
   ·have hk' : k = 8 := by omega
    subst hk'
    rw [HPE.out] at Ha
    have HR := Lib.hid (pressB_len h m n true)
    obtain ⟨R, hR⟩ : ∃ R, pressB h m n true = R := ⟨_, rfl⟩
    rw [hR] at Ha HR
    have HRE := Lib.hid hR
    clear hR
    have HRI := Lib.hid (show (Try.prog.info? 135).map (·.size) = some (wlV R).length by rw [wlV_len, HR.out]; exact info8)
    have HRZ := Lib.hid (show (wlV R).length = (wlV (zw 8)).length by rw [wlV_len, wlV_len, HR.out]; rfl)
    obtain ⟨w5, hq5, hg5, hz5, hr5⟩ := puts Hr 0 (wlV R) (wlV R) (putL_all _ _ HRZ.out)
    have HB5 := hbg HB hg5 (by omega)
    go_wp2_with (first | refine wpList_load_mid rfl 135 (.tmp 4) rfl w.heap.size 0 rfl (wlV R) _ Ha.out.range Try.underlying135 rfl HRI.out ?_ | refine wpList_store_mid rfl 135 (.tmp 8) (.tmp 58) rfl (w.heap.size + 2) 0 (wlV R).toArray rfl rfl (Hr.out.there (by simp [HRZ.out])) (by simpa using HRI.out) (all_oneCell_toArray (wl_one R)) ?_)
    rw [hq5]
    exact ret_arr Try.results128 hr5.out _ rfl Try.underlying135 rfl HRI.out rfl ⟨by rw [HRE.out], HB5.out⟩
 case false =>
  have HPV := Lib.hid (show V1 = preB h n false from (HPR.out false).symm)
  have HVL := Lib.hid (show (preB h n false).length = 16 by rw [← HPV.out]; exact HLV.out)
  rw [HPV.out] at Hv
  clear HPV HPR HLV
  go_upto_region 9 with (fail)
  clear c14
  have HVI := Lib.hid (show (Try.prog.info? 195).map (·.size) = some (wlV (preB h n false)).length by rw [wlV_len, HVL.out]; exact info16)
  have HSA := Lib.hid (fun w => Stir_any (preB h n false) m HVL.out HM.out w)
  have HSL := Lib.hid (stirB_len (preB h n false) m)
  have HPE := Lib.hid (show mixB h (stirB (preB h n false) m) 8 = pressB h m n false from rfl)
  generalize stirB (preB h n false) m = S at *
  generalize preB h n false = V at *
  go_wp2_with (first | refine wpList_load_mid rfl 195 (.tmp 9) rfl (w.heap.size + 3) 0 rfl (wlV V) _ Hv.out.range Try.underlying195 rfl HVI.out ?_ | refine wpList_load_mid rfl 195 (.tmp 5) rfl (w.heap.size + 1) 0 rfl (wlV m) _ Hb.out.range Try.underlying195 rfl HIM.out ?_)
  refine (HSA.out w7).mono ?_
  rintro e w8 ⟨rfl, hb9⟩
  replace Ha := Lib.hid (Ha.out.up hb9)
  replace Hb := Lib.hid (Hb.out.up hb9)
  replace Hr := Lib.hid (Hr.out.up hb9)
  replace Hv := Lib.hid (Hv.out.up hb9)
  replace HB := hbu HB hb9
  replace HZS := sz HZS hb9.size
  clear hb9
  have HIS := Lib.hid (show (Try.prog.info? 195).map (·.size) = some (wlV S).length by rw [wlV_len, HSL.out, HVL.out]; exact info16)
  have HZS2 := Lib.hid (show (wlV (zw 16)).length = (wlV S).length by rw [wlV_len, wlV_len, HSL.out, HVL.out]; rfl)
  go_upto_region 10 with (refine wpList_store_new rfl 195 195 (.tmp 11) (.tmp 40) rfl (wlV (zw 16)) (wlV S) rfl rfl HIS.out HZS2.out (wl_one S) ?_)
  clear HVI HSA HIM HZS2 HIS Hv Hb
  obtain ⟨w9, hq9, hb9, hz9, Hs⟩ := new1 w8 195 (wlV S)
  rw [hq9]
  clear hq9
  replace Ha := Lib.hid (Ha.out.up hb9)
  replace Hr := Lib.hid (Hr.out.up hb9)
  replace HB := hbu HB hb9
  replace HZS := sz HZS hz9.out
  clear hb9 hz9
  rw [show wlV h = wlV (mixB h S 0) by rw [mixB_zero h S HH.out]] at Ha
  clear hz hz8
  have HK := Lib.hid (Kept.refl (fun q9 => q9 = w.heap.size) w9)
  go_wp2_with fail
  clear hq7 f7_v hq6 f6_v
  go_loopw [41] (fun c wr => ∃ k : Nat, k ≤ 8 ∧ c = .int .i64 k ∧ Hid (Bx wr w.heap.size 135 (wlV (mixB h S k))) ∧ Hid (Kept (fun q9 => q9 = w.heap.size) w9 wr)) (fun c _ => 8 - (intOf c).toNat)
  case atStart => exact ⟨0, by omega, rfl, Ha, HK⟩
  case round =>
   obtain ⟨k, hk, rfl, HQ, HK1⟩ := hrel
   clear HK
   have hg9 := HK1.out
   clear Ha
   replace Hr := Lib.hid (Bx.keptP (P := fun q9 => q9 = w.heap.size) Hr.out hg9 (show ¬ (w.heap.size + 2 = w.heap.size) by have g0 := HZS.out; omega))
   replace Hs := Lib.hid (Bx.keptP (P := fun q9 => q9 = w.heap.size) Hs.out hg9 (show ¬ (w8.heap.size = w.heap.size) by have g0 := HZS.out; omega))
   replace HB := Lib.hid (Below.keptP HB.out hg9 (by have g0 := HZS.out; omega) (fun q9 h9 => (show w.heap.size ≤ _ by subst h9; have g0 := HZS.out; omega)))
   replace HZS := sz HZS (show w9.heap.size ≤ wr.heap.size from hg9.size)
   clear hg9
   have Ha := HQ
   clear HQ
   have HAL := Lib.hid (mixB_len h S k)
   by_cases hk8 : k < 8
   ·have hs := mixB_succ h S k
    have c1 := wl_cell Ha.out k (by rw [HAL.out]; exact hk8)
    have e1 : (mixB h S k).getD k 0 = h.getD k 0 := by
     show ((mixB h S k)[k]?).getD 0 = _
     rw [List.getElem?_eq_getElem (by rw [HAL.out]; exact hk8)]
     exact (mixB_at h S k k (by rw [HAL.out]; exact hk8)).trans (if_neg (by omega))
    rw [e1] at c1
    have c2 := wl_cell Hs.out k (by rw [HSL.out, HVL.out]; omega)
    have c3 := wl_cell Hs.out (k + 8) (by rw [HSL.out, HVL.out]; omega)
    generalize h.getD k 0 = x at *
    generalize S.getD k 0 = y at *
    generalize S.getD (k + 8) 0 = z at *
    have g1 := bits_xor y z
    obtain ⟨yz, e2⟩ : ∃ u, y ^^^ z = u := ⟨_, rfl⟩
    rw [e2] at g1
    have g2 := bits_xor x yz
    obtain ⟨u, e3⟩ : ∃ u, x ^^^ yz = u := ⟨_, rfl⟩
    rw [e3] at g2
    rw [show x ^^^ y ^^^ z = u by rw [← e3, ← e2, BitVec.xor_assoc]] at hs
    have HSS := Lib.hid hs
    clear hs e1 e2 e3
    generalize mixB h S k = M at *
    go_wp2_with fail
    refine wp_region_otail 13 (by kernel_rfl) (by kernel_rfl) ?_
    simp only [List.take_succ_cons, List.take_zero, List.drop_succ_cons, List.drop_zero]
    have hov_w_heap_size := fun (E : Over wr) o => E.cell (b := w.heap.size) o Ha.out.lt
    have hov_w8_heap_size := fun (E : Over wr) o => E.cell (b := w8.heap.size) o Hs.out.lt
    repeat (go_big_quiet_step (first | fail))
    all_goals (try unfold elV limbV)
    repeat (go_big_quiet_step (first | fail))
    all_goals (try unfold elV limbV)
    repeat (go_big_quiet_step (first | fail))
    all_goals (try unfold ciphV)
    refine wpQuiet_nil ?_
    rintro _ ⟨E, rfl⟩
    clear hov_w_heap_size hov_w8_heap_size
    replace Hr := Lib.hid (Hr.out.up E.h)
    replace Hs := Lib.hid (Hs.out.up E.h)
    replace Ha := Lib.hid (Ha.out.up E.h)
    replace HK1 := Lib.hid (Kept.up HK1.out E.h)
    replace HB := hbu HB E.h
    replace HZS := sz HZS E.h.size
    obtain ⟨w10, hq9⟩ : ∃ W9 : World, E.w = W9 := ⟨_, rfl⟩
    rw [hq9] at Hr Hs Ha HK1 HB HZS ⊢
    clear hq9 E c1 c2 c3
    have c1 := Ha.out.cell (wlV_get M k (by rw [HAL.out]; exact hk8))
    have f11_a := Ha.out.frozen
    obtain ⟨w11, hq11, hg9, hz9, hx9⟩ := put1 Ha k (.int .u32 (u.toNat : Int)) _ rfl
    replace Hr := Lib.hid (Hr.out.grown hg9.out (sne (by have g0 := HZS.out; omega)))
    replace Hs := Lib.hid (Hs.out.grown hg9.out (sne (by have g0 := HZS.out; omega)))
    replace HK1 := Lib.hid (Kept.grown HK1.out hg9.out (fun q9 e9 => by obtain rfl := Option.some.inj e9; exact Or.inr (rfl)))
    replace HB := hbg HB hg9 (by have g0 := HZS.out; omega)
    replace HZS := sz HZS hz9.out
    replace Ha := hx9
    clear hx9 hg9 hz9
    replace Ha := Lib.hid Ha.out.wset
    go_wp2_with fail
    clear hq11 f11_a c1 g1 g2
    have HQ := Ha
    rw [← HSS.out] at HQ
    go_roundw
    case rel => exact ⟨k + 1, by omega, by go_num, HQ, HK1⟩
    case measure => simp [intOf]; omega
   ·have hk' : k = 8 := by omega
    subst hk'
    rw [HPE.out] at Ha
    have HR := Lib.hid (pressB_len h m n false)
    obtain ⟨R, hR⟩ : ∃ R, pressB h m n false = R := ⟨_, rfl⟩
    rw [hR] at Ha HR
    have HRE := Lib.hid hR
    clear hR
    have HRI := Lib.hid (show (Try.prog.info? 135).map (·.size) = some (wlV R).length by rw [wlV_len, HR.out]; exact info8)
    have HRZ := Lib.hid (show (wlV R).length = (wlV (zw 8)).length by rw [wlV_len, wlV_len, HR.out]; rfl)
    obtain ⟨w5, hq5, hg5, hz5, hr5⟩ := puts Hr 0 (wlV R) (wlV R) (putL_all _ _ HRZ.out)
    have HB5 := hbg HB hg5 (by omega)
    go_wp2_with (first | refine wpList_load_mid rfl 135 (.tmp 4) rfl w.heap.size 0 rfl (wlV R) _ Ha.out.range Try.underlying135 rfl HRI.out ?_ | refine wpList_store_mid rfl 135 (.tmp 8) (.tmp 58) rfl (w.heap.size + 2) 0 (wlV R).toArray rfl rfl (Hr.out.there (by simp [HRZ.out])) (by simpa using HRI.out) (all_oneCell_toArray (wl_one R)) ?_)
    rw [hq5]
    exact ret_arr Try.results128 hr5.out _ rfl Try.underlying135 rfl HRI.out rfl ⟨by rw [HRE.out], HB5.out⟩
end Go.Proofs.Ytdlnnkbigeiilaa
namespace Go.Proofs.Ytdlnnkbigeiilaa
open Go.RowKit
end Go.Proofs.Ytdlnnkbigeiilaa
namespace Go.Proofs.Ytdlnnkbigeiilaa
open Go.RowKit Go.Lib
def foldC (h : WL) (n : Nat) (hb : List UInt8) (k : Nat) : List Value := wlV h ++ ([.int .u64 (n : Int)] ++ (byteCells hb ++ [.int .i64 (k : Int)]))
section
variable {h : WL} {n k : Nat} {hb : List UInt8}
theorem foldC_len (hh : h.length = 8) (hl : hb.length = 64) : (foldC h n hb k).length = 74 := by
 unfold foldC; simp [wlV_len, hh, hl, byteCells_length]
theorem foldC_n (hh : h.length = 8) : (foldC h n hb k)[8]? = some (.int .u64 (n : Int)) := by
 unfold foldC
 rw [List.getElem?_append_right (by rw [wlV_len, hh]; exact Nat.le_refl _), wlV_len, hh]
 rfl
theorem foldC_k (hh : h.length = 8) (hl : hb.length = 64) : (foldC h n hb k)[73]? = some (.int .i64 (k : Int)) := by
 unfold foldC
 rw [List.getElem?_append_right (by rw [wlV_len, hh]; decide), wlV_len, hh, List.getElem?_append_right (by simp), List.getElem?_append_right (by rw [byteCells_length, hl]; simp), byteCells_length, hl]
 rfl
theorem foldC_setn (hh : h.length = 8) (m : Nat) : (foldC h n hb k).set 8 (.int .u64 (m : Int)) = foldC h m hb k := by
 unfold foldC
 rw [List.set_append_right _ _ (by rw [wlV_len, hh]; exact Nat.le_refl _), wlV_len, hh]
 rfl
theorem foldC_setk (hh : h.length = 8) (hl : hb.length = 64) (m : Nat) : (foldC h n hb k).set 73 (.int .i64 (m : Int)) = foldC h n hb m := by
 unfold foldC
 rw [List.set_append_right _ _ (by rw [wlV_len, hh]; decide), wlV_len, hh, List.set_append_right _ _ (by simp), List.set_append_right _ _ (by rw [byteCells_length, hl]; simp), byteCells_length, hl]
 rfl
theorem foldC_puth (hh : h.length = 8) (h' : WL) (hh' : h'.length = 8) : putL (foldC h n hb k) 0 (wlV h') = foldC h' n hb k := by
 rw [putL_eq _ _ _ (by unfold foldC; simp [wlV_len, hh, hh']), List.take_zero, List.nil_append, wlV_len, hh', Nat.zero_add]
 unfold foldC
 rw [List.drop_append_of_le_length (by rw [wlV_len, hh]; exact Nat.le_refl _), List.drop_eq_nil_of_le (by rw [wlV_len, hh]; exact Nat.le_refl _), List.nil_append]
theorem byteCells_app (a b : List UInt8) : byteCells (a ++ b) = byteCells a ++ byteCells b := by unfold byteCells; rw [List.map_append]
theorem byteCells_take (a : List UInt8) (j : Nat) : byteCells (a.take j) = (byteCells a).take j := by unfold byteCells; rw [List.map_take]
theorem byteCells_drop (a : List UInt8) (j : Nat) : byteCells (a.drop j) = (byteCells a).drop j := by unfold byteCells; rw [List.map_drop]
theorem foldC_putb (hh : h.length = 8) (hl : hb.length = 64) (j : Nat) (t : List UInt8) (ht : j + t.length ≤ 64) : putL (foldC h n hb k) (9 + j) (byteCells t) = foldC h n (hb.take j ++ t ++ hb.drop (j + t.length)) k := by
 have hw : (wlV h).length = 8 := by rw [wlV_len, hh]
 have hc : (byteCells hb).length = 64 := by rw [byteCells_length, hl]
 rw [putL_eq _ _ _ (by rw [foldC_len hh hl, byteCells_length]; omega), byteCells_length]
 unfold foldC
 rw [byteCells_app, byteCells_app, byteCells_take, byteCells_drop]
 generalize wlV h = H at *
 generalize byteCells hb = X at *
 generalize byteCells t = Y at *
 have e1 : (H ++ ([Value.int .u64 (n : Int)] ++ (X ++ [Value.int .i64 (k : Int)]))).take (9 + j) = H ++ ([.int .u64 (n : Int)] ++ X.take j) := by
  rw [List.take_append, List.take_of_length_le (by omega), hw, show 9 + j - 8 = j + 1 by omega, List.take_append, List.take_of_length_le (by simp), List.length_singleton, show j + 1 - 1 = j by omega, List.take_append_of_le_length (by omega)]
 have e2 : (H ++ ([Value.int .u64 (n : Int)] ++ (X ++ [Value.int .i64 (k : Int)]))).drop (9 + j + t.length) = X.drop (j + t.length) ++ [Value.int .i64 (k : Int)] := by
  rw [List.drop_append, List.drop_eq_nil_of_le (by omega), List.nil_append, hw, show 9 + j + t.length - 8 = j + t.length + 1 by omega, List.drop_append, List.drop_eq_nil_of_le (by simp), List.nil_append, List.length_singleton, show j + t.length + 1 - 1 = j + t.length by omega, List.drop_append_of_le_length (by omega)]
 rw [e1, e2]
 simp
theorem foldC_h {W : World} {b : Nat} {t : TypeId} (hx : Bx W b t (foldC h n hb k)) : W.rangeAt b 0 (wlV h) := hx.part (as1 := []) rfl
theorem foldC_b {W : World} {b : Nat} {t : TypeId} (hh : h.length = 8) (hx : Bx W b t (foldC h n hb k)) : W.rangeAt b 9 (byteCells hb) :=
 Bx.part (as1 := wlV h ++ [.int .u64 (n : Int)]) (bs := [.int .i64 (k : Int)]) (by unfold foldC at hx; simpa using hx) (by simp [wlV_len, hh])
end
def FoldAt (W : World) (b : Nat) (s : List UInt8) : Prop := ∃ h n hb k, Bx W b 138 (foldC h n hb k) ∧ h.length = 8 ∧ Fold s h n hb k ∧ (s = [] ∨ 0 < k)
end Go.Proofs.Ytdlnnkbigeiilaa
namespace Go.Proofs.Ytdlnnkbigeiilaa
open Go.RowKit Go.Lib
theorem info64 : (Try.prog.info? 136).map (·.size) = some 64 := by kernel_rfl
theorem infoB : (Try.prog.info? 5).map (·.size) = some 1 := by kernel_rfl
theorem byte_cell (l : List UInt8) (i : Nat) (h : i < l.length) : (byteCells l)[i]? = some (.int .u8 ((l.getD i 0).toNat : Int)) := by unfold byteCells; simp [List.getD, h]
theorem word_or (l : List UInt8) (k : Nat) (h64 : k < 64) : bits BinOp.or IntKind.u32 ((((wordsB l k).getD (k / 4) 0).toNat : Nat) : Int) (((l.getD k 0).toNat * 256 ^ (k % 4) : Nat) : Int) = (((wordsB l k).getD (k / 4) 0 + BitVec.ofNat 32 ((l.getD k 0).toNat * 256 ^ (k % 4))).toNat : Int) := by
 rw [wordsB_get _ _ _ (by omega)]
 have hb := (l.getD k 0).toNat_lt
 have hr : k % 4 = 0 ∨ k % 4 = 1 ∨ k % 4 = 2 ∨ k % 4 = 3 := by omega
 have h0 := byteW_lt l k (4 * (k / 4))
 have h1 := byteW_lt l k (4 * (k / 4) + 1)
 have h2 := byteW_lt l k (4 * (k / 4) + 2)
 have hz : ∀ j, k ≤ j → byteW l k j = 0 := fun j hj => by unfold byteW; rw [if_neg (by omega)]
 have hlt : (wordB l k (k / 4)).toNat < 256 ^ (k % 4) := by
  unfold wordB
  rw [BitVec.toNat_ofNat]
  rcases hr with hr | hr | hr | hr
  ·rw [hr, hz _ (by omega), hz _ (by omega), hz _ (by omega), hz _ (by omega)]; decide
  ·rw [hr, hz (4 * (k / 4) + 1) (by omega), hz (4 * (k / 4) + 2) (by omega), hz (4 * (k / 4) + 3) (by omega)]
   simp only [Nat.reducePow]; omega
  ·rw [hr, hz (4 * (k / 4) + 2) (by omega), hz (4 * (k / 4) + 3) (by omega)]
   simp only [Nat.reducePow]; omega
  ·rw [hr, hz (4 * (k / 4) + 3) (by omega)]
   simp only [Nat.reducePow]; omega
 generalize wordB l k (k / 4) = W at *
 generalize (l.getD k 0).toNat = c at *
 have hc : c * 256 ^ (k % 4) < 4294967296 := by rcases hr with hr | hr | hr | hr <;> rw [hr] <;> simp only [Nat.reducePow] <;> omega
 have hW := W.isLt
 rw [bits_or _ _ hW hc, BitVec.toNat_add, BitVec.toNat_ofNat, Nat.mod_eq_of_lt hc]
 have e : W.toNat ||| c * 256 ^ (k % 4) = W.toNat + c * 256 ^ (k % 4) := by
  rw [show 256 ^ (k % 4) = 2 ^ (8 * (k % 4)) by rw [Nat.pow_mul], Nat.or_comm, ← Nat.shiftLeft_eq, ← Nat.shiftLeft_add_eq_or_of_lt (by rwa [Nat.pow_mul]), Nat.add_comm]
 rw [e, Nat.mod_eq_of_lt (a := W.toNat + c * 256 ^ (k % 4))]
 rcases hr with hr | hr | hr | hr <;> rw [hr] at hlt ⊢ <;> simp only [Nat.reducePow] at * <;> omega
theorem word_or2 (l : List UInt8) (k : Nat) (h64 : k < 64) : bits BinOp.or IntKind.u32 (((wordsB l k).getD (k / 4) 0).toNat : Int) (((l.getD k 0).toNat : Int) * 2 ^ (8 * (k % 4)) % 4294967296) = (((wordsB l k).getD (k / 4) 0 + BitVec.ofNat 32 ((l.getD k 0).toNat * 256 ^ (k % 4))).toNat : Int) := by
 rw [← word_or l k h64]
 congr 1
 have hb := (l.getD k 0).toNat_lt
 have hr : k % 4 = 0 ∨ k % 4 = 1 ∨ k % 4 = 2 ∨ k % 4 = 3 := by omega
 generalize (l.getD k 0).toNat = c at *
 rcases hr with hr | hr | hr | hr <;> rw [hr] <;> simp <;> omega
theorem words_any (h : WL) (n : Nat) (hb : List UInt8) (k : Nat) (hh : h.length = 8) (hl : hb.length = 64) (b : Nat) (w : World) (hx : Bx w b 138 (foldC h n hb k)) :
  Calls Try.prog 129 #[.pointer (some ⟨b, 0, none⟩)] w fun e w' => e = .returned (.agg (wlV (wordsB hb 64)).toArray) ∧ Below w.heap.size w w' := by
 have HL := Lib.hid hl
 have HI := Lib.hid (show (Try.prog.info? 136).map (·.size) = some (byteCells hb).length by rw [byteCells_length, hl]; exact info64)
 have hz : (#[.int .u32 0, .int .u32 0, .int .u32 0, .int .u32 0, .int .u32 0, .int .u32 0, .int .u32 0, .int .u32 0, .int .u32 0, .int .u32 0, .int .u32 0, .int .u32 0, .int .u32 0, .int .u32 0, .int .u32 0, .int .u32 0] : Array Value) = (wlV (wordsB hb 0)).toArray := by rw [wordsB_zero]; rfl
 have HH := Lib.hid hh
 have Hf := Lib.hid hx
 clear hl hh hx
 go_enter Try.func129, Try.ntmps129
 go_upto_region 1 with (fail)
 obtain ⟨w1, hq1, hb9, hz9, Hr⟩ := new1 w 195 (wlV (wordsB hb 0))
 rw [hq1]
 clear hq1
 replace Hf := Lib.hid (Hf.out.up hb9)
 have HB := Lib.hid hb9
 have HZS := hz9
 clear hb9 hz9
 go_wp2_with (refine wpList_load_mid rfl 136 (.tmp 7) rfl b 9 rfl (byteCells hb) _ (foldC_b HH.out Hf.out) Try.underlying136 rfl HI.out ?_)
 clear hz HI Hf
 have HK := Lib.hid (Kept.refl (fun q9 => q9 = w.heap.size) w1)
 go_loopw [9] (fun c wr => ∃ j : Nat, j ≤ 64 ∧ c = .int .i64 j ∧ Hid (Bx wr w.heap.size 195 (wlV (wordsB hb j))) ∧ Hid (Below w.heap.size w wr)) (fun c _ => 64 - (RowKit.intOf c).toNat)
 case atStart => exact ⟨0, by omega, rfl, Hr, HB⟩
 case round =>
  obtain ⟨j, hj, rfl, HQ, HB2⟩ := hrel
  clear HK HB Hr
  have HB := HB2
  have Hr := HQ
  clear HB2 HQ
  have HWL := Lib.hid (wordsB_len hb j)
  by_cases hj6 : j < 64
  ·have hix := fun W => run_index_arr (P := Try.prog) W 136 5 .u8 64 (byteCells hb) j _ (byte_cell hb j (by rw [HL.out]; exact hj6)) Try.underlying136 (by rw [byteCells_length, HL.out]) infoB Try.underlying5
   have hs := wordsB_succ hb j hj6
   have ho := word_or2 hb j hj6
   have c1 := wl_cell Hr.out (j / 4) (by rw [HWL.out]; omega)
   have a1 : (0 : Int) ≤ ((j / 4 : Nat) : Int) := by omega
   have a2 : ((j / 4 : Nat) : Int) < 16 := by omega
   obtain ⟨Z, hZ⟩ : ∃ Z, (wordsB hb j).getD (j / 4) 0 + BitVec.ofNat 32 ((hb.getD j 0).toNat * 256 ^ (j % 4)) = Z := ⟨_, rfl⟩
   rw [hZ] at ho hs
   have HS := Lib.hid hs
   clear hs hZ
   generalize hb.getD j 0 = cb at *
   generalize (wordsB hb j).getD (j / 4) 0 = X at *
   have hcb := cb.toNat_lt
   have a3 : (0 : Int) ≤ 8 * ((j : Int) % 4) := by omega
   have a4 : 8 * ((j : Int) % 4) ≤ 24 := by omega
   go_wp2_with fail
   refine wp_region_otail 12 (by kernel_rfl) (by kernel_rfl) ?_
   simp only [List.take_succ_cons, List.take_zero, List.drop_succ_cons, List.drop_zero]
   have hov_w_heap_size := fun (E : Over wr) o => E.cell (b := w.heap.size) o Hr.out.lt
   repeat (go_big_quiet_step (first | fail))
   all_goals (try unfold elV limbV)
   repeat (go_big_quiet_step (first | fail))
   all_goals (try unfold elV limbV)
   repeat (go_big_quiet_step (first | fail))
   all_goals (try unfold ciphV)
   refine wpQuiet_nil ?_
   rintro _ ⟨E, rfl⟩
   clear hov_w_heap_size
   replace Hr := Lib.hid (Hr.out.up E.h)
   replace HB := hbu HB E.h
   replace HZS := sz HZS E.h.size
   obtain ⟨w2, hq9⟩ : ∃ W9 : World, E.w = W9 := ⟨_, rfl⟩
   rw [hq9] at Hr HB HZS ⊢
   clear hq9 E c1
   have c1 := Hr.out.cell (wlV_get (wordsB hb j) (j / 4) (by rw [HWL.out]; omega))
   have f3_r := Hr.out.frozen
   obtain ⟨w3, hq3, hg9, hz9, hx9⟩ := put1 Hr (j / 4) (.int .u32 (Z.toNat : Int)) _ rfl
   replace HB := hbg HB hg9 (by have g0 := HZS.out; omega)
   replace HZS := sz HZS hz9.out
   replace Hr := hx9
   clear hx9 hg9 hz9
   replace Hr := Lib.hid Hr.out.wset
   rw [← HS.out] at Hr
   go_wp2_with fail
   clear hq3 f3_r c1 ho hix
   go_roundw
   case rel => exact ⟨j + 1, by omega, by go_num, Hr, HB⟩
   case measure => simp [RowKit.intOf]; omega
  ·have hj' : j = 64 := by omega
   subst hj'
   have HWI := Lib.hid (show (Try.prog.info? 195).map (·.size) = some (wlV (wordsB hb 64)).length by rw [wlV_len, HWL.out]; exact info16)
   obtain ⟨V, hV⟩ : ∃ V, wordsB hb 64 = V := ⟨_, rfl⟩
   rw [hV] at Hr HWI HWL
   have HVE := Lib.hid hV
   clear hV
   obtain ⟨w5, hq5, hg5, hz5, hr5⟩ := puts Hr 0 (wlV V) (wlV V) (putL_all _ _ rfl)
   have HB5 := hbg HB hg5 (by omega)
   go_wp2_with (first | refine wpList_load_mid rfl 195 (.tmp 2) rfl w.heap.size 0 rfl (wlV V) _ Hr.out.range Try.underlying195 rfl HWI.out ?_ | refine wpList_store_mid rfl 195 (.tmp 2) (.tmp 26) rfl w.heap.size 0 (wlV V).toArray rfl rfl (Hr.out.there (by simp)) (by simpa using HWI.out) (all_oneCell_toArray (wl_one V)) ?_)
   rw [hq5]
   exact ret_arr Try.results129 hr5.out _ rfl Try.underlying195 rfl HWI.out rfl ⟨by rw [HVE.out], HB5.out⟩
end Go.Proofs.Ytdlnnkbigeiilaa
namespace Go.Proofs.Ytdlnnkbigeiilaa
open Go.RowKit Go.Lib
def z64 : List UInt8 := List.replicate 64 0
def begC (h : WL) : List Value := foldC h 0 z64 0
theorem infoF : (Try.prog.info? 138).map (·.size) = some 74 := by kernel_rfl
theorem foldC_one (h : WL) (n : Nat) (hb : List UInt8) (k : Nat) : ∀ v ∈ foldC h n hb k, v.oneCell' = true := fun v hv => by
 unfold foldC at hv
 simp only [List.mem_append, List.mem_singleton] at hv
 rcases hv with hv | rfl | hv | rfl
 ·exact wl_one h v hv
 ·rfl
 ·exact byteCells_one hb v hv
 ·rfl
theorem begin_any (w : World) : Calls Try.prog 79 #[.string ⟨#[]⟩] w fun e w' => e = .returned (.agg (foldC h0B 0 z64 0).toArray) ∧ Below w.heap.size w w' := by
 have HI := Lib.hid (show (Try.prog.info? 138).map (·.size) = some (begC startV).length from infoF)
 have HZ := Lib.hid (show (begC (zw 8)).length = (begC startV).length from rfl)
 go_enter Try.func79, Try.ntmps79
 go_upto_region 1 with (fail)
 have hz0 : Try.zeroCells138 = (begC (zw 8)).toArray := by kernel_rfl
 rw [hz0]
 have hs : (wlV startV).toArray = #[.int .u32 1779033703, .int .u32 3144134277, .int .u32 1013904242, .int .u32 2773480762, .int .u32 1359893119, .int .u32 2600822924, .int .u32 528734635, .int .u32 1541459225] := rfl
 obtain ⟨w1, hq1, hb9, hz9, Hr⟩ := new1 w 138 (begC (zw 8))
 rw [hq1]
 clear hq1
 have HB := Lib.hid hb9
 have HZS := hz9
 clear hb9 hz9
 go_wp2_with fail
 refine (start_any w1).mono ?_
 rintro e w2 ⟨rfl, hb9⟩
 replace Hr := Lib.hid (Hr.out.up hb9)
 replace HB := hbu HB hb9
 replace HZS := sz HZS hb9.size
 clear hb9
 have hln : (begC (zw 8)).length = 74 := rfl
 rw [hs]
 go_upto_region 2 with (refine wpList_store_new rfl 138 138 (.tmp 3) (.tmp 5) rfl (begC (zw 8)) (begC startV) rfl rfl HI.out HZ.out (foldC_one _ _ _ _) ?_)
 obtain ⟨w3, hq3, hb9, hz9, Hf⟩ := new1 w2 138 (begC startV)
 rw [hq3]
 clear hq3
 replace Hr := Lib.hid (Hr.out.up hb9)
 replace HB := hbu HB hb9
 replace HZS := sz HZS hz9.out
 clear hb9 hz9 hs hln
 have c0 : w3.cell? ⟨w2.heap.size, 0, none⟩ = some (.int .u32 1779033703) := Hf.out.cell rfl
 have hx0 : bits BinOp.xor IntKind.u32 1779033703 16842784 = 1795745351 := by decide
 have f4_f := Hf.out.frozen
 obtain ⟨w4, hq4, hg9, hz9, hx9⟩ := put1 Hf 0 (.int .u32 1795745351) _ rfl
 replace Hr := Lib.hid (Hr.out.grown hg9.out (sne (by have g0 := HZS.out; omega)))
 replace HB := hbg HB hg9 (by have g0 := HZS.out; omega)
 replace HZS := sz HZS hz9.out
 replace Hf := hx9
 clear hx9 hg9 hz9
 replace Hf := Lib.hid (show Bx w4 w2.heap.size 138 (foldC h0B 0 z64 0) from Hf.out)
 have HI2 := Lib.hid (show (Try.prog.info? 138).map (·.size) = some (foldC h0B 0 z64 0).length from infoF)
 obtain ⟨w5, hq5, hg5, hz5, hr5⟩ := puts Hr 0 (foldC h0B 0 z64 0) (foldC h0B 0 z64 0) (putL_all _ _ rfl)
 have HB5 := hbg HB hg5 (by omega)
 go_wp2_with (first | refine wpList_load_mid rfl 138 (.tmp 3) rfl w2.heap.size 0 rfl (foldC h0B 0 z64 0) _ Hf.out.range Try.underlying138 rfl HI2.out ?_ | refine wpList_store_mid rfl 138 (.tmp 2) (.tmp 25) rfl w.heap.size 0 (foldC h0B 0 z64 0).toArray rfl rfl (Hr.out.there (by simp; decide)) (by simpa using HI2.out) (all_oneCell_toArray (foldC_one _ _ _ _)) ?_)
 rw [hq5]
 exact ret_arr Try.results79 hr5.out _ rfl Try.underlying138 rfl HI2.out rfl ⟨rfl, HB5.out⟩
theorem byte_int (m : Nat) : (((UInt8.ofNat (m % 256)).toNat : Nat) : Int) = (m : Int) % 256 := by
 rw [UInt8.toNat_ofNat_of_lt' (by have := Nat.mod_lt m (show 0 < 256 by decide); exact this)]; omega
theorem four_any (n : Nat) (hn : n < 9223372036854775808) (w : World) : Calls Try.prog 81 #[.int .i64 (n : Int)] w fun e w' => e = .returned (.string (fourS n)) ∧ Below w.heap.size w w' := by
 go_enter Try.func81, Try.ntmps81
 obtain ⟨w1, hq1, hb9, hz9, Hr⟩ := new1 w 5 [.int .u8 ((n : Int) / 16777216 % 256), .int .u8 ((n : Int) / 65536 % 256), .int .u8 ((n : Int) / 256 % 256), .int .u8 ((n : Int) % 256)]
 have HB := Lib.hid hb9
 have HZS := hz9
 clear hb9 hz9
 have r_ := Hr.out.c4
 have hcv := run_convert_bytes_arg (P := Try.prog) w1 82 5 Try.underlying82 Try.underlying5 w.heap.size 0 4 4 [(n : Int) / 16777216 % 256, (n : Int) / 65536 % 256, (n : Int) / 256 % 256, (n : Int) % 256] rfl (fun i hi => by
  rcases (show i = 0 ∨ i = 1 ∨ i = 2 ∨ i = 3 by omega) with rfl | rfl | rfl | rfl
  ·exact Hr.out.cell (i := 0) rfl
  ·exact Hr.out.cell (i := 1) rfl
  ·exact Hr.out.cell (i := 2) rfl
  ·exact Hr.out.cell (i := 3) rfl) 9 Try.underlying9
 go_wp2_with fail
 clear hq1
 go_ret
 exact ⟨rfl, HB.out⟩
end Go.Proofs.Ytdlnnkbigeiilaa
namespace Go.Proofs.Ytdlnnkbigeiilaa
open Go.RowKit Go.Lib
theorem bytesOf_len (x : ByteArray) : (bytesOf x).length = x.size := by unfold bytesOf; rw [Array.length_toList]; rfl
def strLen : Value → Nat
 | .string y => y.size
 | _ => 0
theorem foldC_lay {h : WL} {n k : Nat} {hb : List UInt8} (hh : h.length = 8) (hl : hb.length = 64) (j : Nat) (y : ByteArray) (m : Nat) (hm : ((bytesOf y).take (64 - j)).length = m) (hj : j + m ≤ 64) : putL (foldC h n hb k) (9 + j) ((byteCells y.data.toList).take (64 - j)) = foldC h n (hb.take j ++ (bytesOf y).take (64 - j) ++ hb.drop (j + m)) k := by
 subst hm
 rw [← byteCells_take]
 exact foldC_putb hh hl j ((bytesOf y).take (64 - j)) hj
theorem bytesOf_drop (y : ByteArray) (m : Nat) : bytesOf (y.extract m y.size) = (bytesOf y).drop m := Lib.extract_to_end y m
theorem take_min (y : ByteArray) (m k : Nat) (h : Nat.min y.size k = m) : (bytesOf y).take k = (bytesOf y).take m := by
 rw [← h, List.take_eq_take_iff, bytesOf_len]
 show min k y.size = min (min y.size k) y.size
 omega
theorem take_any (b : Nat) (s : List UInt8) (x : ByteArray) (hsz : s.length + x.size < 4611686018427387904) (w : World) (hF : FoldAt w b s) :
  Calls Try.prog 80 #[.pointer (some ⟨b, 0, none⟩), .string x] w fun e w' => e = .returned (.tuple #[]) ∧ FoldAt w' b (s ++ bytesOf x) ∧ Kept (fun q => q = b) w w' := by
 have HF0 := Lib.hid hF
 have HSZ := Lib.hid hsz
 clear hF hsz
 go_enter Try.func80, Try.ntmps80
 go_wp2_with fail
 go_loopw [1] (fun c wr => ∃ (y : ByteArray) (t : List UInt8), c = .string y ∧ Hid (t ++ bytesOf y = bytesOf x) ∧ Hid (FoldAt wr b (s ++ t)) ∧ Hid (Kept (fun q9 => q9 = b) w wr)) (fun c _ => strLen c)
 case atStart => exact ⟨x, [], rfl, rfl, by rw [List.append_nil]; exact HF0, Lib.hid (Kept.refl _ _)⟩
 case round =>
  obtain ⟨y, t, rfl, HT, HQ, HK⟩ := hrel
  clear HF0
  by_cases hy : 0 < y.size
  ·obtain ⟨h, n, hb, k, hx, hh, hf, h0⟩ := HQ.out
   have Hf := Lib.hid hx
   clear hx h0 HQ
   have hn : n < 4611686018427387904 := by
    have h1 := hf.sum
    have h2 := congrArg List.length HT.out
    have h3 := HSZ.out
    rw [List.length_append] at h1 h2
    rw [bytesOf_len, bytesOf_len] at h2
    omega
   by_cases hk : k = 64
   ·have hke : ((k : Int) == 64) = true := by rw [hk]; rfl
    have HL8 := Lib.hid hh
    have HHB := Lib.hid hf.len
    have HPR := Lib.hid (show Fold (s ++ t) (pressB h (wordsB hb 64) (n + 64) false) (n + 64) hb 0 from (hk ▸ hf).press)
    have HRL := Lib.hid (pressB_len h (wordsB hb 64) (n + 64) false)
    clear hh hf hk
    have c73 := Hf.out.cell (foldC_k HL8.out HHB.out)
    have c8 := Hf.out.cell (foldC_n HL8.out)
    have f1_f := Hf.out.frozen
    obtain ⟨w1, hq1, hg9, hz9, hx9⟩ := put1 Hf 8 (.int .u64 ((n : Int) + 64)) _ rfl
    replace HK := Lib.hid (Kept.grown HK.out hg9.out (fun q9 e9 => by obtain rfl := Option.some.inj e9; exact Or.inr (rfl)))
    have HZS := hz9
    replace Hf := hx9
    clear hx9 hg9 hz9
    go_wp2_with fail
    clear hq1 f1_f c73 c8
    have Hf2 := Lib.hid (show Bx w1 b 138 (foldC h (n + 64) hb k) from by have h9 := Hf.out; rwa [show ((n : Int) + 64) = ((n + 64 : Nat) : Int) from by omega, foldC_setn HL8.out] at h9)
    clear Hf
    have Hf := Hf2
    clear Hf2
    have hN : n + 64 < 18446744073709551616 := by omega
    have hN2 : n + 64 < 4611686018427387904 + 64 := by omega
    generalize n + 64 = N at *
    have c8 := Hf.out.cell (foldC_n HL8.out)
    have HPC := Lib.hid (fun w => Press_any h (wordsB hb 64) HL8.out (wordsB_len _ _) N hN false w)
    have HWC := Lib.hid (fun w hx => words_any h N hb k HL8.out HHB.out b w hx)
    have HI8 := Lib.hid (show (Try.prog.info? 135).map (·.size) = some (wlV h).length by rw [wlV_len, HL8.out]; exact info8)
    obtain ⟨R, hR⟩ : ∃ R, pressB h (wordsB hb 64) N false = R := ⟨_, rfl⟩
    rw [hR] at HPR HRL HPC
    clear hR
    generalize wordsB hb 64 = M at *
    refine wp_region_otail 14 (by kernel_rfl) (by kernel_rfl) ?_
    simp only [List.take_succ_cons, List.take_zero, List.drop_succ_cons, List.drop_zero]
    have hov_b := fun (E : Over w1) o => E.cell (b := b) o Hf.out.lt
    repeat (first | (refine wpQuiet_load rfl 135 (.tmp 23) rfl b 0 rfl (wlV h) _ (fun _ ⟨E, e⟩ => e ▸ foldC_h (Hf.out.up E.h)) Try.underlying135 rfl HI8.out ?_; simp only [Act.put, List.setIfInBounds_toArray, List.set_cons_succ, List.set_cons_zero]) | go_big_quiet_step (first | (go_at_call 129; exact calls_over (HWC.out _ (Hf.out.up (Over.h _)))) | (go_at_call 128; exact calls_over (HPC.out _))))
    all_goals (try unfold elV limbV)
    repeat (first | (refine wpQuiet_load rfl 135 (.tmp 23) rfl b 0 rfl (wlV h) _ (fun _ ⟨E, e⟩ => e ▸ foldC_h (Hf.out.up E.h)) Try.underlying135 rfl HI8.out ?_; simp only [Act.put, List.setIfInBounds_toArray, List.set_cons_succ, List.set_cons_zero]) | go_big_quiet_step (first | (go_at_call 129; exact calls_over (HWC.out _ (Hf.out.up (Over.h _)))) | (go_at_call 128; exact calls_over (HPC.out _))))
    all_goals (try unfold elV limbV)
    repeat (first | (refine wpQuiet_load rfl 135 (.tmp 23) rfl b 0 rfl (wlV h) _ (fun _ ⟨E, e⟩ => e ▸ foldC_h (Hf.out.up E.h)) Try.underlying135 rfl HI8.out ?_; simp only [Act.put, List.setIfInBounds_toArray, List.set_cons_succ, List.set_cons_zero]) | go_big_quiet_step (first | (go_at_call 129; exact calls_over (HWC.out _ (Hf.out.up (Over.h _)))) | (go_at_call 128; exact calls_over (HPC.out _))))
    all_goals (try unfold ciphV)
    refine wpQuiet_nil ?_
    rintro _ ⟨E, rfl⟩
    clear hov_b
    replace Hf := Lib.hid (Hf.out.up E.h)
    replace HK := Lib.hid (Kept.up HK.out E.h)
    replace HZS := sz HZS E.h.size
    obtain ⟨w2, hq9⟩ : ∃ W9 : World, E.w = W9 := ⟨_, rfl⟩
    rw [hq9] at Hf HK HZS ⊢
    clear hq9 E c8 HPC HWC HI8
    have HRI := Lib.hid (show (Try.prog.info? 135).map (·.size) = some (wlV R).length by rw [wlV_len, HRL.out]; exact info8)
    obtain ⟨w5, hq5, hg9, hz9, hx9⟩ := puts Hf 0 (wlV R) _ (foldC_puth HL8.out R HRL.out)
    refine wpList_store_mid rfl 135 (.tmp 33) (.tmp 31) rfl b 0 (wlV R).toArray rfl rfl (Hf.out.there (by rw [foldC_len HL8.out HHB.out, List.size_toArray, wlV_len, HRL.out]; decide)) (by simpa using HRI.out) (all_oneCell_toArray (wl_one R)) ?_
    rw [List.toList_toArray, hq5]
    replace HK := Lib.hid (Kept.grown HK.out hg9.out (fun q9 e9 => by obtain rfl := Option.some.inj e9; exact Or.inr (rfl)))
    replace HZS := sz HZS hz9.out
    replace Hf := hx9
    clear hx9 hg9 hz9 HL8 hq5
    have c73 := Hf.out.cell (foldC_k HRL.out HHB.out)
    have f3_f := Hf.out.frozen
    obtain ⟨w3, hq3, hg9, hz9, hx9⟩ := put1 Hf 73 (.int .i64 0) _ rfl
    replace HK := Lib.hid (Kept.grown HK.out hg9.out (fun q9 e9 => by obtain rfl := Option.some.inj e9; exact Or.inr (rfl)))
    replace HZS := sz HZS hz9.out
    replace Hf := hx9
    clear hx9 hg9 hz9
    go_upto_region 5 with (fail)
    clear c73
    have Hf2 := Lib.hid (show Bx w3 b 138 (foldC R N hb 0) from by have h9 := Hf.out; rwa [show (0 : Int) = ((0 : Nat) : Int) from rfl, foldC_setk HRL.out HHB.out] at h9)
    clear Hf hke
    have Hf := Hf2
    clear Hf2
    have hh := HRL.out
    have hf := HPR.out
    clear HPR HHB HRL HRI
    obtain ⟨z, hz0⟩ : ∃ z : Nat, z = 0 := ⟨0, rfl⟩
    rw [← hz0] at Hf hf
    have hk6 : z < 64 := by omega
    clear hz0
    have HL8 := Lib.hid hh
    have HF := Lib.hid hf
    have HHB := Lib.hid hf.len
    clear hh hf
    have c73 := Hf.out.cell (foldC_k HL8.out HHB.out)
    have k1 : (0 : Int) ≤ (z : Int) := by omega
    have k2 : (z : Int) ≤ 64 := by omega
    go_wp2_with fail
    clear hq3 f3_f
    refine wp_region_otail 9 (by kernel_rfl) (by kernel_rfl) ?_
    simp only [List.take_succ_cons, List.take_zero, List.drop_succ_cons, List.drop_zero]
    have hov_b := fun (E : Over w3) o => E.cell (b := b) o Hf.out.lt
    repeat (go_big_quiet_step (first | fail))
    all_goals (try unfold elV limbV)
    repeat (go_big_quiet_step (first | fail))
    all_goals (try unfold elV limbV)
    repeat (go_big_quiet_step (first | fail))
    all_goals (try unfold ciphV)
    refine wpQuiet_nil ?_
    rintro _ ⟨E, rfl⟩
    clear hov_b
    replace Hf := Lib.hid (Hf.out.up E.h)
    replace HK := Lib.hid (Kept.up HK.out E.h)
    replace HZS := sz HZS E.h.size
    obtain ⟨w4, hq9⟩ : ∃ W9 : World, E.w = W9 := ⟨_, rfl⟩
    rw [hq9] at Hf HK HZS ⊢
    clear hq9 E c73 k1 k2
    obtain ⟨m, hm⟩ : ∃ m, Nat.min y.size (64 - z) = m := ⟨_, rfl⟩
    have hm1 : m ≤ y.size := hm ▸ Nat.min_le_left _ _
    have hm2 : m ≤ 64 - z := hm ▸ Nat.min_le_right _ _
    have hm3 : 0 < m := by rw [← hm]; exact Nat.lt_min.2 ⟨hy, by omega⟩
    have HTL := Lib.hid (show ((bytesOf y).take (64 - z)).length = m by rw [List.length_take, bytesOf_len]; exact (Nat.min_comm _ _).trans hm)
    have HPB := Lib.hid (foldC_lay (n := N) (k := z) HL8.out HHB.out z y m HTL.out (by omega))
    have HFL := Lib.hid (HF.out.lay ((bytesOf y).take (64 - z)) (by rw [HTL.out]; omega))
    rw [HTL.out] at HFL
    generalize hb.take z ++ (bytesOf y).take (64 - z) ++ hb.drop (z + m) = hb2 at *
    have HHB0 := HHB
    clear HF HHB
    refine wpList_copyS rfl (.tmp 44) (.tmp 45) 82 9 rfl 5 Try.underlying82 infoB b (9 + z) (64 - z) (64 - z) y rfl rfl (foldC R N hb z) 138 Hf.out (by rw [foldC_len HL8.out HHB0.out]; omega) _ HPB.out ?_
    intro wc hg9 hz9 hx9
    replace HK := Lib.hid (Kept.grown HK.out hg9.out (fun q9 e9 => by obtain rfl := Option.some.inj e9; exact Or.inr (rfl)))
    replace HZS := sz HZS hz9.out
    replace Hf := hx9
    clear hx9 hg9 hz9
    rw [hm]
    have HM := Lib.hid hm
    clear hm
    have HHB := Lib.hid HFL.out.len
    have c73 := Hf.out.cell (foldC_k HL8.out HHB.out)
    have k3 : (z : Int) + (m : Int) ≤ 64 := by omega
    have f5_f := Hf.out.frozen
    obtain ⟨w5, hq5, hg9, hz9, hx9⟩ := put1 Hf 73 (.int .i64 ((z : Int) + (m : Int))) _ rfl
    replace HK := Lib.hid (Kept.grown HK.out hg9.out (fun q9 e9 => by obtain rfl := Option.some.inj e9; exact Or.inr (rfl)))
    replace HZS := sz HZS hz9.out
    replace Hf := hx9
    clear hx9 hg9 hz9
    go_wp2_with fail
    clear hq5 f5_f c73
    have HY := Lib.hid (show t ++ ((bytesOf y).take (64 - z)) ++ bytesOf (y.extract m y.size) = bytesOf x from by
     rw [bytesOf_drop y m, take_min y m (64 - z) HM.out, List.append_assoc, List.take_append_drop, HT.out])
    refine ⟨⟨_, t ++ (bytesOf y).take (64 - z), rfl, HY, Lib.hid ⟨R, N, hb2, z + m, ?_, HL8.out, ?_, Or.inr (by omega)⟩, HK⟩, ?_⟩
    ·have h9 := Hf.out
     rwa [← Int.natCast_add, foldC_setk HL8.out HHB.out] at h9
    ·rw [← List.append_assoc]; exact HFL.out
    ·show (y.extract m y.size).size < y.size
     simp
     omega
   ·have hk6 : k < 64 := by have := hf.le; omega
    have hke : ((k : Int) == 64) = false := by simp; omega
    have HL8 := Lib.hid hh
    have HF := Lib.hid hf
    have HHB := Lib.hid hf.len
    clear hh hf
    have c73 := Hf.out.cell (foldC_k HL8.out HHB.out)
    have k1 : (0 : Int) ≤ (k : Int) := by omega
    have k2 : (k : Int) ≤ 64 := by omega
    go_wp2_with fail
    refine wp_region_otail 9 (by kernel_rfl) (by kernel_rfl) ?_
    simp only [List.take_succ_cons, List.take_zero, List.drop_succ_cons, List.drop_zero]
    have hov_b := fun (E : Over wr) o => E.cell (b := b) o Hf.out.lt
    repeat (go_big_quiet_step (first | fail))
    all_goals (try unfold elV limbV)
    repeat (go_big_quiet_step (first | fail))
    all_goals (try unfold elV limbV)
    repeat (go_big_quiet_step (first | fail))
    all_goals (try unfold ciphV)
    refine wpQuiet_nil ?_
    rintro _ ⟨E, rfl⟩
    clear hov_b
    replace Hf := Lib.hid (Hf.out.up E.h)
    replace HK := Lib.hid (Kept.up HK.out E.h)
    have HZS := Lib.hid E.h.size
    obtain ⟨w1, hq9⟩ : ∃ W9 : World, E.w = W9 := ⟨_, rfl⟩
    rw [hq9] at Hf HK HZS ⊢
    clear hq9 E c73 k1 k2
    obtain ⟨m, hm⟩ : ∃ m, Nat.min y.size (64 - k) = m := ⟨_, rfl⟩
    have hm1 : m ≤ y.size := hm ▸ Nat.min_le_left _ _
    have hm2 : m ≤ 64 - k := hm ▸ Nat.min_le_right _ _
    have hm3 : 0 < m := by rw [← hm]; exact Nat.lt_min.2 ⟨hy, by omega⟩
    have HTL := Lib.hid (show ((bytesOf y).take (64 - k)).length = m by rw [List.length_take, bytesOf_len]; exact (Nat.min_comm _ _).trans hm)
    have HPB := Lib.hid (foldC_lay (n := n) (k := k) HL8.out HHB.out k y m HTL.out (by omega))
    have HFL := Lib.hid (HF.out.lay ((bytesOf y).take (64 - k)) (by rw [HTL.out]; omega))
    rw [HTL.out] at HFL
    generalize hb.take k ++ (bytesOf y).take (64 - k) ++ hb.drop (k + m) = hb2 at *
    have HHB0 := HHB
    clear HF HHB
    refine wpList_copyS rfl (.tmp 44) (.tmp 45) 82 9 rfl 5 Try.underlying82 infoB b (9 + k) (64 - k) (64 - k) y rfl rfl (foldC h n hb k) 138 Hf.out (by rw [foldC_len HL8.out HHB0.out]; omega) _ HPB.out ?_
    intro wc hg9 hz9 hx9
    replace HK := Lib.hid (Kept.grown HK.out hg9.out (fun q9 e9 => by obtain rfl := Option.some.inj e9; exact Or.inr (rfl)))
    replace HZS := sz HZS hz9.out
    replace Hf := hx9
    clear hx9 hg9 hz9
    rw [hm]
    have HM := Lib.hid hm
    clear hm
    have HHB := Lib.hid HFL.out.len
    have c73 := Hf.out.cell (foldC_k HL8.out HHB.out)
    have k3 : (k : Int) + (m : Int) ≤ 64 := by omega
    have f2_f := Hf.out.frozen
    obtain ⟨w2, hq2, hg9, hz9, hx9⟩ := put1 Hf 73 (.int .i64 ((k : Int) + (m : Int))) _ rfl
    replace HK := Lib.hid (Kept.grown HK.out hg9.out (fun q9 e9 => by obtain rfl := Option.some.inj e9; exact Or.inr (rfl)))
    replace HZS := sz HZS hz9.out
    replace Hf := hx9
    clear hx9 hg9 hz9
    go_wp2_with fail
    clear hq2 f2_f c73
    have HY := Lib.hid (show t ++ ((bytesOf y).take (64 - k)) ++ bytesOf (y.extract m y.size) = bytesOf x from by
     rw [bytesOf_drop y m, take_min y m (64 - k) HM.out, List.append_assoc, List.take_append_drop, HT.out])
    refine ⟨⟨_, t ++ (bytesOf y).take (64 - k), rfl, HY, Lib.hid ⟨h, n, hb2, k + m, ?_, HL8.out, ?_, Or.inr (by omega)⟩, HK⟩, ?_⟩
    ·have h9 := Hf.out
     rwa [← Int.natCast_add, foldC_setk HL8.out HHB.out] at h9
    ·rw [← List.append_assoc]; exact HFL.out
    ·show (y.extract m y.size).size < y.size
     simp
     omega
  ·have hy0 : y.size = 0 := by omega
   have hyn : bytesOf y = [] := List.eq_nil_of_length_eq_zero (by rw [bytesOf_len]; exact hy0)
   have hyd : (y.size : Int) = 0 := by omega
   have HE := Lib.hid (show t = bytesOf x from by have h9 := HT.out; rwa [hyn, List.append_nil] at h9)
   clear hyn hy0 hy HT
   go_wp2_with fail
   go_end0
   exact ⟨rfl, HE.out ▸ HQ.out, HK.out⟩
end Go.Proofs.Ytdlnnkbigeiilaa
namespace Go.Proofs.Ytdlnnkbigeiilaa
open Go.RowKit Go.Lib
theorem zeroB (w : World) : (zeroValue 5).run Try.prog w = .ok (.int .u8 0) w := by kernel_rfl
theorem clear_cells (m : Nat) : List.replicate m (Value.int .u8 0) = byteCells (List.replicate m 0) := by unfold byteCells; rw [List.map_replicate]; rfl
theorem foldC_clear {h : WL} {n k : Nat} {hb : List UInt8} (hh : h.length = 8) (hl : hb.length = 64) (hk : k ≤ 64) : putL (foldC h n hb k) (9 + k) (List.replicate (64 - k) (Value.int .u8 0)) = foldC h n (hb.take k ++ List.replicate (64 - k) 0) k := by
 rw [clear_cells, foldC_putb hh hl k _ (by rw [List.length_replicate]; omega), List.length_replicate, List.drop_eq_nil_of_le (by omega), List.append_nil]
theorem clear_len {hb : List UInt8} {k : Nat} (hl : hb.length = 64) (hk : k ≤ 64) : (hb.take k ++ List.replicate (64 - k) 0).length = 64 := by simp [hl]; omega
theorem out_snoc (R : WL) (i : Nat) (hi : i < R.length) : byteCells (outB (R.take (i + 1))) = byteCells (outB (R.take i)) ++ [.int .u8 (((R.getD i 0).toNat : Int) % 256), .int .u8 (((R.getD i 0).toNat : Int) / 256 % 256), .int .u8 (((R.getD i 0).toNat : Int) / 65536 % 256), .int .u8 (((R.getD i 0).toNat : Int) / 16777216)] := by
 have e0 : R[i] = R.getD i 0 := by simp [List.getD, hi]
 rw [List.take_succ_eq_append_getElem hi, e0]
 unfold outB
 rw [List.flatMap_append, byteCells_app]
 congr 1
 generalize R.getD i 0 = X
 have e : ∀ m : Nat, Value.int .u8 ((UInt8.ofNat (m % 256)).toNat : Int) = .int .u8 ((m : Int) % 256) := fun m => by rw [byte_int]
 have hX := X.isLt
 simp only [List.flatMap_cons, List.flatMap_nil, List.append_nil, byteCells, List.map_cons, List.map_nil, e]
 rw [show ((X.toNat / 16777216 : Nat) : Int) % 256 = (X.toNat : Int) / 16777216 by omega]
 rfl
theorem out_str (s : List UInt8) : strOfNums ((digB s).map fun b => (b.toNat : Int)) = digS s := by
 unfold strOfNums digS
 rw [List.map_map]
 congr 2
 conv => rhs; rw [← List.map_id (digB s)]
 apply List.map_congr_left
 intro x _
 simp
theorem out_take8 (R : WL) (h : R.length = 8) : R.take 8 = R := List.take_of_length_le (by omega)
theorem row_byte {N : Nat} {w : World} {g n c : Nat} {l : List UInt8} (h : RowO N w 5 1 (.slice (some ⟨g, 0, none⟩) n c) n (byteCells l)) (i : Nat) (hi : i < l.length) : w.cell? ⟨g, 0 + i, none⟩ = some (.int .u8 ((l.map fun b => (b.toNat : Int)).getD i 0)) := by
 obtain ⟨b, o, e, _, hc⟩ := h.sl.at i (by rw [byteCells_length]; exact hi)
 cases e
 rw [hc]
 unfold byteCells
 simp [List.getD, hi]
theorem end_any (b : Nat) (s : List UInt8) (hsz : s.length < 4611686018427387904) (w : World) (hF : FoldAt w b s) :
  Calls Try.prog 82 #[.pointer (some ⟨b, 0, none⟩)] w fun e w' => e = .returned (.string (digS s)) ∧ Kept (fun q => q = b) w w' := by
 obtain ⟨h, n, hb, k, hx, hh, hf, h0⟩ := hF
 have HLB := Lib.hid hx.lt
 have Hf := Lib.hid hx
 have HL8 := Lib.hid hh
 have HHB := Lib.hid hf.len
 have HFN := Lib.hid (hf.fin h0)
 have hk6 : k ≤ 64 := hf.le
 have hn : n + k < 4611686018427387904 := by have := hf.sum; omega
 clear hh hf h0 hsz hx
 go_enter Try.func82, Try.ntmps82
 go_wp2_with fail
 have HZS := HLB
 have HK := Lib.hid (Kept.refl (fun q9 => q9 = b) w)
 have c73 := Hf.out.cell (foldC_k HL8.out HHB.out)
 have c8 := Hf.out.cell (foldC_n HL8.out)
 refine wp_region_otail 12 (by kernel_rfl) (by kernel_rfl) ?_
 simp only [List.take_succ_cons, List.take_zero, List.drop_succ_cons, List.drop_zero]
 have hov_b := fun (E : Over w) o => E.cell (b := b) o Hf.out.lt
 repeat (go_big_quiet_step (first | fail))
 all_goals (try unfold elV limbV)
 repeat (go_big_quiet_step (first | fail))
 all_goals (try unfold elV limbV)
 repeat (go_big_quiet_step (first | fail))
 all_goals (try unfold ciphV)
 refine wpQuiet_nil ?_
 rintro _ ⟨E, rfl⟩
 clear hov_b
 replace Hf := Lib.hid (Hf.out.up E.h)
 replace HK := Lib.hid (Kept.up HK.out E.h)
 replace HZS := sz HZS E.h.size
 obtain ⟨w1, hq9⟩ : ∃ W9 : World, E.w = W9 := ⟨_, rfl⟩
 rw [hq9] at Hf HK HZS ⊢
 clear hq9 E c73 c8
 have c8 := Hf.out.cell (foldC_n HL8.out)
 have f2_f := Hf.out.frozen
 obtain ⟨w2, hq2, hg9, hz9, hx9⟩ := put1 Hf 8 (.int .u64 ((n : Int) + (k : Int))) _ rfl
 replace HK := Lib.hid (Kept.grown HK.out hg9.out (fun q9 e9 => by obtain rfl := Option.some.inj e9; exact Or.inr (rfl)))
 replace HZS := sz HZS hz9.out
 replace Hf := hx9
 clear hx9 hg9 hz9
 go_wp2_with fail
 clear hq2 f2_f c8
 have Hf2 := Lib.hid (show Bx w2 b 138 (foldC h (n + k) hb k) from by have h9 := Hf.out; rwa [← Int.natCast_add, foldC_setn HL8.out] at h9)
 clear Hf
 have Hf := Hf2
 clear Hf2
 generalize n + k = N at *
 have c73 := Hf.out.cell (foldC_k HL8.out HHB.out)
 have HCL := Lib.hid (foldC_clear (n := N) HL8.out HHB.out hk6)
 have HB2 := Lib.hid (clear_len HHB.out hk6)
 generalize hb.take k ++ List.replicate (64 - k) 0 = hb2 at *
 by_cases hk : k = 64
 ·subst hk
  refine wp_region_otail 8 (by kernel_rfl) (by kernel_rfl) ?_
  simp only [List.take_succ_cons, List.take_zero, List.drop_succ_cons, List.drop_zero]
  have hov_b := fun (E : Over w2) o => E.cell (b := b) o Hf.out.lt
  repeat (go_big_quiet_step (first | fail))
  all_goals (try unfold elV limbV)
  repeat (go_big_quiet_step (first | fail))
  all_goals (try unfold elV limbV)
  repeat (go_big_quiet_step (first | fail))
  all_goals (try unfold ciphV)
  refine wpQuiet_nil ?_
  rintro _ ⟨E, rfl⟩
  clear hov_b
  replace Hf := Lib.hid (Hf.out.up E.h)
  replace HK := Lib.hid (Kept.up HK.out E.h)
  replace HZS := sz HZS E.h.size
  obtain ⟨w3, hq9⟩ : ∃ W9 : World, E.w = W9 := ⟨_, rfl⟩
  rw [hq9] at Hf HK HZS ⊢
  clear hq9 E c73
  refine wpList_clearB rfl (.tmp 25) 82 rfl 5 (.int .u8 0) Try.underlying82 zeroB rfl rfl b 9 0 0 rfl (foldC h N hb 64) 138 Hf.out (by rw [foldC_len HL8.out HHB.out]; omega) _ rfl ?_
  intro wc hg9 hz9 hx9
  replace HK := Lib.hid (Kept.grown HK.out hg9.out (fun q9 e9 => by obtain rfl := Option.some.inj e9; exact Or.inr (rfl)))
  replace HZS := sz HZS hz9.out
  replace Hf := hx9
  clear hx9 hg9 hz9
  obtain ⟨k, hk⟩ : ∃ k : Nat, k = 64 := ⟨64, rfl⟩
  have Hf2 := Lib.hid (show Bx wc b 138 (foldC h N hb2 k) from by rw [hk]; have e : foldC h N hb 64 = foldC h N hb2 64 := HCL.out; rw [← e]; exact Hf.out)
  clear Hf
  have Hf := Hf2
  clear Hf2 HCL
  have HCL := HB2
  go_wp2_with fail
  have c8 := Hf.out.cell (foldC_n HL8.out)
  have HPC := Lib.hid (fun w => Press_any h (wordsB hb2 64) HL8.out (wordsB_len _ _) N (by omega) true w)
  have HWC := Lib.hid (fun w hx => words_any h N hb2 k HL8.out HB2.out b w hx)
  have HI8 := Lib.hid (show (Try.prog.info? 135).map (·.size) = some (wlV h).length by rw [wlV_len, HL8.out]; exact info8)
  rw [HFN.out] at HPC
  have HRL := Lib.hid (digW_len s)
  obtain ⟨R, hR⟩ : ∃ R, digW s = R := ⟨_, rfl⟩
  have HRE := Lib.hid hR
  rw [hR] at HPC HRL
  clear hR HFN HCL
  generalize wordsB hb2 64 = M at *
  go_simp
  refine wp_region_otail 14 (by kernel_rfl) (by kernel_rfl) ?_
  simp only [List.take_succ_cons, List.take_zero, List.drop_succ_cons, List.drop_zero]
  have hov_b := fun (E : Over wc) o => E.cell (b := b) o Hf.out.lt
  repeat (first | (refine wpQuiet_load rfl 135 (.tmp 29) rfl b 0 rfl (wlV h) _ (fun _ ⟨E, e⟩ => e ▸ foldC_h (Hf.out.up E.h)) Try.underlying135 rfl HI8.out ?_; simp only [Act.put, List.setIfInBounds_toArray, List.set_cons_succ, List.set_cons_zero]) | go_big_quiet_step (first | (go_at_call 129; exact calls_over (HWC.out _ (Hf.out.up (Over.h _)))) | (go_at_call 128; exact calls_over (HPC.out _))))
  all_goals (try unfold elV limbV)
  repeat (first | (refine wpQuiet_load rfl 135 (.tmp 29) rfl b 0 rfl (wlV h) _ (fun _ ⟨E, e⟩ => e ▸ foldC_h (Hf.out.up E.h)) Try.underlying135 rfl HI8.out ?_; simp only [Act.put, List.setIfInBounds_toArray, List.set_cons_succ, List.set_cons_zero]) | go_big_quiet_step (first | (go_at_call 129; exact calls_over (HWC.out _ (Hf.out.up (Over.h _)))) | (go_at_call 128; exact calls_over (HPC.out _))))
  all_goals (try unfold elV limbV)
  repeat (first | (refine wpQuiet_load rfl 135 (.tmp 29) rfl b 0 rfl (wlV h) _ (fun _ ⟨E, e⟩ => e ▸ foldC_h (Hf.out.up E.h)) Try.underlying135 rfl HI8.out ?_; simp only [Act.put, List.setIfInBounds_toArray, List.set_cons_succ, List.set_cons_zero]) | go_big_quiet_step (first | (go_at_call 129; exact calls_over (HWC.out _ (Hf.out.up (Over.h _)))) | (go_at_call 128; exact calls_over (HPC.out _))))
  all_goals (try unfold ciphV)
  refine wpQuiet_nil ?_
  rintro _ ⟨E, rfl⟩
  clear hov_b
  replace Hf := Lib.hid (Hf.out.up E.h)
  replace HK := Lib.hid (Kept.up HK.out E.h)
  replace HZS := sz HZS E.h.size
  obtain ⟨w4, hq9⟩ : ∃ W9 : World, E.w = W9 := ⟨_, rfl⟩
  rw [hq9] at Hf HK HZS ⊢
  clear hq9 E c8 HPC HWC HI8
  have HRI := Lib.hid (show (Try.prog.info? 135).map (·.size) = some (wlV R).length by rw [wlV_len, HRL.out]; exact info8)
  obtain ⟨wz5, hq5, hg9, hz9, hx9⟩ := puts Hf 0 (wlV R) _ (foldC_puth HL8.out R HRL.out)
  refine wpList_store_mid rfl 135 (.tmp 39) (.tmp 37) rfl b 0 (wlV R).toArray rfl rfl (Hf.out.there (by rw [foldC_len HL8.out HB2.out, List.size_toArray, wlV_len, HRL.out]; decide)) (by simpa using HRI.out) (all_oneCell_toArray (wl_one R)) ?_
  rw [List.toList_toArray, hq5]
  replace HK := Lib.hid (Kept.grown HK.out hg9.out (fun q9 e9 => by obtain rfl := Option.some.inj e9; exact Or.inr (rfl)))
  replace HZS := sz HZS hz9.out
  replace Hf := hx9
  clear hx9 hg9 hz9 HL8 hq5
  obtain ⟨i9, hi9, hz90, hz91, hz92⟩ := info_parts infoByte
  go_wp2_with (at_make; refine wpList_make_own _ rfl _ _ 82 rfl (wz5.heap.size) 5 i9 _ 1 Try.underlying82 hi9 hz90 hz91 _ _ _ (32) rfl rfl ?c1 ?c2 ?c3 ?c4 ?_)
  case c1 => rfl
  case c2 => rw [hz92]; omega
  case c3 => unfold maxLen; omega
  case c4 => have g0 := HZS.out; omega
  intro w5 hown9 hg9
  have hb9 : Below wz5.heap.size wz5 w5 := (Below.refl _ _).grown hg9 (Nat.le_refl _) (fun q hq => by cases hq)
  replace Hf := Lib.hid (Hf.out.up hb9)
  replace HK := Lib.hid (Kept.up HK.out hb9)
  replace HZS := sz HZS hb9.size
  have Hr : Hid (RowO (wz5.heap.size) w5 5 1 (.slice (some ⟨wz5.heap.size, 0, none⟩) 0 (32)) 0 []) := Lib.hid hown9
  clear hb9 hown9 hg9 hi9 hz90 hz91 hz92
  go_wp2_with (refine wpList_load_mid rfl 135 (.tmp 43) rfl b 0 rfl (wlV R) _ (foldC_h Hf.out) Try.underlying135 rfl HRI.out ?_)
  go_loopw [45, 3] (fun c v wr => ∃ i g cap : Nat, i ≤ 8 ∧ c = .int .i64 i ∧ v = .slice (some ⟨g, 0, none⟩) (4 * i) cap ∧ Hid (RowO wz5.heap.size wr 5 1 (.slice (some ⟨g, 0, none⟩) (4 * i) cap) (4 * i) (byteCells (outB (R.take i)))) ∧ Hid (Kept (fun q9 => q9 = b) w wr)) (fun c _ _ => 8 - (RowKit.intOf c).toNat)
  case atStart => exact ⟨0, _, _, by omega, rfl, rfl, Hr, HK⟩
  case round =>
   obtain ⟨i, g, cap, hi, rfl, rfl, HQ, HK1⟩ := hrel
   clear HK Hr Hf
   have HK := HK1
   have Hr := HQ
   clear HK1 HQ
   have HSW := Lib.hid HK.out.size
   have HSM := Lib.hid (Hr.out.lt g rfl)
   replace HZS := sz HZS HSW.out
   replace HZS := sz HZS HSM.out
   by_cases hi8 : i < 8
   ·have hix := fun W => run_index_arr (P := Try.prog) W 135 134 .u32 8 (wlV R) i _ (wlV_get R i (by rw [HRL.out]; exact hi8)) Try.underlying135 (by rw [wlV_len, HRL.out]) infoW Try.underlying134
    have HON := Lib.hid (out_snoc R i (by rw [HRL.out]; exact hi8))
    have hX := (R.getD i 0).isLt
    generalize R.getD i 0 = X at *
    go_upto_region 8 with (fail)
    clear hix
    obtain ⟨i9, hi9, hz90, hz91, hz92⟩ := info_parts infoByte
    go_wp2_with (at_builtin; refine wpList_pushM (wz5.heap.size) wr (by have g0 := HZS.out; omega) rfl _ _ 82 rfl 5 i9 _ 1 1 4 Try.underlying82 hi9 hz90 hz91 hz92 rfl (by omega) (by omega) ((.slice (some ⟨g, 0, none⟩) (4 * i) cap)) ((4 * i)) ((byteCells (outB (R.take i)))) rfl Hr.out _ _ _ rfl rfl rfl (by simp [Value.oneCell']) (by omega) (by unfold maxLen; omega) ?_)
    intro g6 c6 w6 hown9 hg9
    replace HK := Lib.hid (Kept.grown HK.out hg9 (fun q hq => Or.inl (Nat.le_trans (show w.heap.size ≤ wz5.heap.size by have g0 := HZS.out; omega) (Hr.out.lt q hq).1)))
    replace HZS := sz HZS hg9.size
    clear Hr
    have Hr := Lib.hid hown9
    clear hown9 hg9 hi9 hz90 hz91 hz92
    have HQ := Lib.hid (Hr.out.eq (ys := byteCells (outB (R.take (i + 1)))) (m := 4 * (i + 1)) (by rw [HON.out]) rfl)
    go_wp2_with fail
    go_roundw
    case rel => exact ⟨i + 1, _, _, by omega, by go_num, rfl, HQ, HK⟩
    case measure => simp [RowKit.intOf]; omega
   ·have hi8' : i = 8 := by omega
    subst hi8'
    have HQ := Hr.out
    rw [out_take8 R HRL.out, show outB R = digB s by rw [← HRE.out]; rfl] at HQ
    have hcv := run_convert_bytes_arg (P := Try.prog) wr 82 5 Try.underlying82 Try.underlying5 g 0 32 cap ((digB s).map fun b => (b.toNat : Int)) (by rw [List.length_map, digB_len]) (fun j hj => row_byte HQ j (by rw [digB_len]; exact hj)) 9 Try.underlying9
    rw [out_str] at hcv
    clear HQ
    go_wp2_with fail
    go_ret
    exact ⟨rfl, HK.out⟩
 ·have k1 : (0 : Int) ≤ (k : Int) := by omega
  have k2 : (k : Int) ≤ 64 := by omega
  have k3 : k < 64 := by omega
  refine wp_region_otail 8 (by kernel_rfl) (by kernel_rfl) ?_
  simp only [List.take_succ_cons, List.take_zero, List.drop_succ_cons, List.drop_zero]
  have hov_b := fun (E : Over w2) o => E.cell (b := b) o Hf.out.lt
  repeat (go_big_quiet_step (first | fail))
  all_goals (try unfold elV limbV)
  repeat (go_big_quiet_step (first | fail))
  all_goals (try unfold elV limbV)
  repeat (go_big_quiet_step (first | fail))
  all_goals (try unfold ciphV)
  refine wpQuiet_nil ?_
  rintro _ ⟨E, rfl⟩
  clear hov_b
  replace Hf := Lib.hid (Hf.out.up E.h)
  replace HK := Lib.hid (Kept.up HK.out E.h)
  replace HZS := sz HZS E.h.size
  obtain ⟨w3, hq9⟩ : ∃ W9 : World, E.w = W9 := ⟨_, rfl⟩
  rw [hq9] at Hf HK HZS ⊢
  clear hq9 E c73 k1 k2
  refine wpList_clearB rfl (.tmp 25) 82 rfl 5 (.int .u8 0) Try.underlying82 zeroB rfl rfl b (9 + k) (64 - k) (64 - k) rfl (foldC h N hb k) 138 Hf.out (by rw [foldC_len HL8.out HHB.out]; omega) _ HCL.out ?_
  intro wc hg9 hz9 hx9
  replace HK := Lib.hid (Kept.grown HK.out hg9.out (fun q9 e9 => by obtain rfl := Option.some.inj e9; exact Or.inr (rfl)))
  replace HZS := sz HZS hz9.out
  replace Hf := hx9
  clear hx9 hg9 hz9
  go_wp2_with fail
  have c8 := Hf.out.cell (foldC_n HL8.out)
  have HPC := Lib.hid (fun w => Press_any h (wordsB hb2 64) HL8.out (wordsB_len _ _) N (by omega) true w)
  have HWC := Lib.hid (fun w hx => words_any h N hb2 k HL8.out HB2.out b w hx)
  have HI8 := Lib.hid (show (Try.prog.info? 135).map (·.size) = some (wlV h).length by rw [wlV_len, HL8.out]; exact info8)
  rw [HFN.out] at HPC
  have HRL := Lib.hid (digW_len s)
  obtain ⟨R, hR⟩ : ∃ R, digW s = R := ⟨_, rfl⟩
  have HRE := Lib.hid hR
  rw [hR] at HPC HRL
  clear hR HFN HCL
  generalize wordsB hb2 64 = M at *
  go_simp
  refine wp_region_otail 14 (by kernel_rfl) (by kernel_rfl) ?_
  simp only [List.take_succ_cons, List.take_zero, List.drop_succ_cons, List.drop_zero]
  have hov_b := fun (E : Over wc) o => E.cell (b := b) o Hf.out.lt
  repeat (first | (refine wpQuiet_load rfl 135 (.tmp 29) rfl b 0 rfl (wlV h) _ (fun _ ⟨E, e⟩ => e ▸ foldC_h (Hf.out.up E.h)) Try.underlying135 rfl HI8.out ?_; simp only [Act.put, List.setIfInBounds_toArray, List.set_cons_succ, List.set_cons_zero]) | go_big_quiet_step (first | (go_at_call 129; exact calls_over (HWC.out _ (Hf.out.up (Over.h _)))) | (go_at_call 128; exact calls_over (HPC.out _))))
  all_goals (try unfold elV limbV)
  repeat (first | (refine wpQuiet_load rfl 135 (.tmp 29) rfl b 0 rfl (wlV h) _ (fun _ ⟨E, e⟩ => e ▸ foldC_h (Hf.out.up E.h)) Try.underlying135 rfl HI8.out ?_; simp only [Act.put, List.setIfInBounds_toArray, List.set_cons_succ, List.set_cons_zero]) | go_big_quiet_step (first | (go_at_call 129; exact calls_over (HWC.out _ (Hf.out.up (Over.h _)))) | (go_at_call 128; exact calls_over (HPC.out _))))
  all_goals (try unfold elV limbV)
  repeat (first | (refine wpQuiet_load rfl 135 (.tmp 29) rfl b 0 rfl (wlV h) _ (fun _ ⟨E, e⟩ => e ▸ foldC_h (Hf.out.up E.h)) Try.underlying135 rfl HI8.out ?_; simp only [Act.put, List.setIfInBounds_toArray, List.set_cons_succ, List.set_cons_zero]) | go_big_quiet_step (first | (go_at_call 129; exact calls_over (HWC.out _ (Hf.out.up (Over.h _)))) | (go_at_call 128; exact calls_over (HPC.out _))))
  all_goals (try unfold ciphV)
  refine wpQuiet_nil ?_
  rintro _ ⟨E, rfl⟩
  clear hov_b
  replace Hf := Lib.hid (Hf.out.up E.h)
  replace HK := Lib.hid (Kept.up HK.out E.h)
  replace HZS := sz HZS E.h.size
  obtain ⟨w4, hq9⟩ : ∃ W9 : World, E.w = W9 := ⟨_, rfl⟩
  rw [hq9] at Hf HK HZS ⊢
  clear hq9 E c8 HPC HWC HI8
  have HRI := Lib.hid (show (Try.prog.info? 135).map (·.size) = some (wlV R).length by rw [wlV_len, HRL.out]; exact info8)
  obtain ⟨wz5, hq5, hg9, hz9, hx9⟩ := puts Hf 0 (wlV R) _ (foldC_puth HL8.out R HRL.out)
  refine wpList_store_mid rfl 135 (.tmp 39) (.tmp 37) rfl b 0 (wlV R).toArray rfl rfl (Hf.out.there (by rw [foldC_len HL8.out HB2.out, List.size_toArray, wlV_len, HRL.out]; decide)) (by simpa using HRI.out) (all_oneCell_toArray (wl_one R)) ?_
  rw [List.toList_toArray, hq5]
  replace HK := Lib.hid (Kept.grown HK.out hg9.out (fun q9 e9 => by obtain rfl := Option.some.inj e9; exact Or.inr (rfl)))
  replace HZS := sz HZS hz9.out
  replace Hf := hx9
  clear hx9 hg9 hz9 HL8 hq5
  obtain ⟨i9, hi9, hz90, hz91, hz92⟩ := info_parts infoByte
  go_wp2_with (at_make; refine wpList_make_own _ rfl _ _ 82 rfl (wz5.heap.size) 5 i9 _ 1 Try.underlying82 hi9 hz90 hz91 _ _ _ (32) rfl rfl ?c1 ?c2 ?c3 ?c4 ?_)
  case c1 => rfl
  case c2 => rw [hz92]; omega
  case c3 => unfold maxLen; omega
  case c4 => have g0 := HZS.out; omega
  intro w5 hown9 hg9
  have hb9 : Below wz5.heap.size wz5 w5 := (Below.refl _ _).grown hg9 (Nat.le_refl _) (fun q hq => by cases hq)
  replace Hf := Lib.hid (Hf.out.up hb9)
  replace HK := Lib.hid (Kept.up HK.out hb9)
  replace HZS := sz HZS hb9.size
  have Hr : Hid (RowO (wz5.heap.size) w5 5 1 (.slice (some ⟨wz5.heap.size, 0, none⟩) 0 (32)) 0 []) := Lib.hid hown9
  clear hb9 hown9 hg9 hi9 hz90 hz91 hz92
  go_wp2_with (refine wpList_load_mid rfl 135 (.tmp 43) rfl b 0 rfl (wlV R) _ (foldC_h Hf.out) Try.underlying135 rfl HRI.out ?_)
  go_loopw [45, 3] (fun c v wr => ∃ i g cap : Nat, i ≤ 8 ∧ c = .int .i64 i ∧ v = .slice (some ⟨g, 0, none⟩) (4 * i) cap ∧ Hid (RowO wz5.heap.size wr 5 1 (.slice (some ⟨g, 0, none⟩) (4 * i) cap) (4 * i) (byteCells (outB (R.take i)))) ∧ Hid (Kept (fun q9 => q9 = b) w wr)) (fun c _ _ => 8 - (RowKit.intOf c).toNat)
  case atStart => exact ⟨0, _, _, by omega, rfl, rfl, Hr, HK⟩
  case round =>
   obtain ⟨i, g, cap, hi, rfl, rfl, HQ, HK1⟩ := hrel
   clear HK Hr Hf
   have HK := HK1
   have Hr := HQ
   clear HK1 HQ
   have HSW := Lib.hid HK.out.size
   have HSM := Lib.hid (Hr.out.lt g rfl)
   replace HZS := sz HZS HSW.out
   replace HZS := sz HZS HSM.out
   by_cases hi8 : i < 8
   ·have hix := fun W => run_index_arr (P := Try.prog) W 135 134 .u32 8 (wlV R) i _ (wlV_get R i (by rw [HRL.out]; exact hi8)) Try.underlying135 (by rw [wlV_len, HRL.out]) infoW Try.underlying134
    have HON := Lib.hid (out_snoc R i (by rw [HRL.out]; exact hi8))
    have hX := (R.getD i 0).isLt
    generalize R.getD i 0 = X at *
    go_upto_region 8 with (fail)
    clear hix
    obtain ⟨i9, hi9, hz90, hz91, hz92⟩ := info_parts infoByte
    go_wp2_with (at_builtin; refine wpList_pushM (wz5.heap.size) wr (by have g0 := HZS.out; omega) rfl _ _ 82 rfl 5 i9 _ 1 1 4 Try.underlying82 hi9 hz90 hz91 hz92 rfl (by omega) (by omega) ((.slice (some ⟨g, 0, none⟩) (4 * i) cap)) ((4 * i)) ((byteCells (outB (R.take i)))) rfl Hr.out _ _ _ rfl rfl rfl (by simp [Value.oneCell']) (by omega) (by unfold maxLen; omega) ?_)
    intro g6 c6 w6 hown9 hg9
    replace HK := Lib.hid (Kept.grown HK.out hg9 (fun q hq => Or.inl (Nat.le_trans (show w.heap.size ≤ wz5.heap.size by have g0 := HZS.out; omega) (Hr.out.lt q hq).1)))
    replace HZS := sz HZS hg9.size
    clear Hr
    have Hr := Lib.hid hown9
    clear hown9 hg9 hi9 hz90 hz91 hz92
    have HQ := Lib.hid (Hr.out.eq (ys := byteCells (outB (R.take (i + 1)))) (m := 4 * (i + 1)) (by rw [HON.out]) rfl)
    go_wp2_with fail
    go_roundw
    case rel => exact ⟨i + 1, _, _, by omega, by go_num, rfl, HQ, HK⟩
    case measure => simp [RowKit.intOf]; omega
   ·have hi8' : i = 8 := by omega
    subst hi8'
    have HQ := Hr.out
    rw [out_take8 R HRL.out, show outB R = digB s by rw [← HRE.out]; rfl] at HQ
    have hcv := run_convert_bytes_arg (P := Try.prog) wr 82 5 Try.underlying82 Try.underlying5 g 0 32 cap ((digB s).map fun b => (b.toNat : Int)) (by rw [List.length_map, digB_len]) (fun j hj => row_byte HQ j (by rw [digB_len]; exact hj)) 9 Try.underlying9
    rw [out_str] at hcv
    clear HQ
    go_wp2_with fail
    go_ret
    exact ⟨rfl, HK.out⟩
end Go.Proofs.Ytdlnnkbigeiilaa
namespace Go.Proofs.Ytdlnnkbigeiilaa
open Go.RowKit Go.Lib
end Go.Proofs.Ytdlnnkbigeiilaa
namespace Go.Proofs.Ytdlnnkbigeiilaa
open Go.RowKit Go.Lib
theorem FoldAt.up {W W' : World} {b : Nat} {s : List UInt8} (h : FoldAt W b s) (hb : Below W.heap.size W W') : FoldAt W' b s :=
 let ⟨h1, n, hb1, k, hx, h2⟩ := h
 ⟨h1, n, hb1, k, hx.up hb, h2⟩
theorem joinL_eq (label : ByteArray) (ps : List ByteArray) : joinL label ps = (label :: ps).flatMap pfxL := by unfold joinL; rw [List.flatMap_cons]
theorem join_snoc (l : List ByteArray) (j : Nat) (h : j < l.length) : (l.take (j + 1)).flatMap pfxL = (l.take j).flatMap pfxL ++ (fourL l[j].size ++ bytesOf l[j]) := by
 rw [List.take_succ_eq_append_getElem h, List.flatMap_append]
 simp [pfxL]
theorem join_len (l : List ByteArray) (j : Nat) (h : j < l.length) : ((l.take j).flatMap pfxL).length + 4 + l[j].size ≤ (l.flatMap pfxL).length := by
 have e : l.flatMap pfxL = (l.take (j + 1)).flatMap pfxL ++ (l.drop (j + 1)).flatMap pfxL := by rw [← List.flatMap_append, List.take_append_drop]
 rw [e, join_snoc l j h, List.length_append, List.length_append, List.length_append, bytesOf_len, show (fourL l[j].size).length = 4 from rfl]
 omega
theorem fourS_bytes (n : Nat) : bytesOf (fourS n) = fourL n := rfl
theorem fold0 {W : World} {b : Nat} (h : Bx W b 138 (foldC h0B 0 z64 0)) : FoldAt W b [] := ⟨h0B, 0, z64, 0, h, rfl, Fold.nil z64 rfl, Or.inl rfl⟩
theorem join_ge (l : List ByteArray) : 4 * l.length ≤ (l.flatMap pfxL).length := by
 induction l with
 | nil => exact Nat.le_refl _
 | cons x l ih => rw [List.flatMap_cons, List.length_append, List.length_cons]; have : 4 ≤ (pfxL x).length := by unfold pfxL; rw [List.length_append]; exact Nat.le_add_right 4 _
                  omega
theorem tag_any (label : ByteArray) (ps : List ByteArray) (n : Nat) (hpn : ps.length = n) (hsz : (joinL label ps).length < 2305843009213693952) (a : Option Addr) (c : Nat) (w : World) (hX : Sl w w.heap.size a (ps.map Value.string)) :
  Calls Try.prog 31 #[.string label, .slice a n c] w fun e w' => e = .returned (.string (tagS label ps)) ∧ Below w.heap.size w w' := by
 have HPN := Lib.hid hpn
 have HSZ := Lib.hid (show ((label :: ps).flatMap pfxL).length < 2305843009213693952 from joinL_eq label ps ▸ hsz)
 have HX := Lib.hid hX
 have hn6 : n < 1152921504606846976 := by
  have := join_ge (label :: ps)
  rw [← joinL_eq, List.length_cons, hpn] at this
  omega
 clear hpn hsz hX
 have hz0 : Try.zeroCells138 = (begC (zw 8)).toArray := by kernel_rfl
 have HI := Lib.hid (show (Try.prog.info? 138).map (·.size) = some (foldC h0B 0 z64 0).length from infoF)
 have HZ := Lib.hid (show (begC (zw 8)).length = (foldC h0B 0 z64 0).length from rfl)
 go_enter Try.func31, Try.ntmps31
 go_wp2_with fail
 refine (begin_any w).mono ?_
 rintro e w1 ⟨rfl, hb9⟩
 have HB := Lib.hid hb9
 have HZS := Lib.hid hb9.size
 clear hb9
 have HFB := Lib.hid HB.out.size
 go_upto_region 2 with (refine wpList_store_new rfl 138 138 (.tmp 5) (.tmp 8) rfl (begC (zw 8)) (foldC h0B 0 z64 0) rfl rfl HI.out HZ.out (foldC_one _ _ _ _) ?_)
 obtain ⟨w2, hq2, hb9, hz9, Hf⟩ := new1 w1 138 (foldC h0B 0 z64 0)
 rw [hq2]
 clear hq2
 replace HB := hbu HB hb9
 replace HZS := sz HZS hz9.out
 clear hb9 hz9 hz0 HI HZ
 have HF := Lib.hid (fold0 Hf.out)
 clear Hf HZS
 generalize w1.heap.size = fb at *
 go_wp2_with fail
 go_loopw [6] (fun c wr => ∃ j : Nat, j ≤ n + 1 ∧ c = .int .i64 ((j : Int) - 1) ∧ Hid (FoldAt wr fb (((label :: ps).take j).flatMap pfxL)) ∧ Hid (Below w.heap.size w wr)) (fun c _ => (n - RowKit.intOf c).toNat)
 case atStart => exact ⟨0, by omega, rfl, HF, HB⟩
 case round =>
  clear HF HB
  obtain ⟨j, hj, rfl, HF, HB⟩ := hrel
  by_cases hj0 : j = 0
  ·subst hj0
   have hn0 : (0 : Int) ≤ (n : Int) := by omega
   have hl9 := join_len (label :: ps) 0 (by rw [List.length_cons, HPN.out]; omega)
   have hs9 := join_snoc (label :: ps) 0 (by rw [List.length_cons, HPN.out]; omega)
   rw [List.getElem_cons_zero] at hl9 hs9
   have HS9 := Lib.hid hs9
   have hl8 : (((label :: ps).take 0).flatMap pfxL).length + 4 + label.size < 2305843009213693952 := by have := HSZ.out; omega
   clear hs9 hl9
   generalize ((label :: ps).take 0).flatMap pfxL = s at *
   go_wp2_with fail
   refine (four_any label.size (by omega) _).mono ?_
   rintro e w5 ⟨rfl, hb5⟩
   have HF5 := Lib.hid (HF.out.up hb5)
   have HB5 := hbu HB hb5
   clear HF HB hb5
   go_wp2_with fail
   refine (take_any fb s (fourS label.size) (by rw [fourS_size]; omega) _ HF5.out).mono ?_
   rintro e w6 ⟨rfl, hf6, hk6⟩
   have HF6 := Lib.hid hf6
   have HB6 := Lib.hid (Below.keptP HB5.out hk6 HB5.out.size (fun q hq => hq ▸ HFB.out))
   clear HF5 HB5 hf6 hk6
   go_wp2_with fail
   refine (take_any fb _ label (by rw [List.length_append, fourS_bytes]; show s.length + 4 + label.size < _; omega) _ HF6.out).mono ?_
   rintro e w7 ⟨rfl, hf7, hk7⟩
   have HF7 := Lib.hid hf7
   have HB7 := Lib.hid (Below.keptP HB6.out hk7 HB6.out.size (fun q hq => hq ▸ HFB.out))
   clear HF6 HB6 hf7 hk7
   have HQ := Lib.hid (show FoldAt w7 fb (((label :: ps).take (0 + 1)).flatMap pfxL) from by rw [HS9.out, ← List.append_assoc]; exact HF7.out)
   clear HF7 HS9
   go_wp2_with fail
   exact ⟨⟨1, by omega, rfl, HQ, HB7⟩, by simp [RowKit.intOf]⟩
  ·by_cases hjn : j < n + 1
   ·obtain ⟨m, rfl⟩ : ∃ m, j = m + 1 := ⟨j - 1, by omega⟩
    have hmn : m < n := by omega
    have hmp : m < ps.length := by rw [HPN.out]; exact hmn
    have e1 : ((m + 1 : Nat) : Int) - 1 = (m : Int) := by omega
    rw [e1]
    clear e1
    obtain ⟨xb, xo, rfl, hxl, hxc⟩ := (HX.out.up HB.out).at m (by rw [List.length_map]; exact hmp)
    rw [List.getElem_map] at hxc
    obtain ⟨x, hx⟩ : ∃ x, ps[m] = x := ⟨_, rfl⟩
    rw [hx] at hxc
    have hl9 := join_len (label :: ps) (m + 1) (by rw [List.length_cons, HPN.out]; omega)
    have hs9 := join_snoc (label :: ps) (m + 1) (by rw [List.length_cons, HPN.out]; omega)
    rw [List.getElem_cons_succ, hx] at hl9 hs9
    have HS9 := Lib.hid hs9
    have hl8 : (((label :: ps).take (m + 1)).flatMap pfxL).length + 4 + x.size < 2305843009213693952 := by have := HSZ.out; omega
    clear hs9 hl9
    generalize ((label :: ps).take (m + 1)).flatMap pfxL = s at *
    go_wp2_with fail
    refine (four_any x.size (by omega) _).mono ?_
    rintro e w5 ⟨rfl, hb5⟩
    have HF5 := Lib.hid (HF.out.up hb5)
    have HB5 := hbu HB hb5
    clear HF HB hb5
    go_wp2_with fail
    refine (take_any fb s (fourS x.size) (by rw [fourS_size]; omega) _ HF5.out).mono ?_
    rintro e w6 ⟨rfl, hf6, hk6⟩
    have HF6 := Lib.hid hf6
    have HB6 := Lib.hid (Below.keptP HB5.out hk6 HB5.out.size (fun q hq => hq ▸ HFB.out))
    clear HF5 HB5 hf6 hk6
    go_wp2_with fail
    refine (take_any fb _ x (by rw [List.length_append, fourS_bytes]; show s.length + 4 + x.size < _; omega) _ HF6.out).mono ?_
    rintro e w7 ⟨rfl, hf7, hk7⟩
    have HF7 := Lib.hid hf7
    have HB7 := Lib.hid (Below.keptP HB6.out hk7 HB6.out.size (fun q hq => hq ▸ HFB.out))
    clear HF6 HB6 hf7 hk7
    have HQ := Lib.hid (show FoldAt w7 fb (((label :: ps).take ((m + 1) + 1)).flatMap pfxL) from by rw [HS9.out, ← List.append_assoc]; exact HF7.out)
    clear HF7 HS9
    go_wp2_with fail
    exact ⟨⟨m + 1 + 1, by omega, by go_num, HQ, HB7⟩, by simp [RowKit.intOf]; omega⟩
   ·have hjn' : j = n + 1 := by omega
    subst hjn'
    rw [List.take_of_length_le (by rw [List.length_cons, HPN.out]; exact Nat.le_refl _)] at HF
    have HEN := Lib.hid (fun w h => end_any fb ((label :: ps).flatMap pfxL) (by have := HSZ.out; omega) w h)
    have e1 : ((n + 1 : Nat) : Int) - 1 = (n : Int) := by omega
    rw [e1]
    clear e1
    go_wp2_with fail
    refine (HEN.out _ HF.out).mono ?_
    rintro e w5 ⟨rfl, hk5⟩
    have HB5 := Lib.hid (Below.keptP HB.out hk5 HB.out.size (fun q hq => hq ▸ HFB.out))
    clear hk5
    go_wp2_with fail
    go_ret
    exact ⟨rfl, HB5.out⟩
end Go.Proofs.Ytdlnnkbigeiilaa
namespace Go.Proofs.Ytdlnnkbigeiilaa
open Go.RowKit Go.Lib
end Go.Proofs.Ytdlnnkbigeiilaa
namespace Go.Proofs.Ytdlnnkbigeiilaa
open Go.RowKit Go.Lib
abbrev talkB : ByteArray := ⟨#[116, 97, 108, 107]⟩
abbrev sayB : ByteArray := ⟨#[115, 97, 121]⟩
abbrev askB : ByteArray := ⟨#[97, 115, 107]⟩
abbrev askedB : ByteArray := ⟨#[97, 115, 107, 101, 100]⟩
def TalkAt (W : World) (b : Nat) (s : ByteArray) : Prop := Bx W b 67 [.string s]
theorem Sl.ofB {W : World} {b : Nat} {t : TypeId} {cs : List Value} (h : Bx W b t cs) : Sl W W.heap.size (some ⟨b, 0, none⟩) cs := Or.inr ⟨b, 0, rfl, h.lt, fun i v hv => by rw [Nat.zero_add]; exact h.cell hv⟩
theorem join_small (l : ByteArray) (ps : List ByteArray) (_m : Nat) (h : ps.length ≤ 3) (hp : ∀ p ∈ ps, p.size < 140737488355328) (hl : l.size < 140737488355328) : (joinL l ps).length < 2305843009213693952 := by
 have key : ∀ x : ByteArray, (pfxL x).length = 4 + x.size := fun x => by unfold pfxL; rw [List.length_append, bytesOf_len]; rfl
 have gen : ∀ qs : List ByteArray, (∀ p ∈ qs, p.size < 140737488355328) → (qs.flatMap pfxL).length ≤ qs.length * 140737488355332 := by
  intro qs
  induction qs with
  | nil => intro _; simp
  | cons x qs ih =>
   intro hq
   have h1 := ih fun p hp => hq p (List.mem_cons_of_mem _ hp)
   have h2 := hq x (List.mem_cons_self ..)
   rw [List.flatMap_cons, List.length_append, List.length_cons, key]
   omega
 have := gen ps hp
 unfold joinL
 rw [List.length_append, key]
 have h3 : ps.length * 140737488355332 ≤ 3 * 140737488355332 := Nat.mul_le_mul_right _ h
 omega
theorem NewTalk_any (label : ByteArray) (hl : label.size < 140737488355328) (w : World) :
  Calls Try.prog 8 #[.string label] w fun e w' => ∃ tb, e = .returned (.pointer (some ⟨tb, 0, none⟩)) ∧ w.heap.size ≤ tb ∧ TalkAt w' tb (tagS talkB [label]) ∧ Below w.heap.size w w' := by
 have HJ := Lib.hid (join_small talkB [label] 0 (by simp) (by simpa using hl) (by decide))
 have HT := Lib.hid (fun a c w hX => tag_any talkB [label] 1 rfl HJ.out a c w hX)
 clear hl
 go_enter Try.func8, Try.ntmps8
 obtain ⟨w1, hq1, hb9, hz9, Hr⟩ := new1 w 9 [.string label]
 have HB := Lib.hid hb9
 have HZS := hz9
 clear hb9 hz9
 have r_ := Hr.out.c1
 go_wp2_with fail
 clear hq1
 refine (HT.out _ _ _ (Sl.ofB Hr.out)).mono ?_
 rintro e w2 ⟨rfl, hb9⟩
 clear r_
 replace Hr := Lib.hid (Hr.out.up hb9)
 replace HB := hbu HB hb9
 replace HZS := sz HZS hb9.size
 clear hb9
 have r_ := Hr.out.c1
 have hsz := Lib.hid HB.out.size
 have o3_r_ := r_; clear r_
 obtain ⟨w3, hq3, hb9, hz9, Ht⟩ := new1 w2 67 [.string (tagS talkB [label])]
 replace Hr := Lib.hid (Hr.out.up hb9)
 replace HB := hbu HB hb9
 replace HZS := sz HZS hz9.out
 clear hb9 hz9
 have r_ := Hr.out.c1
 have t_ := Ht.out.c1
 go_wp2_with fail
 clear hq3 o3_r_
 go_ret
 exact ⟨_, rfl, hsz.out, Ht.out, HB.out⟩
theorem Say_any (tb : Nat) (s label b : ByteArray) (hs : s.size < 140737488355328) (hl : label.size < 140737488355328) (hb : b.size < 140737488355328) (w : World) (hT : TalkAt w tb s) :
  Calls Try.prog 10 #[.pointer (some ⟨tb, 0, none⟩), .string label, .string b] w fun e w' => e = .returned (.tuple #[]) ∧ TalkAt w' tb (tagS sayB [s, label, b]) ∧ Kept (fun q => q = tb) w w' := by
 have HJ := Lib.hid (join_small sayB [s, label, b] 0 (by simp) (by simp [hs, hl, hb]) (by decide))
 have HT := Lib.hid (fun a c w hX => tag_any sayB [s, label, b] 3 rfl HJ.out a c w hX)
 have Ht := Lib.hid (show Bx w tb 67 [.string s] from hT)
 have HLB := Lib.hid hT.lt
 generalize tagS sayB [s, label, b] = S at *
 clear hs hl hb hT
 go_enter Try.func10, Try.ntmps10
 have t_ := Ht.out.c1
 have HZS := HLB
 have HK := Lib.hid (Kept.refl (fun q9 => q9 = tb) w)
 have o1_t_ := t_; clear t_
 obtain ⟨w1, hq1, hb9, hz9, Hr⟩ := new1 w 9 [.string s, .string label, .string b]
 replace Ht := Lib.hid (Ht.out.up hb9)
 replace HK := Lib.hid (Kept.up HK.out hb9)
 replace HZS := sz HZS hz9.out
 clear hb9 hz9
 have t_ := Ht.out.c1
 have r_ := Hr.out.c3
 go_wp2_with fail
 clear hq1 o1_t_
 refine (HT.out _ _ _ (Sl.ofB Hr.out)).mono ?_
 rintro e w2 ⟨rfl, hb9⟩
 clear t_
 replace Ht := Lib.hid (Ht.out.up hb9)
 clear r_
 replace Hr := Lib.hid (Hr.out.up hb9)
 replace HK := Lib.hid (Kept.up HK.out hb9)
 replace HZS := sz HZS hb9.size
 clear hb9
 have t_ := Ht.out.c1
 have r_ := Hr.out.c3
 have f3_t := Ht.out.frozen
 have o3_t_ := t_; clear t_
 have o3_r_ := r_; clear r_
 obtain ⟨w3, hq3, hg9, hz9, hx9⟩ := put1 Ht 0 (.string S) [.string S] rfl
 replace Hr := Lib.hid (Hr.out.grown hg9.out (sne (by have g0 := HZS.out; omega)))
 replace HK := Lib.hid (Kept.grown HK.out hg9.out (fun q9 e9 => by obtain rfl := Option.some.inj e9; exact Or.inr (rfl)))
 replace HZS := sz HZS hz9.out
 replace Ht := hx9
 clear hx9 hg9 hz9
 have t_ := Ht.out.c1
 have r_ := Hr.out.c3
 go_wp2_with fail
 clear hq3 o3_r_ o3_t_ f3_t
 go_end0
 exact ⟨rfl, Ht.out, HK.out⟩
theorem Ask_any (tb : Nat) (s label : ByteArray) (hs : s.size < 140737488355328) (hl : label.size < 140737488355328) (w : World) (hT : TalkAt w tb s) :
  Calls Try.prog 16 #[.pointer (some ⟨tb, 0, none⟩), .string label] w fun e w' => e = .returned (.string (tagS askB [s, label])) ∧ TalkAt w' tb (tagS askedB [s, label]) ∧ Kept (fun q => q = tb) w w' := by
 have HJ := Lib.hid (join_small askB [s, label] 0 (by simp) (by simp [hs, hl]) (by decide))
 have HJ2 := Lib.hid (join_small askedB [s, label] 0 (by simp) (by simp [hs, hl]) (by decide))
 have HT := Lib.hid (fun a c w hX => tag_any askB [s, label] 2 rfl HJ.out a c w hX)
 have HT2 := Lib.hid (fun a c w hX => tag_any askedB [s, label] 2 rfl HJ2.out a c w hX)
 have Ht := Lib.hid (show Bx w tb 67 [.string s] from hT)
 have HLB := Lib.hid hT.lt
 obtain ⟨A, hA⟩ : ∃ A, tagS askB [s, label] = A := ⟨_, rfl⟩
 obtain ⟨D, hD⟩ : ∃ D, tagS askedB [s, label] = D := ⟨_, rfl⟩
 rw [hA] at HT ⊢
 rw [hD] at HT2 ⊢
 clear hs hl hT hA hD HJ HJ2
 go_enter Try.func16, Try.ntmps16
 have t_ := Ht.out.c1
 have HZS := HLB
 have HK := Lib.hid (Kept.refl (fun q9 => q9 = tb) w)
 have o1_t_ := t_; clear t_
 obtain ⟨w1, hq1, hb9, hz9, Hr⟩ := new1 w 9 [.string s, .string label]
 replace Ht := Lib.hid (Ht.out.up hb9)
 replace HK := Lib.hid (Kept.up HK.out hb9)
 replace HZS := sz HZS hz9.out
 clear hb9 hz9
 have t_ := Ht.out.c1
 have r_ := Hr.out.c2
 go_wp2_with fail
 clear hq1 o1_t_
 refine (HT.out _ _ _ (Sl.ofB Hr.out)).mono ?_
 rintro e w2 ⟨rfl, hb9⟩
 clear t_
 replace Ht := Lib.hid (Ht.out.up hb9)
 clear r_
 replace Hr := Lib.hid (Hr.out.up hb9)
 replace HK := Lib.hid (Kept.up HK.out hb9)
 replace HZS := sz HZS hb9.size
 clear hb9
 have t_ := Ht.out.c1
 have r_ := Hr.out.c2
 clear r_ Hr
 have o3_t_ := t_; clear t_
 obtain ⟨w3, hq3, hb9, hz9, Hr⟩ := new1 w2 9 [.string s, .string label]
 replace Ht := Lib.hid (Ht.out.up hb9)
 replace HK := Lib.hid (Kept.up HK.out hb9)
 replace HZS := sz HZS hz9.out
 clear hb9 hz9
 have t_ := Ht.out.c1
 have r_ := Hr.out.c2
 go_wp2_with fail
 clear hq3 o3_t_
 refine (HT2.out _ _ _ (Sl.ofB Hr.out)).mono ?_
 rintro e w4 ⟨rfl, hb9⟩
 clear t_
 replace Ht := Lib.hid (Ht.out.up hb9)
 clear r_
 replace Hr := Lib.hid (Hr.out.up hb9)
 replace HK := Lib.hid (Kept.up HK.out hb9)
 replace HZS := sz HZS hb9.size
 clear hb9
 have t_ := Ht.out.c1
 have r_ := Hr.out.c2
 have f5_t := Ht.out.frozen
 have o5_t_ := t_; clear t_
 have o5_r_ := r_; clear r_
 obtain ⟨w5, hq5, hg9, hz9, hx9⟩ := put1 Ht 0 (.string D) [.string D] rfl
 replace Hr := Lib.hid (Hr.out.grown hg9.out (sne (by have g0 := HZS.out; omega)))
 replace HK := Lib.hid (Kept.grown HK.out hg9.out (fun q9 e9 => by obtain rfl := Option.some.inj e9; exact Or.inr (rfl)))
 replace HZS := sz HZS hz9.out
 replace Ht := hx9
 clear hx9 hg9 hz9
 have t_ := Ht.out.c1
 have r_ := Hr.out.c2
 go_wp2_with fail
 clear hq5 o5_r_ o5_t_ f5_t
 go_ret
 exact ⟨rfl, Ht.out, HK.out⟩
theorem Fork_any (tb : Nat) (s : ByteArray) (w : World) (hT : TalkAt w tb s) :
  Calls Try.prog 113 #[.pointer (some ⟨tb, 0, none⟩)] w fun e w' => ∃ fb, e = .returned (.pointer (some ⟨fb, 0, none⟩)) ∧ w.heap.size ≤ fb ∧ TalkAt w' fb s ∧ Below w.heap.size w w' := by
 have Ht := Lib.hid (show Bx w tb 67 [.string s] from hT)
 clear hT
 go_enter Try.func113, Try.ntmps113
 have t_ := Ht.out.c1
 have o1_t_ := t_; clear t_
 obtain ⟨w1, hq1, hb9, hz9, Hf⟩ := new1 w 67 [.string s]
 replace Ht := Lib.hid (Ht.out.up hb9)
 have HB := Lib.hid hb9
 have HZS := hz9
 clear hb9 hz9
 have t_ := Ht.out.c1
 have f_ := Hf.out.c1
 go_wp2_with fail
 clear hq1 o1_t_
 go_ret
 exact ⟨_, rfl, Nat.le_refl _, Hf.out, HB.out⟩
end Go.Proofs.Ytdlnnkbigeiilaa
namespace Go.Proofs.Ytdlnnkbigeiilaa
open Go.RowKit Go.Lib
end Go.Proofs.Ytdlnnkbigeiilaa
namespace Go.Proofs.Ytdlnnkbigeiilaa
open Go.RowKit Go.Lib
def chT (s label : ByteArray) : ByteArray := tagS askedB [tagS askedB [s, label], label]
def chN (s label : ByteArray) : Nat := numOf (tagS askB [s, label] ++ tagS askB [tagS askedB [s, label], label])
theorem chT_size (s label : ByteArray) : (chT s label).size = 32 := tagS_size _ _
theorem ask2_size (a b : List ByteArray) : (tagS askB a ++ tagS askB b).size = 64 := by rw [ByteArray.size_append, tagS_size, tagS_size]
theorem gChallenge_any (G : GP) (ok : G.Ok) (gb tb : Nat) (s label : ByteArray) (hs : s.size < 140737488355328) (hl : label.size < 140737488355328) (w : World) (hG : GroupAt w gb G) (hT : TalkAt w tb s) (hne : ¬ gb = tb) :
  Calls Try.prog 40 #[.pointer (some ⟨gb, 0, none⟩), .pointer (some ⟨tb, 0, none⟩), .string label] w fun e w' => e = .returned (scV G (chN s label)) ∧ TalkAt w' tb (chT s label) ∧ Kept (fun q => q = tb) w w' := by
 obtain ⟨s1, hs1⟩ : ∃ x, tagS askedB [s, label] = x := ⟨_, rfl⟩
 have hz1 : s1.size < 140737488355328 := by rw [← hs1, tagS_size]; decide
 have HA1 := Lib.hid (fun w h => Ask_any tb s label hs hl w h)
 have HA2 := Lib.hid (fun w h => Ask_any tb s1 label hz1 hl w h)
 unfold chN chT
 rw [hs1] at HA1 ⊢
 obtain ⟨s2, hs2⟩ : ∃ x, tagS askedB [s1, label] = x := ⟨_, rfl⟩
 rw [hs2] at HA2 ⊢
 obtain ⟨A, hA⟩ : ∃ x, tagS askB [s, label] = x := ⟨_, rfl⟩
 obtain ⟨D, hD⟩ : ∃ x, tagS askB [s1, label] = x := ⟨_, rfl⟩
 have hsz : (A ++ D).size ≤ maxLen := by rw [← hA, ← hD, ask2_size]; decide
 have hcc : ¬ (9223372036854775807 < A.size + D.size) := by rw [← hA, ← hD, tagS_size, tagS_size]; decide
 rw [hA] at HA1 ⊢
 rw [hD] at HA2 ⊢
 have HR := Lib.hid (fun w h => gReduce_any G ok gb (A ++ D) hsz w h)
 unfold scV limbV at HR ⊢
 generalize mont G.q.m (numOf (A ++ D)) = n at HR ⊢
 have HG := Lib.hid hG
 have HT := Lib.hid hT
 have HNE := Lib.hid hne
 have HLT := Lib.hid hT.lt
 clear hG hT hne ok hs hl hz1 hs1 hs2 hA hD hsz
 go_enter Try.func40, Try.ntmps40
 go_wp2_with fail
 obtain ⟨w1, hq1, hb9, hz9, Ho⟩ := new1 w 78 [.int .u64 0, .int .u64 0, .int .u64 0, .int .u64 0]
 rw [hq1]
 clear hq1
 have HB := Lib.hid hb9
 have HZS := hz9
 clear hb9 hz9
 have o_ := Ho.out.c4
 go_wp2_with fail
 refine (HA1.out _ (HT.out.up HB.out)).mono ?_
 rintro e wz ⟨rfl, ht, hk⟩
 have HG1 := Lib.hid ((HG.out.up HB.out).keptP hk HNE.out)
 have Ht := Lib.hid ht
 have HK := Lib.hid (((Kept.refl (fun q => q = tb) w).up HB.out).trans hk)
 have Ho1 := Lib.hid (Ho.out.keptP hk (show ¬ w.heap.size = tb by have := HLT.out; omega))
 clear HB HT HG Ho o_ ht hk HA1
 have Ho := Ho1
 clear Ho1
 go_wp2_with fail
 refine (HA2.out _ Ht.out).mono ?_
 rintro e wy ⟨rfl, ht, hk⟩
 have HG2 := Lib.hid (HG1.out.keptP hk HNE.out)
 have HK2 := Lib.hid (HK.out.trans hk)
 have Ho2 := Lib.hid (Ho.out.keptP hk (show ¬ w.heap.size = tb by have := HLT.out; omega))
 have HT2 := Lib.hid ht
 clear HG1 HK Ho Ht ht hk HA2
 go_wp2_with fail
 refine (HR.out _ HG2.out).mono ?_
 rintro e wx ⟨rfl, hb9⟩
 have Ht := Lib.hid (HT2.out.up hb9)
 have HK := Lib.hid (HK2.out.up hb9)
 have Ho := Lib.hid (Ho2.out.up hb9)
 have HZS : Hid (w.heap.size < wx.heap.size) := HK.out.size |> fun _ => Ho.out.lt
 clear HG2 HK2 Ho2 HT2 hb9 HR HNE
 have o_ := Ho.out.c4
 replace HZS := sz HZS HLT.out
 have f2_o := Ho.out.frozen
 have o2_o_ := o_; clear o_
 obtain ⟨w2, hq2, hg9, hz9, hx9⟩ := put4 Ho 0 (.int .u64 (dig n 0 : Int)) 1 (.int .u64 (dig n 1 : Int)) 2 (.int .u64 (dig n 2 : Int)) 3 (.int .u64 (dig n 3 : Int)) [.int .u64 (dig n 0 : Int), .int .u64 (dig n 1 : Int), .int .u64 (dig n 2 : Int), .int .u64 (dig n 3 : Int)] rfl
 replace Ht := Lib.hid (Ht.out.grown hg9.out (sne (by have g0 := HZS.out; omega)))
 replace HK := Lib.hid (Kept.grown HK.out hg9.out (fun q9 e9 => by obtain rfl := Option.some.inj e9; exact Or.inl (show w.heap.size ≤ w.heap.size by have g0 := HZS.out; omega)))
 replace HZS := sz HZS hz9.out
 replace Ho := hx9
 clear hx9 hg9 hz9
 have o_ := Ho.out.c4
 go_wp2_with fail
 clear hq2 o2_o_ f2_o
 simp [bodyPost, results, Try.results40, go_sem, o_]
 exact ⟨Ht.out, HK.out⟩
end Go.Proofs.Ytdlnnkbigeiilaa
namespace Go.Proofs.Ytdlnnkbigeiilaa
open Go.RowKit Go.Lib
abbrev labelB : ByteArray := ⟨#[108, 97, 98, 101, 108]⟩
abbrev kindB : ByteArray := ⟨#[107, 105, 110, 100]⟩
abbrev basesB : ByteArray := ⟨#[98, 97, 115, 101, 115]⟩
abbrev imagesB : ByteArray := ⟨#[105, 109, 97, 103, 101, 115]⟩
abbrev firstB : ByteArray := ⟨#[102, 105, 114, 115, 116]⟩
abbrev challengeB : ByteArray := ⟨#[99, 104, 97, 108, 108, 101, 110, 103, 101]⟩
abbrev nonceB : ByteArray := ⟨#[110, 111, 110, 99, 101]⟩
abbrev seedB : ByteArray := ⟨#[115, 101, 101, 100]⟩
def catB (l : List ByteArray) : ByteArray := l.foldl (· ++ ·) ⟨#[]⟩
theorem catB_from (m : Nat) : ∀ (l : List ByteArray) (a : ByteArray), (∀ x ∈ l, x.size ≤ m) → (l.foldl (· ++ ·) a).size ≤ a.size + l.length * m
 | [], _, _ => by simp
 | x :: l, a, h => by
  have h1 := catB_from m l (a ++ x) fun y hy => h y (List.mem_cons_of_mem _ hy)
  have h2 := h x (by simp)
  rw [ByteArray.size_append] at h1
  rw [List.foldl_cons, List.length_cons, Nat.add_mul, Nat.one_mul]
  omega
theorem catB_size (m : Nat) (l : List ByteArray) (h : ∀ x ∈ l, x.size ≤ m) : (catB l).size ≤ l.length * m := by
 have h1 := catB_from m l ⟨#[]⟩ h
 rw [show (ByteArray.mk #[]).size = 0 from rfl, Nat.zero_add] at h1
 exact h1
def kindS (k : Int) : ByteArray := ⟨#[UInt8.ofNat k.toNat]⟩
def say1 (s lb x : ByteArray) : ByteArray := tagS sayB [s, lb, x]
theorem say1_size (s lb x : ByteArray) : (say1 s lb x).size = 32 := tagS_size _ _
def beginT (nm label : ByteArray) (k : Int) : ByteArray := say1 (say1 (tagS talkB [nm]) labelB label) kindB (kindS k)
def sayC (s : ByteArray) (c : ClaimA) : ByteArray := say1 (say1 s basesB (catB c.bases)) imagesB (catB c.images)
def sayCl (s : ByteArray) (l : List ClaimA) : ByteArray := l.foldl sayC s
def sayF (s : ByteArray) (r : List ByteArray) : ByteArray := say1 s firstB (catB r)
def sayFi (s : ByteArray) (l : List (List ByteArray)) : ByteArray := l.foldl sayF s
theorem sayCl_take (s : ByteArray) (l : List ClaimA) (j : Nat) (h : j < l.length) : sayCl s (l.take (j + 1)) = sayC (sayCl s (l.take j)) l[j] := by unfold sayCl; rw [List.take_succ_eq_append_getElem h, List.foldl_append]; rfl
theorem sayFi_take (s : ByteArray) (l : List (List ByteArray)) (j : Nat) (h : j < l.length) : sayFi s (l.take (j + 1)) = sayF (sayFi s (l.take j)) l[j] := by unfold sayFi; rw [List.take_succ_eq_append_getElem h, List.foldl_append]; rfl
theorem sayCl_size : ∀ (l : List ClaimA) (s : ByteArray), s.size = 32 → (sayCl s l).size = 32
 | [], _, hs => hs
 | _ :: l, _, _ => sayCl_size l _ (say1_size _ _ _)
theorem sayFi_size : ∀ (l : List (List ByteArray)) (s : ByteArray), s.size = 32 → (sayFi s l).size = 32
 | [], _, hs => hs
 | _ :: l, _, _ => sayFi_size l _ (say1_size _ _ _)
end Go.Proofs.Ytdlnnkbigeiilaa
namespace Go.Proofs.Ytdlnnkbigeiilaa
open Go.RowKit
def askT (s : ByteArray) : Nat → ByteArray
 | 0 => s
 | j + 1 => chT (askT s j) nonceB
theorem askT_size {s : ByteArray} (h : s.size = 32) : ∀ j, (askT s j).size = 32
 | 0 => h
 | _ + 1 => chT_size _ _
def nonceS (G : GP) (s : ByteArray) (j : Nat) : ByteArray := textS (chN (askT s j) nonceB % G.q.m) G.size
def nonceL (G : GP) (s : ByteArray) (n : Nat) : List ByteArray := (List.range n).map (nonceS G s)
theorem nonceL_len (G : GP) (s : ByteArray) (n : Nat) : (nonceL G s n).length = n := by simp [nonceL]
theorem nonceL_succ (G : GP) (s : ByteArray) (n : Nat) : nonceL G s (n + 1) = nonceL G s n ++ [nonceS G s n] := by simp [nonceL, List.range_succ]
theorem numOf_mod {G : GP} (ok : G.Ok) (N : Nat) : numOf (textS (N % G.q.m) G.size) = N % G.q.m := by
 rw [numOf_textS, Nat.mod_eq_of_lt (Nat.lt_of_lt_of_le (Nat.mod_lt _ ok.q.pos) ok.fits)]
theorem limC_text {G : GP} (ok : G.Ok) (N : Nat) : limC G.q.m (textS (N % G.q.m) G.size) = [.int .u64 (dig (mont G.q.m N) 0 : Int), .int .u64 (dig (mont G.q.m N) 1 : Int), .int .u64 (dig (mont G.q.m N) 2 : Int), .int .u64 (dig (mont G.q.m N) 3 : Int)] := by
 unfold limC
 rw [numOf_mod ok, mont_mod]
def ansF (G : GP) (N : Nat) (w x : ByteArray) : ByteArray := textS ((numOf w + N * numOf x) % G.q.m) G.size
def ansL (G : GP) (N : Nat) (ws xs : List ByteArray) : List ByteArray := List.zipWith (ansF G N) ws xs
end Go.Proofs.Ytdlnnkbigeiilaa
namespace Go.Proofs.Ytdlnnkbigeiilaa
open Go.RowKit
end Go.Proofs.Ytdlnnkbigeiilaa
namespace Go.Proofs.Ytdlnnkbigeiilaa
open Go.RowKit
theorem made_hold {k : Nat} (h1 : 1 ≤ k) (h3 : k ≤ 3) {o : ByteArray} {xs : List ByteArray} {cs : List ClaimB} (h : cs.map ClaimB.x = xs.map (madeT (grp k) o)) (hxs : xs.all (isSc (grp k).q.m (grp k).size) = true) : holdP (grp k) (cs.map ClaimB.a) xs = true := by
 obtain ⟨hl, hi⟩ := made_at h
 refine zip_all fun i hc hx => ?_
 rw [List.length_map] at hc
 rw [List.getElem_map]
 obtain ⟨e1, e2, e3, e4⟩ := hi i hc hx
 have ok := grp_ok k h1 h3
 have hsx := isSc_lt' (List.all_eq_true.1 hxs _ (List.getElem_mem hx))
 show ([hold2 (grp k) xs[i] cs[i].s cs[i].u, hold2 (grp k) xs[i] cs[i].t cs[i].v].all id) = true
 rw [e1, e2, e3, e4]
 unfold hold2
 rw [hsx.1, (grp2 h1 h3).2, T_numOf h1 h3, T_numOf h1 h3, lowN_fix ok (lowN_le ok _), lowN_fix ok (lowN_le ok _)]
 simp
end Go.Proofs.Ytdlnnkbigeiilaa
namespace Go.Proofs.Ytdlnnkbigeiilaa
open Go.RowKit
structure SetA where
 a : Option Addr
 c : Nat
 l : List ClaimA
def SetA.cells (s : SetA) : List Value := [.slice s.a s.l.length s.c]
theorem SetA.cells_len (s : SetA) : s.cells.length = 1 := rfl
structure SetsAt (w : World) (a : Option Addr) (ss : List SetA) : Prop where
 s : Sl w w.heap.size a (ss.flatMap SetA.cells)
 e : ∀ s ∈ ss, ClaimsAt w s.a s.l
theorem SetsAt.up {w w' : World} {a : Option Addr} {ss : List SetA} (h : SetsAt w a ss) (hb : Below w.heap.size w w') : SetsAt w' a ss := ⟨h.s.up hb, fun c hc => (h.e c hc).up hb⟩
theorem SetsAt.one {w : World} {a : Option Addr} {ss : List SetA} (h : SetsAt w a ss) (i : Nat) (hi : i < ss.length) : ClaimsAt w ss[i].a ss[i].l := h.e _ (List.getElem_mem hi)
def wrongsE (G : GP) : List SetA → Nat
 | [] => 0
 | s :: r => if wrongE G s.l = 0 then wrongsE G r else wrongE G s.l
def setsE (G : GP) (ss : List SetA) : Nat := if 16 < ss.length then 3 else if ss.length = 0 then 2 else wrongsE G ss
theorem wrongsE_app (G : GP) : ∀ (l m : List SetA), wrongsE G l = 0 → wrongsE G (l ++ m) = wrongsE G m
 | [], _, _ => rfl
 | s :: r, m, h => by
  unfold wrongsE at h
  by_cases g : wrongE G s.l = 0
  ·rw [if_pos g] at h
   rw [List.cons_append, wrongsE, if_pos g]
   exact wrongsE_app G r m h
  ·rw [if_neg g] at h
   exact absurd h g
theorem wrongsE_snoc {G : GP} {ss : List SetA} {j : Nat} (hj : j < ss.length) (h : wrongsE G (ss.take j) = 0) (h1 : wrongE G ss[j].l = 0) : wrongsE G (ss.take (j + 1)) = 0 := by
 rw [List.take_succ_eq_append_getElem hj, wrongsE_app G _ _ h, wrongsE, if_pos h1]
 rfl
theorem wrongsE_not {G : GP} {ss : List SetA} {j : Nat} (hj : j < ss.length) (h : wrongsE G (ss.take j) = 0) (h1 : ¬ wrongE G ss[j].l = 0) : wrongsE G ss = wrongE G ss[j].l := by
 conv => lhs; rw [← List.take_append_drop j ss, List.drop_eq_getElem_cons hj]
 rw [wrongsE_app G _ _ h, wrongsE, if_neg h1]
theorem wrongsE_all {G : GP} : ∀ {ss : List SetA}, wrongsE G ss = 0 → ∀ s ∈ ss, wrongE G s.l = 0
 | [], _, _, hs => absurd hs (by simp)
 | t :: r, h, s, hs => by
  unfold wrongsE at h
  by_cases g : wrongE G t.l = 0
  ·rw [if_pos g] at h
   rcases List.mem_cons.1 hs with rfl | h9
   ·exact g
   ·exact wrongsE_all h s h9
  ·rw [if_neg g] at h
   exact absurd h g
theorem setsE_ok {G : GP} {ss : List SetA} (h : setsE G ss = 0) : 0 < ss.length ∧ ss.length ≤ 16 ∧ wrongsE G ss = 0 := by
 unfold setsE at h
 by_cases g : 16 < ss.length
 ·rw [if_pos g] at h; cases h
 ·rw [if_neg g] at h
  by_cases g2 : ss.length = 0
  ·rw [if_pos g2] at h; cases h
  ·rw [if_neg g2] at h
   exact ⟨by omega, by omega, h⟩
end Go.Proofs.Ytdlnnkbigeiilaa
namespace Go.Proofs.Ytdlnnkbigeiilaa
open Go.RowKit
abbrev eitherB : ByteArray := ⟨#[101, 105, 116, 104, 101, 114]⟩
abbrev setB : ByteArray := ⟨#[115, 101, 116]⟩
abbrev otherB : ByteArray := ⟨#[111, 116, 104, 101, 114]⟩
def sayS (t : ByteArray) (l : List ClaimA) : ByteArray := sayCl (say1 t setB (kindS (l.length : Int))) l
def saySs (t : ByteArray) (ls : List (List ClaimA)) : ByteArray := ls.foldl sayS t
theorem saySs_take (s : ByteArray) (l : List (List ClaimA)) (j : Nat) (h : j < l.length) : saySs s (l.take (j + 1)) = sayS (saySs s (l.take j)) l[j] := by unfold saySs; rw [List.take_succ_eq_append_getElem h, List.foldl_append]; rfl
theorem sayS_size (s : ByteArray) (l : List ClaimA) : (sayS s l).size = 32 := sayCl_size l _ (say1_size _ _ _)
theorem saySs_size : ∀ (l : List (List ClaimA)) (s : ByteArray), s.size = 32 → (saySs s l).size = 32
 | [], _, hs => hs
 | _ :: l, _, _ => saySs_size l _ (sayS_size _ _)
end Go.Proofs.Ytdlnnkbigeiilaa
namespace Go.Proofs.Ytdlnnkbigeiilaa
open Go.RowKit
def SayOk (c : ClaimA) : Prop := c.bases.length ≤ 8 ∧ c.images.length ≤ 8 ∧ (∀ x ∈ c.bases, x.size ≤ 32) ∧ (∀ x ∈ c.images, x.size ≤ 32)
theorem cat_small {l : List ByteArray} (h8 : l.length ≤ 8) (h : ∀ x ∈ l, x.size ≤ 32) : (catB l).size < 140737488355328 := by
 have h1 := catB_size 32 l h
 have h2 : l.length * 32 ≤ 8 * 32 := Nat.mul_le_mul_right _ h8
 omega
end Go.Proofs.Ytdlnnkbigeiilaa
