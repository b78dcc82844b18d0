/- Texts of this seat, one behind the other: what TrustDeals leans on. No condition beyond those that each names. -/
import Derived.Test.YtjmeakfjfpnciaaGreatZTrustDeals2
import Derived.WalkKit
import Derived.Test.YtjmeakfjfpnciaaGreatProg
import Derived.IntWalk
import Derived.Deep.MidRow
import Derived.Deep.WholeRow
import Derived.Laws.CopyOwn
import Derived.Lib.BufferWrite
import Derived.BigQuiet
import Derived.Lib.SliceRun
import Derived.Shelf.Abstract
import Derived.Deep.LoopGhost
import Derived.Test.YtjmeakfjfpnciaaGreatRows
import Derived.ProofKit
import Derived.SizedLaws
import Derived.Lib.SmallJoins
import Derived.Deep.Slices
import Derived.Deep.Fields
import Derived.Shelf.Strings.Builder1

set_option maxRecDepth 100000
set_option maxHeartbeats 4000000
set_option linter.unusedVariables false
set_option linter.unusedSimpArgs false
namespace Go.Proofs.YtjmeakfjfpnciaaGreat
structure Stp where
 a : Nat
 o : Nat
 m : Option Nat
 t : Nat
deriving DecidableEq
abbrev WL := List (BitVec 32)
def rotB (x : BitVec 32) (n : Nat) : BitVec 32 := BitVec.ofNat 32 (x.toNat / 2 ^ n + x.toNat % 2 ^ n * 2 ^ (32 - n))
def stepB (m v : WL) (s : Stp) : WL :=
 v.set s.a (if s.t = 0 then (v.getD s.a 0 + v.getD s.o 0) + (match s.m with | some k => m.getD k 0 | none => 0) else rotB (v.getD s.a 0 ^^^ v.getD s.o 0) s.t)
def ordL : List (List Nat) := [[0,1,2,3,4,5,6,7,8,9,10,11,12,13,14,15],[14,10,4,8,9,15,13,6,1,12,0,2,11,7,5,3],[11,8,12,0,5,2,15,13,10,14,3,6,7,1,9,4],[7,9,3,1,13,12,11,14,2,6,5,10,4,0,15,8],[9,0,5,7,2,4,10,15,14,1,11,12,6,8,3,13],
 [2,12,6,10,0,11,8,3,4,13,7,5,15,14,1,9],[12,5,1,15,14,13,4,10,0,7,6,3,9,2,8,11],[13,11,7,14,12,1,3,9,5,0,15,4,8,6,2,10],[6,15,14,9,11,3,0,8,12,2,13,7,1,4,10,5],[10,2,8,4,7,6,1,5,15,11,9,14,3,12,13,0]]
def ordN (r i : Nat) : Nat := (ordL.getD r []).getD i 0
def cA (i : Nat) : Nat := i % 4
def cB (i : Nat) : Nat := 4 + (i % 4 + i / 4) % 4
def cC (i : Nat) : Nat := 8 + (i % 4 + 2 * (i / 4)) % 4
def cD (i : Nat) : Nat := 12 + (i % 4 + 3 * (i / 4)) % 4
def quartL (i x y : Nat) : List Stp := [⟨cA i, cB i, some x, 0⟩, ⟨cD i, cA i, none, 16⟩, ⟨cC i, cD i, none, 0⟩, ⟨cB i, cC i, none, 12⟩, ⟨cA i, cB i, some y, 0⟩, ⟨cD i, cA i, none, 8⟩, ⟨cC i, cD i, none, 0⟩, ⟨cB i, cC i, none, 7⟩]
def quartB (m v : WL) (r i : Nat) : WL := (quartL i (ordN r (2 * i)) (ordN r (2 * i + 1))).foldl (stepB m) v
def rowL (r : Nat) : List Stp := (List.range 8).flatMap fun i => quartL i (ordN r (2 * i)) (ordN r (2 * i + 1))
def allL : List Stp := (List.range 10).flatMap rowL
def stirB (v m : WL) : WL := allL.foldl (stepB m) v
theorem stepB_len (m v : WL) (s : Stp) : (stepB m v s).length = v.length := by unfold stepB; rw [List.length_set]
theorem steps_len (m : WL) : ∀ (l : List Stp) (v : WL), (l.foldl (stepB m) v).length = v.length
 | [], _ => rfl
 | s :: l, v => by rw [List.foldl_cons, steps_len m l, stepB_len]
theorem stirB_len (v m : WL) : (stirB v m).length = v.length := steps_len _ _ _
def halfB (m : WL) (r i : Nat) (v : WL) : WL := ((List.range i).flatMap fun i => quartL i (ordN r (2 * i)) (ordN r (2 * i + 1))).foldl (stepB m) v
def roundsB (m : WL) (r : Nat) (v : WL) : WL := ((List.range r).flatMap rowL).foldl (stepB m) v
theorem halfB_succ (m : WL) (r i : Nat) (v : WL) : halfB m r (i + 1) v = quartB m (halfB m r i v) r i := by
 unfold halfB quartB
 rw [List.range_succ, List.flatMap_append, List.foldl_append]
 simp
theorem roundsB_succ (m : WL) (r : Nat) (v : WL) : roundsB m (r + 1) v = halfB m r 8 (roundsB m r v) := by
 unfold roundsB halfB
 rw [List.range_succ, List.flatMap_append, List.foldl_append]
 simp [rowL]
theorem roundsB_all (m : WL) (v : WL) : roundsB m 10 v = stirB v m := rfl
theorem halfB_len (m : WL) (r i : Nat) (v : WL) : (halfB m r i v).length = v.length := steps_len _ _ _
theorem roundsB_len (m : WL) (r : Nat) (v : WL) : (roundsB m r v).length = v.length := steps_len _ _ _
theorem quart_words (m v : WL) (r i : Nat) (hv : v.length = 16) (a b c d x y : BitVec 32)
  (ha : v.getD (cA i) 0 = a) (hb : v.getD (cB i) 0 = b) (hc : v.getD (cC i) 0 = c) (hd : v.getD (cD i) 0 = d) (hx : m.getD (ordN r (2 * i)) 0 = x) (hy : m.getD (ordN r (2 * i + 1)) 0 = y) :
  let a1 := a + b + x
  let d1 := rotB (d ^^^ a1) 16
  let c1 := c + d1
  let b1 := rotB (b ^^^ c1) 12
  let a2 := a1 + b1 + y
  let d2 := rotB (d1 ^^^ a2) 8
  let c2 := c1 + d2
  let b2 := rotB (b1 ^^^ c2) 7
  quartB m v r i = (((((((v.set (cA i) a1).set (cD i) d1).set (cC i) c1).set (cB i) b1).set (cA i) a2).set (cD i) d2).set (cC i) c2).set (cB i) b2 := by
 intro a1 d1 c1 b1 a2 d2 c2 b2
 have hA : cA i < 4 := by unfold cA; omega
 have hB : 4 ≤ cB i ∧ cB i < 8 := by unfold cB; omega
 have hC : 8 ≤ cC i ∧ cC i < 12 := by unfold cC; omega
 have hD : 12 ≤ cD i ∧ cD i < 16 := by unfold cD; omega
 unfold quartB quartL
 generalize cA i = A at *
 generalize cB i = B at *
 generalize cC i = C at *
 generalize cD i = D at *
 simp only [List.foldl_cons, List.foldl_nil]
 have gs : ∀ (l : WL) (k : Nat) (u : BitVec 32), k < l.length → (l.set k u).getD k 0 = u := fun l k u h => by simp [List.getD, h]
 have gn : ∀ (l : WL) (k j : Nat) (u : BitVec 32), k ≠ j → (l.set k u).getD j 0 = l.getD j 0 := fun l k j u h => by simp [List.getD, List.getElem?_set_ne h]
 have e1 : stepB m v ⟨A, B, some (ordN r (2 * i)), 0⟩ = v.set A a1 := by unfold stepB; simp only [if_pos, ha, hb, hx]; rfl
 rw [e1]
 have e2 : stepB m (v.set A a1) ⟨D, A, none, 16⟩ = (v.set A a1).set D d1 := by
  unfold stepB; rw [if_neg (by simp), gn _ A D _ (by omega), gs _ A _ (by omega), hd]
 rw [e2]
 have e3 : stepB m ((v.set A a1).set D d1) ⟨C, D, none, 0⟩ = ((v.set A a1).set D d1).set C c1 := by
  unfold stepB; rw [if_pos rfl, gn _ D C _ (by omega), gn _ A C _ (by omega), gs _ D _ (by simp; omega), hc]; simp [c1]
 rw [e3]
 have e4 : stepB m (((v.set A a1).set D d1).set C c1) ⟨B, C, none, 12⟩ = (((v.set A a1).set D d1).set C c1).set B b1 := by
  unfold stepB; rw [if_neg (by simp), gn _ C B _ (by omega), gn _ D B _ (by omega), gn _ A B _ (by omega), gs _ C _ (by simp; omega), hb]
 rw [e4]
 have e5 : stepB m ((((v.set A a1).set D d1).set C c1).set B b1) ⟨A, B, some (ordN r (2 * i + 1)), 0⟩ = ((((v.set A a1).set D d1).set C c1).set B b1).set A a2 := by
  unfold stepB; rw [if_pos rfl, gn _ B A _ (by omega), gn _ C A _ (by omega), gn _ D A _ (by omega), gs _ A _ (by omega), gs _ B _ (by simp; omega)]; rw [show (match (some (ordN r (2 * i + 1)) : Option Nat) with | some k => m.getD k 0 | none => 0) = y from hy]
 rw [e5]
 have e6 : stepB m (((((v.set A a1).set D d1).set C c1).set B b1).set A a2) ⟨D, A, none, 8⟩ = (((((v.set A a1).set D d1).set C c1).set B b1).set A a2).set D d2 := by
  unfold stepB; rw [if_neg (by simp), gn _ A D _ (by omega), gn _ B D _ (by omega), gn _ C D _ (by omega), gs _ D _ (by simp; omega), gs _ A _ (by simp; omega)]
 rw [e6]
 have e7 : stepB m ((((((v.set A a1).set D d1).set C c1).set B b1).set A a2).set D d2) ⟨C, D, none, 0⟩ = ((((((v.set A a1).set D d1).set C c1).set B b1).set A a2).set D d2).set C c2 := by
  unfold stepB; rw [if_pos rfl, gn _ D C _ (by omega), gn _ A C _ (by omega), gn _ B C _ (by omega), gs _ C _ (by simp; omega), gs _ D _ (by simp; omega)]; simp [c2]
 rw [e7]
 unfold stepB; rw [if_neg (by simp), gn _ C B _ (by omega), gn _ D B _ (by omega), gn _ A B _ (by omega), gs _ B _ (by simp; omega), gs _ C _ (by simp; omega)]
def rot1 (x : BitVec 32) : BitVec 32 := BitVec.ofNat 32 (x.toNat / 2 + x.toNat % 2 * 2147483648)
def rotI : Nat → BitVec 32 → BitVec 32
 | 0, x => x
 | n + 1, x => rot1 (rotI n x)
theorem rotI_nat (x : BitVec 32) : ∀ n, n ≤ 16 → (rotI n x).toNat = x.toNat / 2 ^ n + x.toNat % 2 ^ n * 2 ^ (32 - n) := by
 have hx := x.isLt
 have key : ∀ (y : BitVec 32) (z : Nat), y.toNat = z → (rot1 y).toNat = z / 2 + z % 2 * 2147483648 := fun y z h => by
  have := y.isLt
  unfold rot1
  rw [BitVec.toNat_ofNat, h, Nat.mod_eq_of_lt]
  omega
 have h0 : (rotI 0 x).toNat = x.toNat / 2 ^ 0 + x.toNat % 2 ^ 0 * 2 ^ (32 - 0) := by simp [rotI]; omega
 intro n hn
 have st : ∀ n, n < 16 → (rotI n x).toNat = x.toNat / 2 ^ n + x.toNat % 2 ^ n * 2 ^ (32 - n) → (rotI (n + 1) x).toNat = x.toNat / 2 ^ (n + 1) + x.toNat % 2 ^ (n + 1) * 2 ^ (32 - (n + 1)) := by
  intro n hn h
  have h1 := key _ _ h
  show (rot1 (rotI n x)).toNat = _
  rw [h1]
  have hc : n = 0 ∨ n = 1 ∨ n = 2 ∨ n = 3 ∨ n = 4 ∨ n = 5 ∨ n = 6 ∨ n = 7 ∨ n = 8 ∨ n = 9 ∨ n = 10 ∨ n = 11 ∨ n = 12 ∨ n = 13 ∨ n = 14 ∨ n = 15 := by omega
  clear h h1 key h0
  generalize x.toNat = X at *
  rcases hc with rfl | rfl | rfl | rfl | rfl | rfl | rfl | rfl | rfl | rfl | rfl | rfl | rfl | rfl | rfl | rfl <;> simp <;> omega
 induction n with
 | zero => exact h0
 | succ n ih => exact st n (by omega) (ih (by omega))
theorem rotI_eq (x : BitVec 32) (n : Nat) (h : n ≤ 16) : rotI n x = rotB x n := by
 apply BitVec.eq_of_toNat_eq
 have e := rotI_nat x n h
 unfold rotB
 rw [BitVec.toNat_ofNat, ← e, Nat.mod_eq_of_lt (rotI n x).isLt]
theorem rot_or (x : BitVec 32) (n : Nat) (h0 : n = 16 ∨ n = 12 ∨ n = 8 ∨ n = 7) : (x >>> n) ||| (x <<< (32 - n)) = rotB x n := by
 apply BitVec.eq_of_toNat_eq
 have hx := x.isLt
 unfold rotB
 rw [BitVec.toNat_or, BitVec.toNat_ushiftRight, BitVec.toNat_shiftLeft, BitVec.toNat_ofNat, Nat.or_comm]
 have e : x.toNat <<< (32 - n) % 2 ^ 32 = (x.toNat % 2 ^ n) <<< (32 - n) := by
  rw [Nat.shiftLeft_eq, Nat.shiftLeft_eq]
  generalize x.toNat = X at *
  rcases h0 with rfl | rfl | rfl | rfl <;> omega
 rw [e, ← Nat.shiftLeft_add_eq_or_of_lt (by rw [Nat.shiftRight_eq_div_pow]; generalize x.toNat = X at *; rcases h0 with rfl | rfl | rfl | rfl <;> omega), Nat.shiftRight_eq_div_pow, Nat.shiftLeft_eq]
 generalize x.toNat = X at *
 rcases h0 with rfl | rfl | rfl | rfl <;> omega
def startB : WL := [0x6a09e667, 0xbb67ae85, 0x3c6ef372, 0xa54ff53a, 0x510e527f, 0x9b05688c, 0x1f83d9ab, 0x5be0cd19]
def preB (h : WL) (n : Nat) (last : Bool) : WL :=
 let v := (h ++ startB).set 12 (startB.getD 4 0 ^^^ BitVec.ofNat 32 n)
 let v := v.set 13 (startB.getD 5 0 ^^^ BitVec.ofNat 32 (n / 4294967296))
 if last then v.set 14 (~~~ startB.getD 6 0) else v
def mixB (h w : WL) (k : Nat) : WL := (List.range 8).map fun i => if i < k then h.getD i 0 ^^^ w.getD i 0 ^^^ w.getD (i + 8) 0 else h.getD i 0
def pressB (h m : WL) (n : Nat) (last : Bool) : WL := mixB h (stirB (preB h n last) m) 8
theorem mixB_len (h w : WL) (k : Nat) : (mixB h w k).length = 8 := by unfold mixB; simp
theorem pressB_len (h m : WL) (n : Nat) (last : Bool) : (pressB h m n last).length = 8 := mixB_len _ _ _
theorem mixB_at (h w : WL) (k i : Nat) (hi : i < (mixB h w k).length) : (mixB h w k)[i] = if i < k then h.getD i 0 ^^^ w.getD i 0 ^^^ w.getD (i + 8) 0 else h.getD i 0 := by simp only [mixB, List.getElem_map, List.getElem_range]
theorem mixB_zero (h w : WL) (hh : h.length = 8) : mixB h w 0 = h := by
 apply List.ext_getElem (by rw [mixB_len, hh])
 intro i h1 h2
 rw [mixB_at, if_neg (by omega)]
 simp [List.getD, List.getElem?_eq_getElem h2]
theorem mixB_succ (h w : WL) (k : Nat) : mixB h w (k + 1) = (mixB h w k).set k (h.getD k 0 ^^^ w.getD k 0 ^^^ w.getD (k + 8) 0) := by
 apply List.ext_getElem (by rw [List.length_set, mixB_len, mixB_len])
 intro i h1 h2
 rw [List.getElem_set, mixB_at, mixB_at]
 by_cases e : k = i
 ·subst e; rw [if_pos (by omega), if_pos rfl]
 ·rw [if_neg e]
  by_cases e2 : i < k
  ·rw [if_pos e2, if_pos (by omega)]
  ·rw [if_neg e2, if_neg (by omega)]
def byteW (l : List UInt8) (k j : Nat) : Nat := if j < k then (l.getD j 0).toNat else 0
def wordB (l : List UInt8) (k j : Nat) : BitVec 32 := BitVec.ofNat 32 (byteW l k (4 * j) + byteW l k (4 * j + 1) * 256 + byteW l k (4 * j + 2) * 65536 + byteW l k (4 * j + 3) * 16777216)
def wordsB (l : List UInt8) (k : Nat) : WL := (List.range 16).map (wordB l k)
theorem wordsB_len (l : List UInt8) (k : Nat) : (wordsB l k).length = 16 := by unfold wordsB; simp
theorem byteW_lt (l : List UInt8) (k j : Nat) : byteW l k j < 256 := by
 unfold byteW
 split
 ·exact (l.getD j 0).toNat_lt
 ·omega
theorem wordsB_zero (l : List UInt8) : wordsB l 0 = List.replicate 16 0 := by
 unfold wordsB
 rw [List.map_congr_left (g := fun _ => (0 : BitVec 32)) (fun j _ => by unfold wordB byteW; simp)]
 rfl
theorem wordsB_at (l : List UInt8) (k j : Nat) (hj : j < (wordsB l k).length) : (wordsB l k)[j] = wordB l k j := by simp only [wordsB, List.getElem_map, List.getElem_range]
theorem wordsB_get (l : List UInt8) (k j : Nat) (h : j < 16) : (wordsB l k).getD j 0 = wordB l k j := by
 unfold wordsB
 simp [List.getD, h]
theorem wordsB_succ (l : List UInt8) (k : Nat) (hk : k < 64) : wordsB l (k + 1) = (wordsB l k).set (k / 4) ((wordsB l k).getD (k / 4) 0 + BitVec.ofNat 32 ((l.getD k 0).toNat * 256 ^ (k % 4))) := by
 apply List.ext_getElem (by rw [List.length_set, wordsB_len, wordsB_len])
 intro j h1 h2
 have hj : j < 16 := by rwa [wordsB_len] at h1
 rw [List.getElem_set]
 simp only [wordsB_get l k (k / 4) (show k / 4 < 16 by omega)]
 rw [wordsB_at, wordsB_at]
 by_cases e : k / 4 = j
 ·rw [if_pos e, e]
  unfold wordB
  rw [← BitVec.ofNat_add]
  congr 1
  have hr : k % 4 = 0 ∨ k % 4 = 1 ∨ k % 4 = 2 ∨ k % 4 = 3 := by omega
  unfold byteW
  rcases hr with hr | hr | hr | hr
  ·obtain rfl : k = 4 * j := by omega
   rw [hr]
   simp only [Nat.reducePow]
   (repeat' split) <;> omega
  ·obtain rfl : k = 4 * j + 1 := by omega
   rw [hr]
   simp only [Nat.reducePow]
   (repeat' split) <;> omega
  ·obtain rfl : k = 4 * j + 2 := by omega
   rw [hr]
   simp only [Nat.reducePow]
   (repeat' split) <;> omega
  ·obtain rfl : k = 4 * j + 3 := by omega
   rw [hr]
   simp only [Nat.reducePow]
   (repeat' split) <;> omega
 ·rw [if_neg e]
  unfold wordB
  congr 1
  have key : ∀ i, i ≠ k → byteW l (k + 1) i = byteW l k i := fun i hi => by
   unfold byteW
   by_cases h : i < k
   ·rw [if_pos h, if_pos (by omega)]
   ·rw [if_neg h, if_neg (by omega)]
  rw [key _ (by omega), key _ (by omega), key _ (by omega), key _ (by omega)]
theorem wordsB_congr (l l' : List UInt8) (k k' : Nat) (h : ∀ j, j < 64 → byteW l k j = byteW l' k' j) : wordsB l k = wordsB l' k' := by
 unfold wordsB
 apply List.map_congr_left
 intro j hj
 have hj := List.mem_range.1 hj
 unfold wordB
 rw [h _ (by omega), h _ (by omega), h _ (by omega), h _ (by omega)]
def h0B : WL := startB.set 0 0x6b08e647
def pieceB (s : List UInt8) (k : Nat) : List UInt8 := (s.drop (64 * k)).take 64
def allB (s : List UInt8) : Nat → WL
 | 0 => h0B
 | k + 1 => pressB (allB s k) (wordsB (pieceB s k) 64) (64 * (k + 1)) false
def lastB (s : List UInt8) : Nat := (s.length - 1) / 64
def digW (s : List UInt8) : WL := pressB (allB s (lastB s)) (wordsB (pieceB s (lastB s)) 64) s.length true
theorem allB_len (s : List UInt8) : ∀ k, (allB s k).length = 8
 | 0 => rfl
 | _ + 1 => pressB_len _ _ _ _
theorem digW_len (s : List UInt8) : (digW s).length = 8 := pressB_len _ _ _ _
theorem pieceB_append (s t : List UInt8) (k : Nat) (h : 64 * (k + 1) ≤ s.length) : pieceB (s ++ t) k = pieceB s k := by
 unfold pieceB
 rw [List.drop_append_of_le_length (by omega), List.take_append_of_le_length (by rw [List.length_drop]; omega)]
theorem allB_append (s t : List UInt8) : ∀ k, 64 * k ≤ s.length → allB (s ++ t) k = allB s k
 | 0, _ => rfl
 | k + 1, h => by unfold allB; rw [allB_append s t k (by omega), pieceB_append s t k h]
def outB (w : WL) : List UInt8 := w.flatMap fun x => [UInt8.ofNat (x.toNat % 256), UInt8.ofNat (x.toNat / 256 % 256), UInt8.ofNat (x.toNat / 65536 % 256), UInt8.ofNat (x.toNat / 16777216 % 256)]
theorem outB_len (w : WL) : (outB w).length = 4 * w.length := by
 unfold outB
 induction w with
 | nil => rfl
 | cons x w ih => rw [List.flatMap_cons, List.length_append, ih, List.length_cons]; simp; omega
def digB (s : List UInt8) : List UInt8 := outB (digW s)
theorem digB_len (s : List UInt8) : (digB s).length = 32 := by unfold digB; rw [outB_len, digW_len]
def fourL (n : Nat) : List UInt8 := [UInt8.ofNat (n / 16777216 % 256), UInt8.ofNat (n / 65536 % 256), UInt8.ofNat (n / 256 % 256), UInt8.ofNat (n % 256)]
def bytesOf (s : ByteArray) : List UInt8 := s.data.toList
def pfxL (s : ByteArray) : List UInt8 := fourL s.size ++ bytesOf s
def joinL (label : ByteArray) (ps : List ByteArray) : List UInt8 := pfxL label ++ ps.flatMap pfxL
def digS (s : List UInt8) : ByteArray := ⟨(digB s).toArray⟩
def tagS (label : ByteArray) (ps : List ByteArray) : ByteArray := digS (joinL label ps)
def fourS (n : Nat) : ByteArray := ⟨(fourL n).toArray⟩
theorem digS_size (s : List UInt8) : (digS s).size = 32 := by
 show (digB s).toArray.size = 32
 rw [List.size_toArray, digB_len]
theorem tagS_size (l : ByteArray) (ps : List ByteArray) : (tagS l ps).size = 32 := digS_size _
theorem fourS_size (n : Nat) : (fourS n).size = 4 := rfl
structure Fold (s : List UInt8) (h : WL) (n : Nat) (hb : List UInt8) (k : Nat) : Prop where
 le : k ≤ 64
 sum : n + k = s.length
 mod : n % 64 = 0
 hs : h = allB s (n / 64)
 held : hb.take k = s.drop n
 len : hb.length = 64
theorem Fold.nil (hb : List UInt8) (h : hb.length = 64) : Fold [] h0B 0 hb 0 := ⟨by omega, rfl, rfl, rfl, rfl, h⟩
theorem Fold.press {s : List UInt8} {h : WL} {n : Nat} {hb : List UInt8} (f : Fold s h n hb 64) : Fold s (pressB h (wordsB hb 64) (n + 64) false) (n + 64) hb 0 := by
 obtain ⟨_, h1, h2, h3, h4, h5⟩ := f
 refine ⟨by omega, by omega, by omega, ?_, by rw [List.take_zero, List.drop_eq_nil_of_le (by omega)], h5⟩
 obtain ⟨q, rfl⟩ : ∃ q, n = 64 * q := ⟨n / 64, by omega⟩
 have e : (64 * q + 64) / 64 = q + 1 := by omega
 have e2 : 64 * q / 64 = q := by omega
 rw [e]
 rw [e2] at h3
 rw [h3]
 show _ = pressB (allB s q) (wordsB (pieceB s q) 64) (64 * (q + 1)) false
 have e3 : pieceB s q = hb := by
  unfold pieceB
  rw [← h4, List.take_take, Nat.min_self, List.take_of_length_le (by omega)]
 rw [e3, show 64 * (q + 1) = 64 * q + 64 by omega]
theorem Fold.lay {s : List UInt8} {h : WL} {n : Nat} {hb : List UInt8} {k : Nat} (f : Fold s h n hb k) (t : List UInt8) (ht : k + t.length ≤ 64) : Fold (s ++ t) h n (hb.take k ++ t ++ hb.drop (k + t.length)) (k + t.length) := by
 obtain ⟨h0, h1, h2, h3, h4, h5⟩ := f
 have hk : (hb.take k).length = k := by rw [List.length_take]; omega
 refine ⟨ht, by rw [List.length_append]; omega, h2, ?_, ?_, ?_⟩
 ·rw [allB_append _ _ _ (by omega)]; exact h3
 ·rw [List.take_append_of_le_length (by rw [List.length_append, hk]; exact Nat.le_refl _), List.take_of_length_le (by rw [List.length_append, hk]; exact Nat.le_refl _), List.drop_append_of_le_length (by omega), h4]
 ·simp; omega
theorem Fold.fin {s : List UInt8} {h : WL} {n : Nat} {hb : List UInt8} {k : Nat} (f : Fold s h n hb k) (h0 : s = [] ∨ 0 < k) : pressB h (wordsB (hb.take k ++ List.replicate (64 - k) 0) 64) (n + k) true = digW s := by
 obtain ⟨hk, h1, h2, h3, h4, h5⟩ := f
 unfold digW
 have e1 : n / 64 = lastB s := by
  unfold lastB
  rcases h0 with rfl | h0
  ·have : n = 0 := by simp at h1; omega
   subst this; rfl
  ·omega
 have e2 : n = 64 * lastB s := by omega
 rw [h3, e1, h1]
 congr 1
 apply wordsB_congr
 intro j hj
 unfold byteW
 rw [if_pos hj, if_pos hj, h4]
 congr 1
 unfold pieceB
 rw [← e2]
 have e3 : (s.drop n).length = k := by rw [List.length_drop]; omega
 rw [List.take_of_length_le (by omega)]
 unfold List.getD
 by_cases h : j < k
 ·rw [List.getElem?_append_left (by omega)]
 ·rw [List.getElem?_append_right (by omega), List.getElem?_eq_none (l := s.drop n) (by omega), List.getElem?_replicate]
  split <;> rfl
end Go.Proofs.YtjmeakfjfpnciaaGreat
namespace Go.Proofs.YtjmeakfjfpnciaaGreat
open Go.RowKit
theorem wrap32_nat (n : Nat) : IntKind.u32.wrap (n : Int) = ((n % 4294967296 : Nat) : Int) := by
 simp [IntKind.wrap, IntKind.signed, IntKind.bits]
theorem bv_of (x : BitVec 32) : BitVec.ofInt 32 (x.toNat : Int) = x := by apply BitVec.eq_of_toNat_eq; simp
theorem wrap_bv (x : BitVec 32) : IntKind.u32.wrap (x.toNat : Int) = (x.toNat : Int) := by
 have := x.isLt
 rw [wrap32_nat, Nat.mod_eq_of_lt (by omega)]
theorem bits_xor (a b : BitVec 32) : bits BinOp.xor IntKind.u32 (a.toNat : Int) (b.toNat : Int) = ((a ^^^ b).toNat : Int) := by
 show IntKind.u32.wrap ((BitVec.ofInt 32 (a.toNat : Int) ^^^ BitVec.ofInt 32 (b.toNat : Int) : BitVec 32).toNat : Int) = _
 rw [bv_of, bv_of, wrap_bv]
theorem bits_not (a : BitVec 32) : bits BinOp.xor IntKind.u32 4294967295 (a.toNat : Int) = ((~~~ a).toNat : Int) := by
 have e : (4294967295 : Int) = ((4294967295#32).toNat : Int) := rfl
 rw [e, bits_xor, BitVec.not_def, show (4294967295#32) = BitVec.allOnes 32 from rfl]
theorem bits_or (a b : Nat) (ha : a < 4294967296) (hb : b < 4294967296) : bits BinOp.or IntKind.u32 (a : Int) (b : Int) = ((a ||| b : Nat) : Int) := by
 show IntKind.u32.wrap ((BitVec.ofInt 32 (a : Int) ||| BitVec.ofInt 32 (b : Int) : BitVec 32).toNat : Int) = _
 have e : ∀ n : Nat, BitVec.ofInt 32 (n : Int) = BitVec.ofNat 32 n := fun n => by apply BitVec.eq_of_toNat_eq; simp
 rw [e, e, wrap_bv, BitVec.toNat_or, BitVec.toNat_ofNat, BitVec.toNat_ofNat, Nat.mod_eq_of_lt (show a < 2 ^ 32 from ha), Nat.mod_eq_of_lt (show b < 2 ^ 32 from hb)]
theorem add32 (a b : BitVec 32) : ((a.toNat : Int) + (b.toNat : Int)) % 4294967296 = ((a + b).toNat : Int) := by
 rw [BitVec.toNat_add]; omega
def wlV (l : WL) : List Value := l.map fun x => .int .u32 (x.toNat : Int)
theorem wlV_len (l : WL) : (wlV l).length = l.length := List.length_map _
theorem wlV_get (l : WL) (i : Nat) (h : i < l.length) : (wlV l)[i]? = some (.int .u32 ((l.getD i 0).toNat : Int)) := by
 unfold wlV
 simp [List.getD, h]
theorem wlV_set (l : WL) (i : Nat) (x : BitVec 32) : (wlV l).set i (.int .u32 (x.toNat : Int)) = wlV (l.set i x) := by
 unfold wlV
 rw [List.map_set]
end Go.Proofs.YtjmeakfjfpnciaaGreat
namespace Go.Proofs.YtjmeakfjfpnciaaGreat
open Go.RowKit
def putL (cs : List Value) (o : Nat) : List Value → List Value
 | [] => cs
 | v :: vs => putL (cs.set o v) (o + 1) vs
theorem putL_eq : ∀ (vs cs : List Value) (o : Nat), o + vs.length ≤ cs.length → putL cs o vs = cs.take o ++ vs ++ cs.drop (o + vs.length)
 | [], cs, o, _ => by simp [putL]
 | v :: vs, cs, o, h => by
   rw [List.length_cons] at h
   rw [putL, putL_eq vs _ _ (by rw [List.length_set]; omega)]
   have h1 : (cs.set o v).take (o + 1) = cs.take o ++ [v] := by
    rw [List.take_succ_eq_append_getElem (by rw [List.length_set]; omega), List.take_set_of_le (Nat.le_refl _), List.getElem_set_self]
   have h2 : (cs.set o v).drop (o + 1 + vs.length) = cs.drop (o + (v :: vs).length) := by
    rw [List.drop_set_of_lt (by omega), List.length_cons, show o + 1 + vs.length = o + (vs.length + 1) by omega]
   rw [h1, h2]
   simp
theorem putL_all (cs vs : List Value) (h : vs.length = cs.length) : putL cs 0 vs = vs := by
 rw [putL_eq _ _ _ (by omega)]
 simp [h]
section
variable {W w0 w : World} {b o n : Nat} {t : TypeId} {cs vs : List Value} {P : Program}
theorem Bx.range (h : Bx W b t cs) : W.rangeAt b 0 cs := fun j v hv => by rw [Nat.zero_add]; exact h.cell hv
theorem Bx.part {as1 bs : List Value} (h : Bx W b t (as1 ++ (cs ++ bs))) (ho : as1.length = o) : W.rangeAt b o cs := fun j v hv => h.cell (by
 have hj := (List.getElem?_eq_some_iff.1 hv).1
 rw [List.getElem?_append_right (by omega), show o + j - as1.length = j by omega, List.getElem?_append_left hj, hv])
theorem Bx.there (h : Bx W b t cs) (hn : o + n ≤ cs.length) : W.there b o n := fun j hj => ⟨by rw [h.cell (List.getElem?_eq_getElem (show o + j < cs.length by omega))]; rfl, h.frozen _⟩
theorem Bx.put : ∀ (vs : List Value) {W : World} {cs : List Value} {o : Nat}, Bx W b t cs → Bx (W.setCells b o vs) b t (putL cs o vs)
 | [], _, _, _, h => h
 | v :: vs, _, _, _, h => Bx.put vs (h.set _ v)
theorem grown_put (b : Nat) : ∀ (vs : List Value) (W : World) (o : Nat), W.grownBy (W.setCells b o vs) (some b)
 | [], W, _ => ⟨rfl, rfl, rfl, Nat.le_refl _, fun _ _ _ => rfl⟩
 | v :: vs, W, o => (grown_set W b o v).trans (grown_put b vs _ _)
theorem size_put (b : Nat) : ∀ (vs : List Value) (W : World) (o : Nat), (W.setCells b o vs).heap.size = W.heap.size
 | [], _, _ => rfl
 | v :: vs, W, o => by
   show ((W.setCell ⟨b, o, none⟩ v).setCells b (o + 1) vs).heap.size = _
   rw [size_put b vs]
   simp [World.setCell]
theorem puts (h : Hid (Bx W b t cs)) (o : Nat) (vs cs' : List Value) (hc : putL cs o vs = cs') : ∃ W', W.setCells b o vs = W' ∧ Hid (W.grownBy W' (some b)) ∧ Hid (W'.heap.size = W.heap.size) ∧ Hid (Bx W' b t cs') :=
 ⟨_, rfl, Lib.hid (grown_put b vs W o), Lib.hid (size_put b vs W o), Lib.hid (hc ▸ h.out.put vs)⟩
theorem wp_store_new {op : Oper} {a : Act} {K : Act → World → Prop} {Q : Exit → Act → World → Prop} (ty t : TypeId) (x y : Operand) (ho : op.op = .store ty x y) (c c' : List Value)
  (hx : a.eval x = .pointer (some ⟨w.heap.size, 0, none⟩)) (hy : a.eval y = .agg c'.toArray) (hi : (P.info? ty).map (·.size) = some c'.length) (hc : c.length = c'.length) (h1 : ∀ v ∈ c', v.oneCell' = true)
  (h : K (a.put op.dst undef) (w.alloc (.cells c'.toArray t))) : op.wp P a (w.alloc (.cells c.toArray t)) K Q := by
 refine wp_store_mid ty x y ho w.heap.size 0 c'.toArray hx hy ?_ (by simpa using hi) (all_oneCell_toArray h1) ?_
 ·have hb : Bx (w.alloc (.cells c.toArray t)) w.heap.size t c := Bx.new w t c _ rfl
  exact hb.there (by simp; omega)
 ·have hb : Bx (w.alloc (.cells c.toArray t)) w.heap.size t c := Bx.new w t c _ rfl
  have e : (w.alloc (.cells c.toArray t)).setCells w.heap.size 0 c' = w.alloc (.cells c'.toArray t) := by
   have key : ∀ (vs c : List Value) (o : Nat), (w.alloc (.cells c.toArray t)).setCells w.heap.size o vs = w.alloc (.cells (putL c o vs).toArray t) := by
    intro vs
    induction vs with
    | nil => intro c o; rfl
    | cons v vs ih =>
     intro c o
     show ((w.alloc (.cells c.toArray t)).setCell ⟨w.heap.size, o, none⟩ v).setCells w.heap.size (o + 1) vs = _
     rw [World.setCell_alloc_at _ _ _ _ _ rfl]
     simp only [List.setIfInBounds_toArray]
     exact ih _ _
   rw [key, putL_all _ _ hc.symm]
  simp only
  rw [e]
  exact h
theorem wpList_store_new {ops : Array Oper} {rest : List Oper} {op : Oper} {a : Act} {Q : Exit → Act → World → Prop} (hgd : op.guard = none) (ty t : TypeId) (x y : Operand) (ho : op.op = .store ty x y) (c c' : List Value)
  (hx : a.eval x = .pointer (some ⟨w.heap.size, 0, none⟩)) (hy : a.eval y = .agg c'.toArray) (hi : (P.info? ty).map (·.size) = some c'.length) (hc : c.length = c'.length) (h1 : ∀ v ∈ c', v.oneCell' = true)
  (h : wpList P ops Q rest (a.put op.dst undef) (w.alloc (.cells c'.toArray t))) : wpList P ops Q (op :: rest) a (w.alloc (.cells c.toArray t)) :=
 wpList_plain hgd fun _ hK => wp_store_new ty t x y ho c c' hx hy hi hc h1 (hK _ _ h)
theorem grown_row {g : Nat} (w : World) (cs : Array Value) : w.grownBy (w.setRow g cs) (some g) :=
 ⟨rfl, rfl, rfl, by simp [World.setRow], fun k _ hk => setRow_other w g k cs (fun e => hk (by rw [e]))⟩
theorem wpList_copyB {ops : Array Oper} {rest : List Oper} {op : Oper} {a : Act} {Q : Exit → Act → World → Prop} (hgd : op.guard = none) (d s : Operand) (dT sT : TypeId)
  (ho : op.op = .call { callee := .builtin .copy, args := #[d, s], argTypes := #[dT, sT] }) (elem : TypeId) (hu : P.underlying dT = some (.slice elem)) (hsz : (P.info? elem).map (·.size) = some 1)
  (g off dLen dCap : Nat) (ad : Addr) (sLen sCap : Nat) (hd : a.eval d = .slice (some ⟨g, off, none⟩) dLen dCap) (hs : a.eval s = .slice (some ad) sLen sCap)
  (cur : List Value) (t : TypeId) (hg : Bx w g t cur) (cs : List Value) (hn : cs.length = Nat.min sLen dLen)
  (hsrc : ∀ j v, cs[j]? = some v → w.cell? (ad.add j) = some v) (hfit : off + cs.length ≤ cur.length) (h1 : ∀ v ∈ cs, v.oneCell' = true) (cs' : List Value) (hc : putL cur off cs = cs')
  (h : ∀ w', Hid (w.grownBy w' (some g)) → Hid (w'.heap.size = w.heap.size) → Hid (Bx w' g t cs') → wpList P ops Q rest (a.put op.dst (goInt cs.length)) w') : wpList P ops Q (op :: rest) a w := by
 refine wpList_copy_own hgd d s dT sT ho elem hu hsz g off dLen dCap ad sLen sCap hd hs cur.toArray t hg cs hn hsrc (by simpa using hfit) h1 ?_
 refine h _ (Lib.hid (grown_row _ _)) (Lib.hid (by simp [World.setRow])) (Lib.hid ?_)
 show (w.setRow g _).heap[g]? = _
 rw [setRow_heap w g _ _ t _ hg, ← hc, putL_eq _ _ _ hfit]
 simp
theorem run_copy_str (w : World) (dT sT ty elem : TypeId) (g o dLen dCap : Nat) (s : ByteArray) (cur : Array Value) (t : TypeId)
  (hu : P.underlying dT = some (.slice elem)) (hs : (P.info? elem).map (·.size) = some 1) (hg : w.heap[g]? = some (.cells cur t (0, 0))) (hfit : o + dLen ≤ cur.size) :
  (Builtin.copy_ #[dT, sT] ty #[.slice (some ⟨g, o, none⟩) dLen dCap, .string s]).run P w =
   .ok (goInt (Nat.min s.size dLen)) (w.setRow g (cur.toList.take o ++ (Lib.byteCells s.data.toList).take dLen ++ cur.toList.drop (o + ((Lib.byteCells s.data.toList).take dLen).length)).toArray) := by
 have hlen : ((Lib.byteCells s.data.toList).take dLen).length = Nat.min s.size dLen := by
  rw [List.length_take, Lib.byteCells_length, ← Lib.size_eq, Nat.min_comm]
 have hst := run_storeCells_at P g o t ((Lib.byteCells s.data.toList).take dLen) 0 cur w hg (by rw [hlen]; have := Nat.min_le_right s.size dLen; simp only [Nat.add_zero]; exact Nat.le_trans (Nat.add_le_add_left this _) hfit) (fun v hv => Lib.byteCells_one _ v (List.mem_of_mem_take hv))
 have htk : List.take (Nat.min s.size dLen) (List.map (fun b : UInt8 => Value.int IntKind.u8 (b.toNat : Int)) s.data.toList) = (Lib.byteCells s.data.toList).take dLen := by
  unfold Lib.byteCells
  show List.take (min s.size dLen) _ = _
  rw [Nat.min_comm, ← List.take_take, List.take_of_length_le (i := s.size) (by rw [List.length_map, ← Lib.size_eq]; exact Nat.le_refl _)]
 simp only [Nat.add_zero] at hst
 cases hq : P.info? elem with
 | none => simp [hq] at hs
 | some i =>
  simp [Builtin.copy_, run_underlying hu, Builtin.lenOf, Builtin.firstCells, sizeOf, typeInfo, hq]
  rw [htk, hst]
  simp [Result.andThen]
theorem wpList_copyS {ops : Array Oper} {rest : List Oper} {op : Oper} {a : Act} {Q : Exit → Act → World → Prop} (hgd : op.guard = none) (d s : Operand) (dT sT : TypeId)
  (ho : op.op = .call { callee := .builtin .copy, args := #[d, s], argTypes := #[dT, sT] }) (elem : TypeId) (hu : P.underlying dT = some (.slice elem)) (hsz : (P.info? elem).map (·.size) = some 1)
  (g off dLen dCap : Nat) (x : ByteArray) (hd : a.eval d = .slice (some ⟨g, off, none⟩) dLen dCap) (hs : a.eval s = .string x)
  (cur : List Value) (t : TypeId) (hg : Bx w g t cur) (hfit : off + dLen ≤ cur.length) (cs' : List Value) (hc : putL cur off ((Lib.byteCells x.data.toList).take dLen) = cs')
  (h : ∀ w', Hid (w.grownBy w' (some g)) → Hid (w'.heap.size = w.heap.size) → Hid (Bx w' g t cs') → wpList P ops Q rest (a.put op.dst (goInt (Nat.min x.size dLen))) w') : wpList P ops Q (op :: rest) a w := by
 refine wpList_plain hgd fun K hK => ?_
 have hrun := run_copy_str (P := P) w dT sT op.type elem g off dLen dCap x cur.toArray t hu hsz hg (by simpa using hfit)
 have hl : off + ((Lib.byteCells x.data.toList).take dLen).length ≤ cur.length := by rw [List.length_take]; have := Nat.min_le_left dLen (Lib.byteCells x.data.toList).length; omega
 unfold Oper.wp
 simp [execOp, ho, resolve, invoke, builtin, hd, hs, hrun, Result.andThen]
 refine hK _ _ (h _ (Lib.hid (grown_row _ _)) (Lib.hid (by simp [World.setRow])) (Lib.hid ?_))
 show (w.setRow g _).heap[g]? = _
 rw [setRow_heap w g _ _ t _ hg, ← hc, putL_eq _ _ _ hl]
 simp
theorem wpList_clearB {ops : Array Oper} {rest : List Oper} {op : Oper} {a : Act} {Q : Exit → Act → World → Prop} (hgd : op.guard = none) (x : Operand) (T : TypeId)
  (ho : op.op = .call { callee := .builtin .clear, args := #[x], argTypes := #[T] }) (e : TypeId) (z : Value) (ht : P.underlying T = some (.slice e)) (hv : ∀ w, (zeroValue e).run P w = .ok z w) (hz : z.cells = #[z]) (h1 : z.oneCell' = true)
  (g off n c : Nat) (hx : a.eval x = .slice (some ⟨g, off, none⟩) n c) (cur : List Value) (t : TypeId) (hg : Bx w g t cur) (hfit : off + n ≤ cur.length) (cs' : List Value) (hc : putL cur off (List.replicate n z) = cs')
  (h : ∀ w', Hid (w.grownBy w' (some g)) → Hid (w'.heap.size = w.heap.size) → Hid (Bx w' g t cs') → wpList P ops Q rest (a.put op.dst (.tuple #[])) w') : wpList P ops Q (op :: rest) a w := by
 refine wpList_plain hgd fun K hK => ?_
 by_cases hn : n = 0
 ·subst hn
  have hrun : (Builtin.clear_ #[T] op.type #[.slice (some ⟨g, off, none⟩) 0 c]).run P w = .ok (.tuple #[]) w := by simp [Builtin.clear_, run_underlying ht]
  unfold Oper.wp
  simp [execOp, ho, resolve, invoke, builtin, hx, hrun, Result.andThen]
  exact hK _ _ (h w (Lib.hid ⟨rfl, rfl, rfl, Nat.le_refl _, fun _ _ _ => rfl⟩) (Lib.hid rfl) (Lib.hid (hc ▸ hg)))
 ·have hrun := Lib.run_clear_slice (P := P) w T e op.type z ht hv hz h1 g off n c (by omega) (fun j hj => (hg.there hfit j hj).1) (fun j hj => (hg.there hfit j hj).2)
  unfold Oper.wp
  simp [execOp, ho, resolve, invoke, builtin, hx, hrun, Result.andThen]
  exact hK _ _ (h _ (Lib.hid (grown_put g _ w off)) (Lib.hid (size_put g _ w off)) (Lib.hid (hc ▸ hg.put _)))
theorem wpQuiet_load {ops : Array Oper} {C : World → Prop} {Q : Act → Prop} {rest : List Oper} {op : Oper} {a : Act} (hgd : op.guard = none) (ty : TypeId) (x : Operand) (ho : op.op = .load ty x)
  (b o : Nat) (hx : a.eval x = .pointer (some ⟨b, o, none⟩)) (cs : List Value) (d : TypeDesc) (hC : ∀ w, C w → w.rangeAt b o cs) (hu : P.underlying ty = some d) (hd : d.isRow = true) (hi : (P.info? ty).map (·.size) = some cs.length)
  (h : wpQuiet P ops C Q rest (a.put op.dst (.agg cs.toArray))) : wpQuiet P ops C Q (op :: rest) a := by
 refine BigFrame.wpQuiet_want (by simp [Region.wanted, hgd]) fun K hK => ⟨_, fun w hw => ?_, hK _ h⟩
 unfold Oper.quietAt execOp
 simp only [ho, hx, Instr.loadAt, Instr.sureAddr, Sem.run_bind, Sem.run_pure, Result.andThen_ok, run_loadVar_mid w b o ty cs d (hC w hw) hu hd hi]
 exact ⟨rfl, rfl⟩
end
theorem ret_arr {P : Program} {fn : Func} {R : Ending → World → Prop} {a : Act} {w : World} {p : Tmp} {ty : TypeId} (h : fn.results = #[.cell p ty]) {b : Nat} {t : TypeId} {cs : List Value} (hb : Bx w b t cs) (d : TypeDesc)
  (hp : a.tmps.getD p undef = .pointer (some ⟨b, 0, none⟩)) (hu : P.underlying ty = some d) (hd : d.isRow = true) (hi : (P.info? ty).map (·.size) = some cs.length) (ha : a.defers = []) (hR : R (.returned (.agg cs.toArray)) w) : bodyPost P fn R .ret a w :=
 bodyPost_ret (results_cell_row h a.tmps w b t cs.toArray (0, 0) d hp hb hu (by cases d <;> simp_all) (by simpa using hi)) ha hR
theorem run_index_arr {P : Program} (w : World) (t e : TypeId) (k : IntKind) (n : Nat) (cs : List Value) (i : Nat) (v : Value) (hv : cs[i]? = some v) (hu : P.underlying t = some (.array n e)) (hn : cs.length = n) (hs : (P.info? e).map (·.size) = some 1) (he : P.underlying e = some (.int k)) :
  (Instr.index t (.agg cs.toArray) (.int .i64 (i : Int))).run P w = .ok v w := by
 have hi : i < n := hn ▸ (List.getElem?_eq_some_iff.1 hv).1
 cases hq : P.info? e with
 | none => simp [hq] at hs
 | some inf =>
  have h1 : inf.size = 1 := by simpa [hq] using hs
  simp [Instr.index, asIntOf, run_underlying hu, hi, sizeOf, typeInfo, hq, h1, part, isAgg, run_underlying he, hv]
theorem wl_one (l : WL) : ∀ v ∈ wlV l, v.oneCell' = true := fun v hv => by
 unfold wlV at hv
 obtain ⟨x, _, rfl⟩ := List.mem_map.1 hv
 rfl
end Go.Proofs.YtjmeakfjfpnciaaGreat
namespace Go.Proofs.YtjmeakfjfpnciaaGreat
def IsPrime (p : Nat) : Prop := 2 ≤ p ∧ ∀ d, d ∣ p → d = 1 ∨ d = p
theorem IsPrime.coprime_of_not_dvd {p a : Nat} (hp : IsPrime p) (h : ¬ p ∣ a) : Nat.Coprime p a := by
 rcases hp.2 (Nat.gcd p a) (Nat.gcd_dvd_left p a) with h1 | h1
 ·exact h1
 ·exact absurd (h1 ▸ Nat.gcd_dvd_right p a) h
theorem IsPrime.dvd_mul {p a b : Nat} (hp : IsPrime p) (h : p ∣ a * b) : p ∣ a ∨ p ∣ b := by
 by_cases ha : p ∣ a
 ·exact Or.inl ha
 ·exact Or.inr ((hp.coprime_of_not_dvd ha).dvd_of_dvd_mul_left h)
theorem exists_prime_dvd : ∀ n : Nat, 2 ≤ n → ∃ p, IsPrime p ∧ p ∣ n := by
 intro n
 induction n using Nat.strongRecOn with
 | ind n ih =>
  intro hn
  by_cases h : ∃ d, d ∣ n ∧ d ≠ 1 ∧ d ≠ n
  ·obtain ⟨d, hd, h1, h2⟩ := h
   have hd0 : d ≠ 0 := by
    intro e; subst e; have := Nat.eq_zero_of_zero_dvd hd; omega
   have hle := Nat.le_of_dvd (by omega) hd
   obtain ⟨p, hp, hpd⟩ := ih d (by omega) (by omega)
   exact ⟨p, hp, Nat.dvd_trans hpd hd⟩
  ·refine ⟨n, ⟨hn, fun d hd => ?_⟩, Nat.dvd_refl n⟩
   by_cases h1 : d = 1
   ·exact Or.inl h1
   ·by_cases h2 : d = n
    ·exact Or.inr h2
    ·exact absurd ⟨d, hd, h1, h2⟩ h
theorem exists_small_prime {n : Nat} (hn : 2 ≤ n) (h : ¬ IsPrime n) : ∃ p, IsPrime p ∧ p ∣ n ∧ p * p ≤ n := by
 have : ∃ d, d ∣ n ∧ d ≠ 1 ∧ d ≠ n := by
  apply Classical.byContradiction
  intro hc
  apply h
  refine ⟨hn, fun d hd => ?_⟩
  by_cases h1 : d = 1
  ·exact Or.inl h1
  ·by_cases h2 : d = n
   ·exact Or.inr h2
   ·exact absurd ⟨d, hd, h1, h2⟩ hc
 obtain ⟨d, ⟨c, hc⟩, h1, h2⟩ := this
 have hd0 : d ≠ 0 := by intro e; subst e; simp at hc; omega
 have hc0 : c ≠ 0 := by intro e; subst e; simp at hc; omega
 have hc1 : c ≠ 1 := by intro e; subst e; simp at hc; omega
 rcases Nat.le_total d c with hdc | hdc
 ·obtain ⟨p, hp, hpd⟩ := exists_prime_dvd d (by omega)
  refine ⟨p, hp, Nat.dvd_trans hpd ⟨c, hc⟩, ?_⟩
  have := Nat.le_of_dvd (by omega) hpd
  calc p * p ≤ d * d := Nat.mul_le_mul this this
   _ ≤ d * c := Nat.mul_le_mul_left d hdc
   _ = n := hc.symm
 ·obtain ⟨p, hp, hpd⟩ := exists_prime_dvd c (by omega)
  refine ⟨p, hp, Nat.dvd_trans hpd ⟨d, by rw [hc, Nat.mul_comm]⟩, ?_⟩
  have := Nat.le_of_dvd (by omega) hpd
  calc p * p ≤ c * c := Nat.mul_le_mul this this
   _ ≤ d * c := Nat.mul_le_mul_right c hdc
   _ = n := hc.symm
def choose : Nat → Nat → Nat
 | _, 0 => 1
 | 0, _ + 1 => 0
 | n + 1, k + 1 => choose n k + choose n (k + 1)
theorem choose_zero (n : Nat) : choose n 0 = 1 := by cases n <;> rfl
theorem choose_big : ∀ n k, n < k → choose n k = 0
 | 0, _ + 1, _ => rfl
 | n + 1, k + 1, h => by rw [choose, choose_big n k (by omega), choose_big n (k + 1) (by omega)]
theorem choose_self : ∀ n, choose n n = 1
 | 0 => rfl
 | n + 1 => by rw [choose, choose_self n, choose_big n (n + 1) (by omega)]
theorem choose_mul : ∀ n k, choose (n + 1) (k + 1) * (k + 1) = (n + 1) * choose n k
 | 0, 0 => rfl
 | 0, k + 1 => by simp [choose]
 | n + 1, 0 => by
  have h := choose_mul n 0
  have e : choose (n + 1 + 1) (0 + 1) = choose (n + 1) 0 + choose (n + 1) (0 + 1) := rfl
  rw [e]
  simp only [choose_zero, Nat.mul_one, Nat.zero_add] at h ⊢
  omega
 | n + 1, k + 1 => by
  have h1 := choose_mul n k
  have h2 := choose_mul n (k + 1)
  have e : choose (n + 1) (k + 1) = choose n k + choose n (k + 1) := rfl
  have e2 : choose (n + 1 + 1) (k + 1 + 1) = choose (n + 1) (k + 1) + choose (n + 1) (k + 1 + 1) := rfl
  rw [e2, Nat.add_mul, h2]
  have : choose (n + 1) (k + 1) * (k + 1 + 1) = choose (n + 1) (k + 1) * (k + 1) + choose (n + 1) (k + 1) := by
   rw [Nat.mul_add, Nat.mul_one]
  rw [this, h1]
  have : (n + 1 + 1) * choose (n + 1) (k + 1) = (n + 1) * choose (n + 1) (k + 1) + choose (n + 1) (k + 1) := by
   rw [Nat.add_mul (n + 1) 1, Nat.one_mul]
  rw [this, e, Nat.mul_add]
  omega
def binom (a n : Nat) : Nat → Nat
 | 0 => 0
 | m + 1 => binom a n m + choose n m * a ^ m
theorem binom_succ (a n : Nat) : ∀ m, binom a (n + 1) (m + 1) = binom a n (m + 1) + a * binom a n m
 | 0 => by simp [binom, choose_zero]
 | m + 1 => by
  have ih := binom_succ a n m
  rw [binom, ih]
  have e : choose (n + 1) (m + 1) = choose n m + choose n (m + 1) := rfl
  rw [e]
  have e1 : binom a n (m + 1 + 1) = binom a n (m + 1) + choose n (m + 1) * a ^ (m + 1) := rfl
  have e2 : binom a n (m + 1) = binom a n m + choose n m * a ^ m := rfl
  rw [e1, Nat.add_mul]
  have e3 : a * binom a n (m + 1) = a * binom a n m + choose n m * a ^ (m + 1) := by
   rw [e2, Nat.mul_add, Nat.pow_succ]
   have : a * (choose n m * a ^ m) = choose n m * (a ^ m * a) := by
    rw [Nat.mul_left_comm, Nat.mul_comm a]
   rw [this]
  rw [e3]
  omega
theorem binom_all (a : Nat) : ∀ n, (a + 1) ^ n = binom a n (n + 1)
 | 0 => by simp [binom, choose]
 | n + 1 => by
  rw [binom_succ, Nat.pow_succ, binom_all a n]
  have e : binom a n (n + 1 + 1) = binom a n (n + 1) := by
   show binom a n (n + 1) + choose n (n + 1) * a ^ (n + 1) = _
   rw [choose_big n (n + 1) (by omega)]; simp
  rw [e, Nat.mul_add, Nat.mul_one, Nat.mul_comm, Nat.add_comm]
theorem prime_dvd_choose {p : Nat} (hp : IsPrime p) {k : Nat} (h0 : 0 < k) (h1 : k < p) : p ∣ choose p k := by
 obtain ⟨n, rfl⟩ : ∃ n, p = n + 1 := ⟨p - 1, by have := hp.1; omega⟩
 obtain ⟨j, rfl⟩ : ∃ j, k = j + 1 := ⟨k - 1, by omega⟩
 have h := choose_mul n j
 have : (n + 1) ∣ choose (n + 1) (j + 1) * (j + 1) := ⟨choose n j, h⟩
 rcases hp.dvd_mul this with h | h
 ·exact h
 ·have := Nat.le_of_dvd (by omega) h; omega
theorem binom_mod {p : Nat} (hp : IsPrime p) (a : Nat) : ∀ m, m < p → binom a p (m + 1) % p = 1 % p
 | 0, _ => by simp [binom, choose_zero]
 | m + 1, h => by
  rw [binom, Nat.add_mod, binom_mod hp a m (by omega)]
  have : choose p (m + 1) * a ^ (m + 1) % p = 0 :=
   Nat.mod_eq_zero_of_dvd (Nat.dvd_trans (prime_dvd_choose hp (by omega) h) ⟨_, rfl⟩)
  rw [this]; simp
theorem succ_pow_mod {p : Nat} (hp : IsPrime p) (a : Nat) : (a + 1) ^ p % p = (a ^ p + 1) % p := by
 have h2 := hp.1
 rw [binom_all]
 show (binom a p p + choose p p * a ^ p) % p = _
 have e := binom_mod hp a (p - 1) (by omega)
 rw [show p - 1 + 1 = p by omega] at e
 rw [choose_self, Nat.one_mul, Nat.add_mod, e, ← Nat.add_mod, Nat.add_comm]
theorem pow_prime_mod {p : Nat} (hp : IsPrime p) : ∀ a : Nat, a ^ p % p = a % p
 | 0 => by rw [Nat.zero_pow (by have := hp.1; omega)]
 | a + 1 => by rw [succ_pow_mod hp, Nat.add_mod, pow_prime_mod hp a, ← Nat.add_mod]
theorem mod_eq_iff_dvd_sub {a b n : Nat} (h : b ≤ a) : a % n = b % n ↔ n ∣ a - b := by
 constructor
 ·intro e
  exact Nat.dvd_of_mod_eq_zero (Nat.sub_mod_eq_zero_of_mod_eq e)
 ·rintro ⟨c, hc⟩
  have : a = b + n * c := by omega
  rw [this, Nat.add_mul_mod_self_left]
theorem mul_cancel_mod {p a x y : Nat} (hp : Nat.Coprime p a) (h : a * x % p = a * y % p) : x % p = y % p := by
 rcases Nat.le_total y x with hxy | hxy
 ·rw [mod_eq_iff_dvd_sub (Nat.mul_le_mul_left a hxy), ← Nat.mul_sub] at h
  exact (mod_eq_iff_dvd_sub hxy).2 (hp.dvd_of_dvd_mul_left h)
 ·have h := h.symm
  rw [mod_eq_iff_dvd_sub (Nat.mul_le_mul_left a hxy), ← Nat.mul_sub] at h
  exact ((mod_eq_iff_dvd_sub hxy).2 (hp.dvd_of_dvd_mul_left h)).symm
theorem fermat {p a : Nat} (hp : IsPrime p) (h : ¬ p ∣ a) : a ^ (p - 1) % p = 1 % p := by
 have h2 := hp.1
 apply mul_cancel_mod (hp.coprime_of_not_dvd h)
 have e := pow_prime_mod hp a
 rw [show p = p - 1 + 1 by omega, Nat.pow_succ, Nat.mul_comm] at e
 rw [show p - 1 + 1 = p by omega] at e
 rw [e, Nat.mul_one]
theorem pow_mod_one {p a m : Nat} (h : a ^ m % p = 1 % p) (k : Nat) : a ^ (m * k) % p = 1 % p := by
 rw [Nat.pow_mul, Nat.pow_mod, h, ← Nat.pow_mod, Nat.one_pow]
theorem pow_gcd {p a : Nat} : ∀ m n : Nat, a ^ m % p = 1 % p → a ^ n % p = 1 % p → a ^ (Nat.gcd m n) % p = 1 % p := by
 intro m
 induction m using Nat.strongRecOn with
 | ind m ih =>
  intro n hm hn
  by_cases h0 : m = 0
  ·subst h0; simpa using hn
  ·rw [Nat.gcd_rec]
   refine ih (n % m) (Nat.mod_lt _ (by omega)) m ?_ hm
   have e : a ^ n = a ^ (m * (n / m)) * a ^ (n % m) := by rw [← Nat.pow_add, Nat.div_add_mod]
   rw [e] at hn
   rw [Nat.mul_mod, pow_mod_one hm, ← Nat.mul_mod, Nat.one_mul] at hn
   exact hn
theorem coprime_of_pow {p a m : Nat} (hp : IsPrime p) (hm : 0 < m) (h : a ^ m % p = 1 % p) : ¬ p ∣ a := by
 intro hd
 have : p ∣ a ^ m := Nat.dvd_trans hd (Nat.dvd_trans ⟨a ^ (m - 1), by rw [← Nat.pow_succ', show (m - 1).succ = m by omega]⟩ (Nat.dvd_refl _))
 rw [Nat.mod_eq_zero_of_dvd this, Nat.mod_eq_of_lt hp.1] at h
 omega
theorem proth {h k a : Nat} (hk : 0 < k) (hh : 0 < h) (hlt : h < 2 ^ k) (hw : (a ^ (h * 2 ^ (k - 1)) + 1) % (h * 2 ^ k + 1) = 0) : IsPrime (h * 2 ^ k + 1) := by
 have h2k : 2 ^ k = 2 * 2 ^ (k - 1) := by rw [← Nat.pow_succ', show (k - 1).succ = k by omega]
 have hpos : 0 < 2 ^ (k - 1) := Nat.pow_pos (by omega)
 apply Classical.byContradiction
 intro hn
 have hbig : 2 ≤ h * 2 ^ k + 1 := by have := Nat.mul_pos hh (show 0 < 2 ^ k by omega); omega
 obtain ⟨p, hp, hpd, hpp⟩ := exists_small_prime hbig hn
 have hdw : p ∣ a ^ (h * 2 ^ (k - 1)) + 1 := Nat.dvd_trans hpd (Nat.dvd_of_mod_eq_zero hw)
 have hp2 := hp.1
 have hodd : p ≠ 2 := by
  intro e; subst e
  obtain ⟨c, hc⟩ := hpd
  have : h * 2 ^ k = 2 * (h * 2 ^ (k - 1)) := by rw [h2k, Nat.mul_left_comm]
  omega
 have hx : a ^ (h * 2 ^ k) % p = 1 % p := by
  have e : a ^ (h * 2 ^ k) = a ^ (h * 2 ^ (k - 1)) * a ^ (h * 2 ^ (k - 1)) := by
   rw [← Nat.pow_add]; congr 1; rw [h2k, Nat.mul_left_comm]; omega
  rw [e]
  generalize a ^ (h * 2 ^ (k - 1)) = A at hdw
  have hA : A ≠ 0 := by
   intro e0; subst e0
   have := Nat.le_of_dvd (by omega) hdw; omega
  obtain ⟨B, rfl⟩ : ∃ B, A = B + 1 := ⟨A - 1, by omega⟩
  have e2 : (B + 1) * (B + 1) = (B + 1 + 1) * B + 1 := by
   rw [Nat.add_mul, Nat.mul_add, Nat.add_mul (B + 1), Nat.add_mul B]; omega
  rw [e2, mod_eq_iff_dvd_sub (by omega)]
  exact Nat.dvd_trans hdw ⟨B, by omega⟩
 have hcop := coprime_of_pow hp (Nat.mul_pos hh (by omega : 0 < 2 ^ k)) hx
 have hfer := fermat hp hcop
 have hg := pow_gcd _ _ hx hfer
 have hdiv : 2 ^ k ∣ Nat.gcd (h * 2 ^ k) (p - 1) := by
  apply Classical.byContradiction
  intro hnd
  have hgd : Nat.gcd (h * 2 ^ k) (p - 1) ∣ h * 2 ^ k := Nat.gcd_dvd_left _ _
  generalize Nat.gcd (h * 2 ^ k) (p - 1) = g at hg hnd hgd
  have key : ∀ k, 0 < k → ∀ g, g ∣ h * 2 ^ k → ¬ 2 ^ k ∣ g → g ∣ h * 2 ^ (k - 1) := by
   intro k
   induction k with
   | zero => intro h0; omega
   | succ k ihk =>
    intro _ g hgd hnd
    show g ∣ h * 2 ^ k
    by_cases hev : 2 ∣ g
    ·obtain ⟨g', rfl⟩ := hev
     rw [Nat.pow_succ] at hgd hnd
     have h1 : g' ∣ h * 2 ^ k := by
      obtain ⟨c, hc⟩ := hgd
      refine ⟨c, ?_⟩
      have : 2 * (h * 2 ^ k) = 2 * (g' * c) := by
       rw [← Nat.mul_assoc 2 g' c, ← hc, Nat.mul_comm 2, Nat.mul_assoc]
      omega
     have h2 : ¬ 2 ^ k ∣ g' := by
      rintro ⟨c, rfl⟩
      exact hnd ⟨c, by rw [Nat.mul_comm (2 ^ k) 2, Nat.mul_assoc]⟩
     by_cases hk0 : k = 0
     ·subst hk0; exact absurd (Nat.one_dvd g') h2
     ·have := ihk (by omega) g' h1 h2
      rw [show k = k - 1 + 1 by omega, Nat.pow_succ, ← Nat.mul_assoc, Nat.mul_comm 2]
      exact Nat.mul_dvd_mul_right this 2
    ·have hc2 : Nat.Coprime g 2 := by
      have p2 : IsPrime 2 := ⟨by omega, fun d hd => by have := Nat.le_of_dvd (by omega) hd; have : d ≠ 0 := (by intro e; subst e; simp at hd); omega⟩
      exact (p2.coprime_of_not_dvd hev).symm
     rw [Nat.pow_succ, ← Nat.mul_assoc] at hgd
     exact hc2.dvd_of_dvd_mul_right hgd
  obtain ⟨c, hc⟩ := key k hk g hgd hnd
  have h1 := pow_mod_one hg c
  rw [← hc] at h1
  have : (a ^ (h * 2 ^ (k - 1)) + 1) % p = 2 % p := by rw [Nat.add_mod, h1, ← Nat.add_mod]
  rw [Nat.mod_eq_zero_of_dvd hdw] at this
  rw [Nat.mod_eq_of_lt (by omega)] at this
  omega
 have h1 : 2 ^ k ∣ p - 1 := Nat.dvd_trans hdiv (Nat.gcd_dvd_right _ _)
 have h2 := Nat.le_of_dvd (by omega) h1
 have h3 : (2 ^ k + 1) * (2 ^ k + 1) ≤ p * p := Nat.mul_le_mul (by omega) (by omega)
 have h4 : h * 2 ^ k ≤ 2 ^ k * 2 ^ k := Nat.mul_le_mul_right _ (by omega)
 have h5 : (2 ^ k + 1) * (2 ^ k + 1) = 2 ^ k * 2 ^ k + 2 ^ k + 2 ^ k + 1 := by rw [Nat.add_mul, Nat.mul_add]; omega
 omega
theorem pocklington {q a : Nat} (hq : IsPrime q) (ha : 2 ≤ a) (h1 : a ^ (2 * q) % (2 * q + 1) = 1) (h2 : Nat.gcd (a ^ 2 - 1) (2 * q + 1) = 1) : IsPrime (2 * q + 1) := by
 have hq2 := hq.1
 apply Classical.byContradiction
 intro hn
 obtain ⟨p, hp, hpd, hpp⟩ := exists_small_prime (by omega) hn
 have hp2 := hp.1
 have hx : a ^ (2 * q) % p = 1 % p := by
  rw [← Nat.mod_mod_of_dvd _ hpd, h1]
 have hcop := coprime_of_pow hp (by omega) hx
 have hfer := fermat hp hcop
 have hg := pow_gcd _ _ hx hfer
 have hdiv : q ∣ Nat.gcd (2 * q) (p - 1) := by
  apply Classical.byContradiction
  intro hnd
  have hgd : Nat.gcd (2 * q) (p - 1) ∣ 2 * q := Nat.gcd_dvd_left _ _
  generalize Nat.gcd (2 * q) (p - 1) = g at hg hnd hgd
  have : g ∣ 2 := (hq.coprime_of_not_dvd hnd).symm.dvd_of_dvd_mul_right hgd
  obtain ⟨c, hc⟩ := this
  have h3 := pow_mod_one hg c
  rw [← hc] at h3
  have hpos : 1 ≤ a ^ 2 := Nat.pow_pos (by omega)
  have h4 := (mod_eq_iff_dvd_sub hpos).1 h3
  have h5 := Nat.dvd_gcd h4 hpd
  rw [h2] at h5
  have := Nat.le_of_dvd (by omega) h5
  omega
 have h3 : q ∣ p - 1 := Nat.dvd_trans hdiv (Nat.gcd_dvd_right _ _)
 have h4 := Nat.le_of_dvd (by omega) h3
 have h5 : (q + 1) * (q + 1) ≤ p * p := Nat.mul_le_mul (by omega) (by omega)
 have h6 : (q + 1) * (q + 1) = q * q + q + q + 1 := by rw [Nat.add_mul, Nat.mul_add]; omega
 have : 2 * q ≤ q * q := Nat.mul_le_mul_right q hq2
 omega
def powMod (a m : Nat) : Nat → Nat → Nat
 | 0, _ => 1 % m
 | f + 1, n => if n = 0 then 1 % m else
   let h := powMod a m f (n / 2)
   if n % 2 = 0 then h * h % m else h * h % m * a % m
theorem powMod_eq (a m : Nat) : ∀ f n, n < 2 ^ f → powMod a m f n = a ^ n % m
 | 0, n, h => by
  have : n = 0 := by simpa using h
  subst this; rfl
 | f + 1, n, h => by
  rw [powMod]
  by_cases h0 : n = 0
  ·subst h0; simp
  ·rw [if_neg h0]
   have ih := powMod_eq a m f (n / 2) (by rw [Nat.pow_succ] at h; omega)
   simp only [ih]
   have hn : n = n / 2 * 2 + n % 2 := by omega
   have e : (a ^ (n / 2) % m) * (a ^ (n / 2) % m) % m = a ^ (n / 2 * 2) % m := by
    rw [← Nat.mul_mod, ← Nat.pow_add]; congr 2; omega
   rw [e]
   by_cases h2 : n % 2 = 0
   ·rw [if_pos h2]; congr 2; omega
   ·rw [if_neg h2, Nat.mod_mul_mod, ← Nat.pow_succ]; congr 2; omega
theorem proth_by {h k a : Nat} (f : Nat) (hk : 0 < k) (hh : 0 < h) (hlt : h < 2 ^ k) (hf : h * 2 ^ (k - 1) < 2 ^ f)
  (hw : (powMod a (h * 2 ^ k + 1) f (h * 2 ^ (k - 1)) + 1) % (h * 2 ^ k + 1) = 0) : IsPrime (h * 2 ^ k + 1) := by
 rw [powMod_eq _ _ _ _ hf] at hw
 refine proth (a := a) hk hh hlt ?_
 rw [Nat.add_mod, Nat.mod_mod, ← Nat.add_mod] at hw
 exact hw
theorem pocklington_by {q a : Nat} (f : Nat) (hq : IsPrime q) (ha : 2 ≤ a) (hf : 2 * q < 2 ^ f) (h1 : powMod a (2 * q + 1) f (2 * q) = 1)
  (h2 : Nat.gcd (a ^ 2 - 1) (2 * q + 1) = 1) : IsPrime (2 * q + 1) := by
 rw [powMod_eq _ _ _ _ hf] at h1
 exact pocklington hq ha h1 h2
theorem prime_q1 : IsPrime 641 := proth_by (h := 5) (k := 7) (a := 3) 10 (by decide +kernel) (by decide +kernel) (by decide +kernel) (by decide +kernel) (by decide +kernel)
theorem prime_p1 : IsPrime 1283 := pocklington_by (q := 641) (a := 2) 11 prime_q1 (by decide +kernel) (by decide +kernel) (by decide +kernel) (by decide +kernel)
theorem prime_q2 : IsPrime 576465431670292481 := proth_by (h := 268437635) (k := 31) (a := 3) 60 (by decide +kernel) (by decide +kernel) (by decide +kernel) (by decide +kernel) (by decide +kernel)
theorem prime_p2 : IsPrime 1152930863340584963 := pocklington_by (q := 576465431670292481) (a := 2) 61 prime_q2 (by decide +kernel) (by decide +kernel) (by decide +kernel) (by decide +kernel)
theorem prime_q3 : IsPrime 7237005577332262213973186563042995786902308146886443998308627866733439352833 := proth_by (h := 42535295865117307932921825928971035519) (k := 127) (a := 3) 253 (by decide +kernel) (by decide +kernel) (by decide +kernel) (by decide +kernel) (by decide +kernel)
theorem prime_p3 : IsPrime 14474011154664524427946373126085991573804616293772887996617255733466878705667 := pocklington_by (q := 7237005577332262213973186563042995786902308146886443998308627866733439352833) (a := 2) 254 prime_q3 (by decide +kernel) (by decide +kernel) (by decide +kernel) (by decide +kernel)
end Go.Proofs.YtjmeakfjfpnciaaGreat
namespace Go.Proofs.YtjmeakfjfpnciaaGreat
open Go.RowKit
theorem byteAt_nought (n i : Nat) (h : dl n ≤ i / 2) : byteAt n i = 0 := by
 rw [byte_dg, dg_nought n _ h]
 simp
theorem textL_skip (n size k : Nat) (h : byteAt n k = 0) : textL n size k = textL n size (k + 1) := by
 unfold textL
 refine List.map_congr_left fun p _ => ?_
 by_cases h1 : size - 1 - p < k
 ·rw [if_pos h1, if_pos (by omega)]
 ·rw [if_neg h1]
  by_cases h2 : size - 1 - p < k + 1
  ·rw [if_pos h2, show size - 1 - p = k by omega, h]; rfl
  ·rw [if_neg h2]
theorem refText_any (n size : Nat) (an : Option Addr) (cn : Nat) (hln : dl n ≤ 1048576) (hs : size ≤ 1024) (w : World) (hA : NumAt w an n) :
  Calls Tryz.prog 53 #[.slice an (dl n) cn, .int .i64 (size : Int)] w fun e w' => e = .returned (.string (textS n size)) ∧ Below w.heap.size w w' := by
 obtain ⟨i0, hi, hz0, hz1, hz2⟩ := info_parts infoByte
 have HA := Lib.hid hA
 clear hA
 go_enter Tryz.func53, Tryz.ntmps53
 go_wp2_with (at_make; refine wpList_make_full _ rfl _ _ 173 rfl 0 5 i0 (.int .u8 0) 1 Tryz.underlying173 hi hz0 hz1 _ _ _ _ size rfl rfl ?c1 ?c2 ?c3 ?c4 ?c5 ?_)
 case c1 => rfl
 case c2 => rfl
 case c3 => rw [hz2]; omega
 case c4 => unfold maxLen; omega
 case c5 => omega
 intro w1 hown hgrow
 have HB1 : Hid (Below w.heap.size w w1) := (Below.refl _ _).grown hgrow (Nat.le_refl _) (by simp)
 have HO1 : Hid (w1.ownsRow 0 5 1 (.slice (some ⟨w.heap.size, 0, none⟩) size size) size ((textL n size 0).map (Value.int .u8))) := by
  have h := hown
  show World.ownsRow _ _ _ _ _ _ _
  rw [textL_zero]
  rw [bytes_made] at h
  exact h
 clear hown hgrow hi hz0 hz1 hz2
 go_wp2_with fail
 go_loopw [6, 7] (fun x _ wr => ∃ k : Nat, k ≤ size ∧ x = .int .i64 k ∧ Hid (wr.ownsRow 0 5 1 (.slice (some ⟨w.heap.size, 0, none⟩) size size) size ((textL n size k).map (Value.int .u8))) ∧ Hid (Below w.heap.size w wr)) (fun x _ _ => size - (intOf x).toNat)
 case atStart => exact ⟨0, Nat.zero_le _, rfl, HO1.out, HB1.out⟩
 case round =>
  clear HO1 HB1
  obtain ⟨k, hk, rfl, HO, HN⟩ := hrel
  by_cases hkl : k < size
  ·have hlen : size - 1 - k < ((textL n size k).map (Value.int .u8)).length := by simp [textL_length]; omega
   have hc := HO.out.cellAt (size - 1 - k) (by omega)
   rw [List.getElem?_eq_getElem hlen] at hc
   have hf := HO.out.frozenAt (size - 1 - k)
   generalize ((textL n size k).map (Value.int .u8))[size - 1 - k] = old at hc
   have hidx : (size : Int) - 1 - (k : Int) = ((size - 1 - k : Nat) : Int) := by omega
   clear hlen
   have hk2 : (k : Int) / 2 = ((k / 2 : Nat) : Int) := by omega
   by_cases hd : k / 2 < dl n
   ·obtain ⟨b1, o1, rfl, hb1, hcell1⟩ := HA.out.all (by omega)
    have hx1 : wr.cell? ⟨b1, o1 + k / 2, none⟩ = some (.int .i64 (dg DD n (k / 2) : Int)) := by rw [HN.out.cell (p := ⟨b1, o1 + k / 2, none⟩) hb1]; exact hcell1 _ hd
    have hdb : dg DD n (k / 2) < 65536 := dg_lt (B := DD) (by decide) n _
    have hby := byte_dg n k
    clear hcell1 hk2
    generalize dg DD n (k / 2) = d at *
    have hk1 : k % 2 = 0 ∨ k % 2 = 1 := by omega
    rcases hk1 with hk1 | hk1
    ·have hodd : ((k : Int) % 2 == 1) = false := by simp; omega
     have hbyte : (d : Int) % 256 = (byteAt n k : Int) := by rw [hby, hk1]; simp
     have HK1 := Lib.hid hk1
     clear hby hk1
     have hst := (HO.out.stored (size - 1 - k) (.int .u8 (byteAt n k : Int))).1
     rw [← List.map_set, textL_set _ _ _ hkl] at hst
     have HS := Lib.hid hst
     have HSB := Lib.hid (HN.out.setCell (p := ⟨w.heap.size, size - 1 - k, none⟩) (Nat.le_refl _) (.int .u8 (byteAt n k : Int)))
     clear hst
     go_wp2_with fail
     go_roundw
     case rel => exact ⟨k + 1, by omega, by go_num, HS.out, HSB.out⟩
     case measure => simp [intOf]; omega
    ·have hodd : ((k : Int) % 2 == 1) = true := by simp; omega
     have hbyte : (d : Int) / 256 % 256 = (byteAt n k : Int) := by rw [hby, hk1]; simp
     have HK1 := Lib.hid hk1
     clear hby hk1
     have hst := (HO.out.stored (size - 1 - k) (.int .u8 (byteAt n k : Int))).1
     rw [← List.map_set, textL_set _ _ _ hkl] at hst
     have HS := Lib.hid hst
     have HSB := Lib.hid (HN.out.setCell (p := ⟨w.heap.size, size - 1 - k, none⟩) (Nat.le_refl _) (.int .u8 (byteAt n k : Int)))
     clear hst
     go_wp2_with fail
     go_roundw
     case rel => exact ⟨k + 1, by omega, by go_num, HS.out, HSB.out⟩
     case measure => simp [intOf]; omega
   ·have h0 := byteAt_nought n k (by omega)
    have HSK := Lib.hid (textL_skip n size k h0)
    clear h0 hk2
    go_wp2_with fail
    go_roundw
    case rel => exact ⟨k + 1, by omega, by go_num, by rw [← HSK.out]; exact HO.out, HN.out⟩
    case measure => simp [intOf]; omega
  ·have hks : k = size := by omega
   subst hks
   have hcv := run_convert_bytes_arg (P := Tryz.prog) wr 173 5 Tryz.underlying173 Tryz.underlying5 w.heap.size 0 k k (textL n k k) (textL_length _ _ _) (fun i hi => by
    have h := HO.out.cellAt i (by omega)
    rw [Nat.zero_add, h, List.getElem?_map, List.getElem?_eq_getElem (by rw [textL_length]; exact hi)]
    simp [List.getD, List.getElem?_eq_getElem (show i < (textL n k k).length by rw [textL_length]; exact hi)]) 9 Tryz.underlying9
   go_wp2_with fail
   go_ret
   exact ⟨rfl, HN.out⟩
end Go.Proofs.YtjmeakfjfpnciaaGreat
namespace Go.Proofs.YtjmeakfjfpnciaaGreat
open Go.RowKit
end Go.Proofs.YtjmeakfjfpnciaaGreat
namespace Go.Proofs.YtjmeakfjfpnciaaGreat
open Go.RowKit
end Go.Proofs.YtjmeakfjfpnciaaGreat
namespace Go.Proofs.YtjmeakfjfpnciaaGreat
open Go.RowKit
theorem refCompare_len (a b : Nat) (aa ab : Option Addr) (ca cb : Nat) (h : dl a ≠ dl b) (w : World) :
  Calls Tryz.prog 104 #[.slice aa (dl a) ca, .slice ab (dl b) cb] w fun e w' => e = .returned (.int .i64 (cmpI a b)) ∧ Below w.heap.size w w' := by
 rcases Nat.lt_or_ge (dl a) (dl b) with h1 | h1
 ·have HC : Hid (cmpI a b = -1) := by show _ = _; unfold cmpI; rw [if_pos (lt_of_dl a b h1)]
  have hne : ((dl a : Int) != (dl b : Int)) = true := by simp; omega
  clear h
  go_enter Tryz.func104, Tryz.ntmps104
  go_wp2_with fail
  go_ret
  exact ⟨ret_int HC.out.symm, Below.refl _ _⟩
 ·have h2 : dl b < dl a := by omega
  have h3 := lt_of_dl b a h2
  have HC : Hid (cmpI a b = 1) := by show _ = _; unfold cmpI; rw [if_neg (by omega), if_pos h3]
  have hne : ((dl a : Int) != (dl b : Int)) = true := by simp; omega
  have h4 : ¬ dl a < dl b := by omega
  clear h h1 h3
  go_enter Tryz.func104, Tryz.ntmps104
  go_wp2_with fail
  go_ret
  exact ⟨ret_int HC.out.symm, Below.refl _ _⟩
theorem refCompare_same (a b : Nat) (aa ab : Option Addr) (ca cb L : Nat) (ha : dl a = L) (hb : dl b = L) (hL : L ≤ 1048576) (w : World) (hA : NumAt w aa a) (hB : NumAt w ab b) :
  Calls Tryz.prog 104 #[.slice aa L ca, .slice ab L cb] w fun e w' => e = .returned (.int .i64 (cmpI a b)) ∧ Below w.heap.size w w' := by
 have HDA := Lib.hid ha
 have HDB := Lib.hid hb
 have HA := Lib.hid hA
 have HB := Lib.hid hB
 clear ha hb hA hB
 have hne : ((L : Int) != (L : Int)) = false := by simp
 go_enter Tryz.func104, Tryz.ntmps104
 go_wp2_with fail
 go_loopw [5] (fun x wr => ∃ j : Nat, j ≤ L ∧ x = .int .i64 ((j : Int) - 1) ∧ Hid (a / DD ^ j = b / DD ^ j) ∧ Hid (Below w.heap.size w wr)) (fun x _ => (intOf x + 1).toNat)
 case atStart => exact ⟨L, Nat.le_refl _, rfl, by
  show _ = _
  have h1 := lt_dl a
  have h2 := lt_dl b
  rw [HDA.out] at h1
  rw [HDB.out] at h2
  rw [Nat.div_eq_of_lt h1, Nat.div_eq_of_lt h2], Below.refl _ _⟩
 case round =>
  obtain ⟨j, hj, hi, HE, HN⟩ := hrel
  rcases Nat.eq_zero_or_pos j with rfl | hjp
  ·subst hi
   go_wp2_with fail
   go_ret
   have h := HE.out
   rw [Nat.pow_zero, Nat.div_one, Nat.div_one] at h
   exact ⟨ret_int (by unfold cmpI; rw [if_neg (by omega), if_neg (by omega)]), HN.out⟩
  ·obtain ⟨p, rfl⟩ : ∃ p, j = p + 1 := ⟨j - 1, by omega⟩
   have ei : ((p + 1 : Nat) : Int) - 1 = (p : Int) := by omega
   rw [ei] at hi
   subst hi
   clear ei hjp
   obtain ⟨b1, o1, rfl, hb1, hcell1⟩ := HA.out.all (by rw [HDA.out]; omega)
   obtain ⟨b2, o2, rfl, hb2, hcell2⟩ := HB.out.all (by rw [HDB.out]; omega)
   have hx1 : wr.cell? ⟨b1, o1 + p, none⟩ = some (.int .i64 (dg DD a p : Int)) := by rw [HN.out.cell (p := ⟨b1, o1 + p, none⟩) hb1]; exact hcell1 _ (by rw [HDA.out]; omega)
   have hx2 : wr.cell? ⟨b2, o2 + p, none⟩ = some (.int .i64 (dg DD b p : Int)) := by rw [HN.out.cell (p := ⟨b2, o2 + p, none⟩) hb2]; exact hcell2 _ (by rw [HDB.out]; omega)
   clear hcell1 hcell2
   rcases Nat.lt_trichotomy (dg DD a p) (dg DD b p) with hd | hd | hd
   ·have hcmp : Hid (a < b) := lt_of_dg a b p HE.out hd
    have hd1 : ((dg DD a p : Int) != (dg DD b p : Int)) = true := by simp; omega
    go_wp2_with fail
    go_quiet (fail)
    go_wp2_with fail
    go_quiet (fail)
    go_wp2_with fail
    go_ret
    exact ⟨ret_int (by unfold cmpI; rw [if_pos hcmp.out]), by first | exact below_drewN (below_drewN HN.out _) _ | exact below_drewN HN.out _⟩
   ·have HE2 := Lib.hid (same_of_dg a b p HE.out hd)
    have hd1 : ((dg DD a p : Int) != (dg DD b p : Int)) = false := by simp; omega
    have hd2 : ¬ dg DD a p < dg DD b p := by omega
    have hd3 : ¬ dg DD b p < dg DD a p := by omega
    clear hd
    go_wp2_with fail
    go_quiet (fail)
    go_wp2_with fail
    go_roundw
    case rel => exact ⟨p, by omega, rfl, HE2.out, below_drewN HN.out _⟩
    case measure => first | (simp [intOf]; done) | (simp [intOf]; omega)
   ·have hcmp : Hid (b < a) := lt_of_dg b a p HE.out.symm hd
    have hd1 : ((dg DD a p : Int) != (dg DD b p : Int)) = true := by simp; omega
    have hd2 : ¬ dg DD a p < dg DD b p := by omega
    go_wp2_with fail
    go_quiet (fail)
    go_wp2_with fail
    go_quiet (fail)
    go_wp2_with fail
    go_ret
    exact ⟨ret_int (by have := hcmp.out; unfold cmpI; rw [if_neg (by omega), if_pos this]), by first | exact below_drewN (below_drewN HN.out _) _ | exact below_drewN HN.out _⟩
theorem refCompare_any (a b : Nat) (aa ab : Option Addr) (ca cb : Nat) (hla : dl a ≤ 1048576) (w : World) (hA : NumAt w aa a) (hB : NumAt w ab b) :
  Calls Tryz.prog 104 #[.slice aa (dl a) ca, .slice ab (dl b) cb] w fun e w' => e = .returned (.int .i64 (cmpI a b)) ∧ Below w.heap.size w w' := by
 by_cases h : dl a = dl b
 ·have h1 := refCompare_same a b aa ab ca cb (dl a) rfl h.symm hla w hA hB
  rw [← h]
  exact h1
 ·exact refCompare_len a b aa ab ca cb h w
theorem refRead_any (s : ByteArray) (hs : s.size ≤ 1048576) (w : World) :
  Calls Tryz.prog 58 #[.string s] w fun e w' => NumR w e w' (numOf s) := by
 obtain ⟨i0, hi, hz0, hz1, hz2⟩ := info_parts infoInt3
 obtain ⟨K, hK⟩ : ∃ K, (s.size + 1) / 2 = K := ⟨_, rfl⟩
 have hK1 : ((s.size : Int) + 1) / 2 = (K : Int) := by omega
 go_enter Tryz.func58, Tryz.ntmps58
 go_wp2_with (at_make; refine wpList_make_full _ rfl _ _ 95 rfl 0 3 i0 (.int .i64 0) 1 Tryz.underlying95 hi hz0 hz1 _ _ _ _ K rfl rfl ?c1 ?c2 ?c3 ?c4 ?c5 ?_)
 case c1 => exact hK1
 case c2 => exact hK1
 case c3 => rw [hz2]; omega
 case c4 => unfold maxLen; omega
 case c5 => omega
 intro w1 hown hgrow
 have e0 : digsTo 0 K = digsTo (numTo s 0) K := by rw [numTo_zero]
 rw [zeros_made, e0] at hown
 have HO1 := Lib.hid hown
 have HB1 : Hid (Below w.heap.size w w1) := (Below.refl _ _).grown hgrow (Nat.le_refl _) (by simp)
 have HK := Lib.hid hK
 have hKs : K ≤ 1048576 := by omega
 clear hown hgrow hi hz0 hz1 hz2 e0 hK hK1
 go_wp2_with fail
 go_loopw [4, 5] (fun x _ wr => ∃ k : Nat, k ≤ s.size ∧ x = .int .i64 k ∧ Hid (wr.ownsRow 0 3 1 (.slice (some ⟨w.heap.size, 0, none⟩) K K) K ((digsTo (numTo s k) K).map dV)) ∧ Hid (Below w.heap.size w wr)) (fun x _ _ => s.size - (intOf x).toNat)
 case atStart => exact ⟨0, Nat.zero_le _, rfl, HO1.out, HB1.out⟩
 case round =>
  clear HO1 HB1
  obtain ⟨k, hk, rfl, HO, HN⟩ := hrel
  by_cases hkl : k < s.size
  ·have hkK : k / 2 < K := by have := HK.out; omega
   have hx := HO.out.cellAt (k / 2) (by omega)
   have hxv : ((digsTo (numTo s k) K).map dV)[k / 2]? = some (.int .i64 (dg DD (numTo s k) (k / 2) : Int)) := by simp [digsTo, hkK, dV]
   rw [hxv] at hx
   have hf := HO.out.frozenAt (k / 2)
   have hidx : (s.size : Int) - 1 - (k : Int) = ((s.size - 1 - k : Nat) : Int) := by omega
   have hlt : s.size - 1 - k < s.size := by omega
   have hc256 := (s[s.size - 1 - k]'hlt).toNat_lt
   have hdlt : dg DD (numTo s k) (k / 2) < 65536 := dg_lt (B := DD) (by decide) _ _
   have HNS := Lib.hid (numTo_succ s k hkl)
   clear hxv
   generalize hcc : (s[s.size - 1 - k]'hlt).toNat = c at *
   have hk1 : k % 2 = 0 ∨ k % 2 = 1 := by omega
   rcases hk1 with hk1 | hk1
   ·have hodd : ((k : Int) % 2 == 1) = false := by simp; omega
    have HK1 := Lib.hid hk1
    clear hk1
    have hput := digsTo_put (numTo s k) c k K (numTo_lt s k hk) hc256
    rw [← HNS.out, HK1.out, Nat.pow_zero, Nat.mul_one] at hput
    have hst := (HO.out.stored (k / 2) (.int .i64 ((dg DD (numTo s k) (k / 2) : Int) + (c : Int)))).1
    rw [show (Value.int .i64 ((dg DD (numTo s k) (k / 2) : Int) + (c : Int))) = dV (dg DD (numTo s k) (k / 2) + c) from by unfold dV; congr 1, ← List.map_set, hput] at hst
    have HS := Lib.hid hst
    have HSB := Lib.hid (HN.out.setCell (p := ⟨w.heap.size, k / 2, none⟩) (Nat.le_refl _) (.int .i64 ((dg DD (numTo s k) (k / 2) : Int) + (c : Int))))
    clear hst hput
    go_wp2_with fail
    go_roundw
    case rel => exact ⟨k + 1, by omega, by go_num, HS.out, HSB.out⟩
    case measure => simp [intOf]; omega
   ·have hodd : ((k : Int) % 2 == 1) = true := by simp; omega
    have HK1 := Lib.hid hk1
    clear hk1
    have hput := digsTo_put (numTo s k) c k K (numTo_lt s k hk) hc256
    rw [← HNS.out, HK1.out, Nat.pow_one] at hput
    have hst := (HO.out.stored (k / 2) (.int .i64 ((dg DD (numTo s k) (k / 2) : Int) + (c : Int) * 256))).1
    rw [show (Value.int .i64 ((dg DD (numTo s k) (k / 2) : Int) + (c : Int) * 256)) = dV (dg DD (numTo s k) (k / 2) + c * 256) from by unfold dV; congr 1, ← List.map_set, hput] at hst
    have HS := Lib.hid hst
    have HSB := Lib.hid (HN.out.setCell (p := ⟨w.heap.size, k / 2, none⟩) (Nat.le_refl _) (.int .i64 ((dg DD (numTo s k) (k / 2) : Int) + (c : Int) * 256)))
    clear hst hput
    go_wp2_with fail
    go_roundw
    case rel => exact ⟨k + 1, by omega, by go_num, HS.out, HSB.out⟩
    case measure => simp [intOf]; omega
  ·have hks : k = s.size := by omega
   subst hks
   rw [numTo_all] at HO
   have hlt : numOf s < DD ^ K := by
    have h := numL_lt s.data.toList
    have e : s.data.toList.length = s.size := rfl
    rw [e] at h
    refine Nat.lt_of_lt_of_le h ?_
    show 256 ^ s.size ≤ (256 ^ 2) ^ K
    rw [← Nat.pow_mul]
    exact Nat.pow_le_pow_right (by omega) (by have := HK.out; omega)
   have HLT := Lib.hid hlt
   clear hlt
   go_wp2_with fail
   refine (trim_own HO.out HLT.out (by omega)).mono ?_
   rintro e w' ⟨a', cap', rfl, hN, _, rfl⟩
   have HNN := Lib.hid hN
   clear hN
   go_wp2_with fail
   go_ret
   exact ⟨a', cap', rfl, HNN.out, HN.out⟩
end Go.Proofs.YtjmeakfjfpnciaaGreat
namespace Go.Proofs.YtjmeakfjfpnciaaGreat
open Go.RowKit
def rowZ (n i K : Nat) : List Nat := (List.range K).map fun p => if p < i then dg DD n p else 0
theorem rowZ_zero (n K : Nat) : rowZ n 0 K = digsTo 0 K := by
 unfold rowZ digsTo
 refine List.map_congr_left fun p _ => ?_
 simp [dg]
theorem rowZ_at (n i K : Nat) (h : i < K) : ((rowZ n i K).map dV)[i]? = some (.int .i64 0) := by
 simp [rowZ, h, dV]
theorem rowZ_set (n i K : Nat) : ((rowZ n i K).map dV).set i (.int .i64 (dg DD n i : Int)) = (rowZ n (i + 1) K).map dV := by
 rw [show (Value.int .i64 (dg DD n i : Int)) = dV (dg DD n i) from rfl, ← List.map_set]
 congr 1
 refine List.ext_getElem (by simp [rowZ]) (fun p h1 h2 => ?_)
 rw [List.getElem_set]
 simp only [rowZ, List.getElem_map, List.getElem_range]
 by_cases h : i = p
 ·subst h; rw [if_pos rfl, if_pos (by omega)]
 ·rw [if_neg h]
  by_cases h3 : p < i
  ·rw [if_pos h3, if_pos (by omega)]
  ·rw [if_neg h3, if_neg (by omega)]
theorem rowZ_end (n K : Nat) : rowZ n K K = digsTo n K := by
 unfold rowZ digsTo
 refine List.map_congr_left fun p hp => ?_
 rw [if_pos (by simpa using hp)]
theorem take_digit (r s n i : Nat) : (dg DD (r + n * s) i : Int) - (mcB DD r s n i : Int) - (n : Int) * (dg DD s i : Int) = (dg DD r i : Int) - 65536 * (mcB DD r s n (i + 1) : Int) := by
 have h1 := mcB_dig (B := DD) (by decide) r s n i
 have h2 := mcB_succ (B := DD) (by decide) r s n i
 have h3 := Nat.div_add_mod (dg DD r i + n * dg DD s i + mcB DD r s n i) DD
 rw [h1, h2] at h3
 have h4 : (n : Int) * (dg DD s i : Int) = ((n * dg DD s i : Nat) : Int) := by simp
 rw [h4]
 have h5 : 65536 * mcB DD r s n (i + 1) + dg DD (r + n * s) i = dg DD r i + n * dg DD s i + mcB DD r s n i := h3
 omega
theorem refTake_new (a b n k R : Nat) (aa ab : Option Addr) (ca cb : Nat) (hla : dl a ≤ 1048576) (hlb : dl b ≤ 1048576) (hn : n ≤ 1099511627776) (hk : k ≤ 1048576) (hR : a = R + n * (b * DD ^ k)) (w : World) (hA : NumAt w aa a) (hB : NumAt w ab b) :
  Calls Tryz.prog 169 #[.slice aa (dl a) ca, .slice ab (dl b) cb, .int .i64 (n : Int), .int .i64 (k : Int)] w fun e w' => NumN w e w' R := by
 obtain ⟨i0, hi, hz0, hz1, hz2⟩ := info_parts infoInt3
 have HA := Lib.hid hA
 have HB := Lib.hid hB
 have HR := Lib.hid hR
 clear hA hB hR
 go_enter Tryz.func169, Tryz.ntmps169
 go_wp2_with (at_make; refine wpList_make_full _ rfl _ _ 95 rfl 0 3 i0 (.int .i64 0) 1 Tryz.underlying95 hi hz0 hz1 _ _ _ _ (dl a) rfl rfl ?c1 ?c2 ?c3 ?c4 ?c5 ?_)
 case c1 => rfl
 case c2 => rfl
 case c3 => rw [hz2]; omega
 case c4 => unfold maxLen; omega
 case c5 => omega
 intro w1 hown hgrow
 rw [zeros_made, ← rowZ_zero R] at hown
 have HO1 := Lib.hid hown
 have HB1 : Hid (Below w.heap.size w w1) := (Below.refl _ _).grown hgrow (Nat.le_refl _) (by simp)
 clear hown hgrow hi hz0 hz1 hz2
 go_wp2_with fail
 go_loopw [10, 11, 12] (fun c x _ wr => ∃ i : Nat, i ≤ dl a ∧ x = .int .i64 i ∧ c = .int .i64 (mcB DD R (b * DD ^ k) n i : Nat) ∧ Hid (wr.ownsRow 0 3 1 (.slice (some ⟨w.heap.size, 0, none⟩) (dl a) (dl a)) (dl a) ((rowZ R i (dl a)).map dV)) ∧ Hid (Below w.heap.size w wr)) (fun _ x _ _ => dl a - (intOf x).toNat)
 case atStart => exact ⟨0, Nat.zero_le _, rfl, by rw [mcB_zero]; rfl, HO1.out, HB1.out⟩
 case round =>
  clear HO1 HB1
  obtain ⟨i, hi, rfl, rfl, HO, HN⟩ := hrel
  by_cases hil : i < dl a
  ·obtain ⟨b1, o1, rfl, hb1, hcell1⟩ := HA.out.all (by omega)
   have hx1 : wr.cell? ⟨b1, o1 + i, none⟩ = some (.int .i64 (dg DD a i : Int)) := by rw [HN.out.cell (p := ⟨b1, o1 + i, none⟩) hb1]; exact hcell1 _ hil
   have hda : dg DD a i < 65536 := dg_lt (B := DD) (by decide) _ _
   have hdr : dg DD R i < 65536 := dg_lt (B := DD) (by decide) _ _
   have hc1 := mcB_le (B := DD) (by decide) R (b * DD ^ k) n i
   have hc2 := mcB_le (B := DD) (by decide) R (b * DD ^ k) n (i + 1)
   have htd := take_digit R (b * DD ^ k) n i
   rw [← HR.out] at htd
   have hx3 := HO.out.cellAt i (by omega)
   rw [rowZ_at R i (dl a) hil] at hx3
   have hf3 := HO.out.frozenAt i
   generalize mcB DD R (b * DD ^ k) n i = c at *
   generalize hcc : mcB DD R (b * DD ^ k) n (i + 1) = c2 at *
   have HC2 : Hid (mcB DD R (b * DD ^ k) n (i + 1) = c2) := hcc
   clear hcell1 hcc
   by_cases hik : k ≤ i ∧ i - k < dl b
   ·obtain ⟨hik1, hik2⟩ := hik
    obtain ⟨b2, o2, rfl, hb2, hcell2⟩ := HB.out.all (by omega)
    have hx2 : wr.cell? ⟨b2, o2 + (i - k), none⟩ = some (.int .i64 (dg DD b (i - k) : Int)) := by rw [HN.out.cell (p := ⟨b2, o2 + (i - k), none⟩) hb2]; exact hcell2 _ hik2
    have hdb : dg DD b (i - k) < 65536 := dg_lt (B := DD) (by decide) _ _
    have hsh := dg_shift b k (i - k)
    rw [show k + (i - k) = i by omega] at hsh
    rw [hsh] at htd
    have hidx : (i : Int) - (k : Int) = ((i - k : Nat) : Int) := by omega
    clear hcell2 hsh
    generalize dg DD b (i - k) = db at *
    generalize hda' : dg DD a i = da at *
    have hprod : n * db ≤ 1099511627776 * 65535 := Nat.mul_le_mul hn (by omega)
    have hpi : (n : Int) * (db : Int) = ((n * db : Nat) : Int) := by simp
    rw [hpi] at htd
    generalize hpr : n * db = pr at *
    have HDA := Lib.hid hda'
    have HPR := Lib.hid hpr
    clear hda' hpr
    have hkI : (k : Int) ≤ (i : Int) := by omega
    have hst := (HO.out.stored i (.int .i64 (dg DD R i : Int))).1
    rw [rowZ_set] at hst
    have HS := Lib.hid hst
    have HSB := Lib.hid (HN.out.setCell (p := ⟨w.heap.size, i, none⟩) (Nat.le_refl _) (.int .i64 (dg DD R i : Int)))
    clear hst
    obtain ⟨d, hd⟩ : ∃ d : Int, (da : Int) - (c : Int) - (pr : Int) = d := ⟨_, rfl⟩
    rw [hd] at htd
    have hdlo : -72057594037927936 ≤ d := by omega
    have hdhi : d ≤ 65535 := by omega
    by_cases hneg : 0 < c2
    ·have hd2 : d < 0 := by omega
     have hdn : (65535 - d) / 65536 = (c2 : Int) := by omega
     have hds : d + (c2 : Int) * 65536 = (dg DD R i : Int) := by omega
     have HTD := Lib.hid htd
     clear htd
     go_wp2_with fail
     go_roundw
     case rel => exact ⟨i + 1, by omega, by go_num, by first | rw [hdn, HC2.out] | rw [HC2.out], HS.out, HSB.out⟩
     case measure => simp [intOf]; omega
    ·have hc0 : c2 = 0 := by omega
     have hd2 : ¬ d < 0 := by omega
     have hds : d = (dg DD R i : Int) := by omega
     have HC0 := Lib.hid hc0
     have HDS := Lib.hid hds
     have HTD := Lib.hid htd
     rw [← hds] at HS HSB
     clear hc0 hds htd
     go_wp2_with fail
     go_roundw
     case rel => exact ⟨i + 1, by omega, by go_num, by rw [HC2.out, HC0.out]; rfl, HS.out, HSB.out⟩
     case measure => simp [intOf]; omega
   ·have h0 : dg DD (b * DD ^ k) i = 0 := by
     rcases Nat.lt_or_ge i k with h | h
     ·unfold dg
      have e : DD ^ k = DD ^ i * (DD * DD ^ (k - i - 1)) := by rw [← Nat.pow_succ', ← Nat.pow_add]; congr 1; omega
      rw [e, Nat.mul_left_comm, Nat.mul_div_cancel_left _ (Nat.pow_pos (by decide)), Nat.mul_left_comm, Nat.mul_mod_right]
     ·have hsh := dg_shift b k (i - k)
      rw [show k + (i - k) = i by omega] at hsh
      rw [hsh]
      exact dg_nought b _ (by omega)
    rw [h0] at htd
    have htd2 : (dg DD a i : Int) - (c : Int) = (dg DD R i : Int) - 65536 * (c2 : Int) := by simpa using htd
    clear h0 htd
    have htd := htd2
    clear htd2
    generalize hda' : dg DD a i = da at *
    have HDA := Lib.hid hda'
    clear hda'
    by_cases hik1 : k ≤ i
    ·have hik2 : ¬ i - k < dl b := fun h => hik ⟨hik1, h⟩
     have hidx : (i : Int) - (k : Int) = ((i - k : Nat) : Int) := by omega
     clear hik
     have hst := (HO.out.stored i (.int .i64 (dg DD R i : Int))).1
     rw [rowZ_set] at hst
     have HS := Lib.hid hst
     have HSB := Lib.hid (HN.out.setCell (p := ⟨w.heap.size, i, none⟩) (Nat.le_refl _) (.int .i64 (dg DD R i : Int)))
     clear hst
     obtain ⟨d, hd⟩ : ∃ d : Int, (da : Int) - (c : Int) = d := ⟨_, rfl⟩
     rw [hd] at htd
     have hdlo : -72057594037927936 ≤ d := by omega
     have hdhi : d ≤ 65535 := by omega
     by_cases hneg : 0 < c2
     ·have hd2 : d < 0 := by omega
      have hdn : (65535 - d) / 65536 = (c2 : Int) := by omega
      have hds : d + (c2 : Int) * 65536 = (dg DD R i : Int) := by omega
      have HTD := Lib.hid htd
      clear htd
      go_wp2_with fail
      go_roundw
      case rel => exact ⟨i + 1, by omega, by go_num, by first | rw [hdn, HC2.out] | rw [HC2.out], HS.out, HSB.out⟩
      case measure => simp [intOf]; omega
     ·have hc0 : c2 = 0 := by omega
      have hd2 : ¬ d < 0 := by omega
      have hds : d = (dg DD R i : Int) := by omega
      have HC0 := Lib.hid hc0
      have HDS := Lib.hid hds
      have HTD := Lib.hid htd
      rw [← hds] at HS HSB
      clear hc0 hds htd
      go_wp2_with fail
      go_roundw
      case rel => exact ⟨i + 1, by omega, by go_num, by rw [HC2.out, HC0.out]; rfl, HS.out, HSB.out⟩
      case measure => simp [intOf]; omega
    ·clear hik
     have hst := (HO.out.stored i (.int .i64 (dg DD R i : Int))).1
     rw [rowZ_set] at hst
     have HS := Lib.hid hst
     have HSB := Lib.hid (HN.out.setCell (p := ⟨w.heap.size, i, none⟩) (Nat.le_refl _) (.int .i64 (dg DD R i : Int)))
     clear hst
     obtain ⟨d, hd⟩ : ∃ d : Int, (da : Int) - (c : Int) = d := ⟨_, rfl⟩
     rw [hd] at htd
     have hdlo : -72057594037927936 ≤ d := by omega
     have hdhi : d ≤ 65535 := by omega
     by_cases hneg : 0 < c2
     ·have hd2 : d < 0 := by omega
      have hdn : (65535 - d) / 65536 = (c2 : Int) := by omega
      have hds : d + (c2 : Int) * 65536 = (dg DD R i : Int) := by omega
      have HTD := Lib.hid htd
      clear htd
      go_wp2_with fail
      go_roundw
      case rel => exact ⟨i + 1, by omega, by go_num, by first | rw [hdn, HC2.out] | rw [HC2.out], HS.out, HSB.out⟩
      case measure => simp [intOf]; omega
     ·have hc0 : c2 = 0 := by omega
      have hd2 : ¬ d < 0 := by omega
      have hds : d = (dg DD R i : Int) := by omega
      have HC0 := Lib.hid hc0
      have HDS := Lib.hid hds
      have HTD := Lib.hid htd
      rw [← hds] at HS HSB
      clear hc0 hds htd
      go_wp2_with fail
      go_roundw
      case rel => exact ⟨i + 1, by omega, by go_num, by rw [HC2.out, HC0.out]; rfl, HS.out, HSB.out⟩
      case measure => simp [intOf]; omega
  ·have hia : i = dl a := by omega
   subst hia
   rw [rowZ_end] at HO
   have hlt : R < DD ^ dl a := Nat.lt_of_le_of_lt (by have := HR.out; omega) (lt_dl a)
   have HLT := Lib.hid hlt
   clear hlt
   go_wp2_with fail
   refine (trim_own HO.out HLT.out (by omega)).mono ?_
   rintro e w' ⟨a', cap', rfl, hN, hnew, rfl⟩
   have HNN := Lib.hid hN
   have HNEW := Lib.hid (show ∀ q o, a' = some ⟨q, o, none⟩ → w.heap.size ≤ q from fun q o h => by have h9 : some w.heap.size = some q := hnew q o h; have h8 := Option.some.inj h9; omega)
   clear hN hnew
   go_wp2_with fail
   go_ret
   exact ⟨a', cap', rfl, HNN.out, HNEW.out, HN.out⟩
theorem refTake_any (a b n k R : Nat) (aa ab : Option Addr) (ca cb : Nat) (hla : dl a ≤ 1048576) (hlb : dl b ≤ 1048576) (hn : n ≤ 1099511627776) (hk : k ≤ 1048576) (hR : a = R + n * (b * DD ^ k)) (w : World) (hA : NumAt w aa a) (hB : NumAt w ab b) :
  Calls Tryz.prog 169 #[.slice aa (dl a) ca, .slice ab (dl b) cb, .int .i64 (n : Int), .int .i64 (k : Int)] w fun e w' => NumR w e w' R :=
 (refTake_new a b n k R aa ab ca cb hla hlb hn hk hR w hA hB).mono fun _ _ h => h.r
end Go.Proofs.YtjmeakfjfpnciaaGreat
namespace Go.Proofs.YtjmeakfjfpnciaaGreat
open Go.RowKit
theorem top_div (n : Nat) (h : n ≠ 0) : n / DD ^ (dl n - 1) = dg DD n (dl n - 1) := by
 have h2 := lt_dl n
 have hp := dl_pos n h
 have e : DD ^ dl n = DD ^ (dl n - 1) * DD := by rw [← Nat.pow_succ]; congr 1; omega
 unfold dg
 rw [Nat.mod_eq_of_lt (Nat.div_lt_of_lt_mul (by rw [← e]; exact h2))]
theorem top_lt (m : Nat) (h : m ≠ 0) : m < (dg DD m (dl m - 1) + 1) * DD ^ (dl m - 1) := by
 have h1 := top_div m h
 have h2 := Nat.div_add_mod m (DD ^ (dl m - 1))
 have h3 := Nat.mod_lt m (Nat.pow_pos (n := dl m - 1) (show 0 < DD by decide))
 rw [h1] at h2
 rw [Nat.add_mul, Nat.one_mul, Nat.mul_comm (dg DD m (dl m - 1))]
 omega
theorem quo_step (A m x q e : Nat) (hm : m ≠ 0) (hx : x * DD ^ e ≤ A) (hq : q = x / (dg DD m (dl m - 1) + 1)) (he : dl m - 1 ≤ e) : q * (m * DD ^ (e - (dl m - 1))) ≤ A := by
 have h1 := top_lt m hm
 have h2 : q * (dg DD m (dl m - 1) + 1) ≤ x := by rw [hq]; exact Nat.div_mul_le_self _ _
 have h3 : DD ^ e = DD ^ (dl m - 1) * DD ^ (e - (dl m - 1)) := by rw [← Nat.pow_add]; congr 1; omega
 generalize dg DD m (dl m - 1) + 1 = t at *
 generalize DD ^ (dl m - 1) = P at *
 generalize DD ^ (e - (dl m - 1)) = S at *
 calc q * (m * S) ≤ q * (t * P * S) := Nat.mul_le_mul_left _ (Nat.mul_le_mul_right _ (Nat.le_of_lt h1))
  _ = q * t * (P * S) := by rw [Nat.mul_assoc t, Nat.mul_assoc q]
  _ ≤ x * (P * S) := Nat.mul_le_mul_right _ h2
  _ = x * DD ^ e := by rw [h3]
  _ ≤ A := hx
theorem mod_one (A m : Nat) (hA : A ≠ 0) (hm : m ≠ 0) (hle : dl m ≤ dl A) : dg DD A (dl A - 1) / (dg DD m (dl m - 1) + 1) * (m * DD ^ (dl A - dl m)) ≤ A := by
 have h := quo_step A m (dg DD A (dl A - 1)) _ (dl A - 1) hm (by rw [← top_div A hA]; exact Nat.div_mul_le_self _ _) rfl (by omega)
 have := dl_pos m hm
 rwa [show dl A - 1 - (dl m - 1) = dl A - dl m by omega] at h
theorem mod_two (A m : Nat) (hA : A ≠ 0) (hm : m ≠ 0) (hle : dl m < dl A) : (dg DD A (dl A - 1) * DD + dg DD A (dl A - 2)) / (dg DD m (dl m - 1) + 1) * (m * DD ^ (dl A - dl m - 1)) ≤ A := by
 have hp := dl_pos m hm
 have h2 := dg_div (B := DD) A (dl A - 2)
 rw [show dl A - 2 + 1 = dl A - 1 by omega, top_div A hA, Nat.mul_comm] at h2
 have h := quo_step A m (dg DD A (dl A - 1) * DD + dg DD A (dl A - 2)) _ (dl A - 2) hm (by rw [← h2]; exact Nat.div_mul_le_self _ _) rfl (by omega)
 rwa [show dl A - 2 - (dl m - 1) = dl A - dl m - 1 by omega] at h
theorem take_mod (A m n s : Nat) (h : n * (m * s) ≤ A) : (A - n * (m * s)) % m = A % m := by
 have e : A = (A - n * (m * s)) + m * (n * s) := by rw [show m * (n * s) = n * (m * s) by rw [Nat.mul_left_comm]]; omega
 rw [← Nat.add_mul_mod_self_left (A - n * (m * s)) m (n * s), ← e]
def NumM (w : World) (aa : Option Addr) (e : Ending) (w' : World) (n : Nat) : Prop := ∃ a cap, e = .returned (.slice a (dl n) cap) ∧ NumAt w' a n ∧ (a = aa ∨ ∀ q o, a = some ⟨q, o, none⟩ → w.heap.size ≤ q) ∧ Below w.heap.size w w'
theorem NumM.r {w w' : World} {aa : Option Addr} {e : Ending} {n : Nat} (h : NumM w aa e w' n) : NumR w e w' n := let ⟨a, c, h1, h2, _, h4⟩ := h; ⟨a, c, h1, h2, h4⟩
theorem refMod_new (a m : Nat) (aa am : Option Addr) (ca cm : Nat) (hla : dl a ≤ 1048576) (hm0 : 0 < m) (w : World) (hA : NumAt w aa a) (hM : NumAt w am m) :
  Calls Tryz.prog 125 #[.slice aa (dl a) ca, .slice am (dl m) cm] w fun e w' => NumM w aa e w' (a % m) := by
 have HA := Lib.hid hA
 have HMM := Lib.hid hM
 clear hA hM
 go_enter Tryz.func125, Tryz.ntmps125
 go_wp2_with fail
 go_loopg [0, 5, 6] a (fun g v _ _ wr => ∃ (A : Nat) (a1 : Option Addr) (c1 : Nat), g = A ∧ v = .slice a1 (dl A) c1 ∧ Hid (A % m = a % m) ∧ A ≤ a ∧ Hid (NumAt wr a1 A) ∧ Hid (a1 = aa ∨ ∀ q o, a1 = some ⟨q, o, none⟩ → w.heap.size ≤ q) ∧ Hid (Below w.heap.size w wr))
 case atStart => exact ⟨a, aa, ca, rfl, rfl, rfl, Nat.le_refl _, HA.out, Or.inl rfl, Below.refl _ _⟩
 case round =>
  obtain ⟨A, a1, c1, hg, rfl, HM, hAa, HN, HFA, HB⟩ := hrel
  obtain ⟨G9, hG9⟩ : ∃ G9, gk = G9 := ⟨_, rfl⟩
  rw [hG9] at hg
  subst hg
  subst hG9
  obtain ⟨A, rfl⟩ : ∃ A, A = gk := ⟨_, rfl⟩
  clear HA
  have hdA := dl_mono _ _ hAa
  go_wp2_with fail
  refine (refCompare_any A m a1 am c1 cm (by omega) wr HN.out (HMM.out.up HB.out)).mono ?_
  rintro e w2 ⟨rfl, hb2⟩
  have HB2 := Lib.hid (below_up HB.out hb2)
  have HN2 := Lib.hid (HN.out.up hb2)
  have HMM2 := Lib.hid (HMM.out.up HB2.out)
  clear hb2 HN HB
  by_cases hlt : A < m
  ·have hc : cmpI A m = -1 := by unfold cmpI; rw [if_pos hlt]
   rw [hc]
   clear hc
   have HRES : Hid (A = a % m) := by show _ = _; rw [← HM.out, Nat.mod_eq_of_lt hlt]
   go_wp2_with fail
   go_ret
   exact ⟨a1, c1, by rw [← HRES.out]; rfl, by rw [← HRES.out]; exact HN2.out, HFA.out, HB2.out⟩
  ·have hle : m ≤ A := by omega
   have HLEM := Lib.hid hle
   obtain ⟨c, hc, hc0⟩ : ∃ c, cmpI A m = c ∧ 0 ≤ c := ⟨_, rfl, by unfold cmpI; rw [if_neg hlt]; split <;> omega⟩
   rw [hc]
   clear hc hlt hle
   have hA0 : A ≠ 0 := by have := HLEM.out; omega
   have hm1 : m ≠ 0 := by omega
   have hlm := dl_mono _ _ HLEM.out
   have hpA := dl_pos A hA0
   have hpm := dl_pos m hm1
   have htA := dl_top A hA0
   have h1 := mod_one A m hA0 hm1 hlm
   have hdA : dg DD A (dl A - 1) < 65536 := dg_lt (B := DD) (by decide) _ _
   have hdA2 : dg DD A (dl A - 2) < 65536 := dg_lt (B := DD) (by decide) _ _
   have hdm : dg DD m (dl m - 1) < 65536 := dg_lt (B := DD) (by decide) _ _
   have H2 : Hid (dl m < dl A → (dg DD A (dl A - 1) * DD + dg DD A (dl A - 2)) / (dg DD m (dl m - 1) + 1) * (m * DD ^ (dl A - dl m - 1)) ≤ A) := fun h => mod_two A m hA0 hm1 h
   obtain ⟨b1, o1, rfl, hb1, hcell1⟩ := HN2.out.all hpA
   obtain ⟨b2, o2, rfl, hb2, hcell2⟩ := HMM2.out.all hpm
   have hx1 := hcell1 (dl A - 1) (by omega)
   have hx2 := hcell2 (dl m - 1) (by omega)
   have hx3 : dl m < dl A → w2.cell? ⟨b1, o1 + (dl A - 2), none⟩ = some (.int .i64 (dg DD A (dl A - 2) : Int)) := fun h => hcell1 (dl A - 2) (by omega)
   have HX3 := Lib.hid hx3
   have hi1 : (dl A : Int) - 1 = ((dl A - 1 : Nat) : Int) := by omega
   have hi2 : (dl m : Int) - 1 = ((dl m - 1 : Nat) : Int) := by omega
   have hi3 : (dl A : Int) - (dl m : Int) = ((dl A - dl m : Nat) : Int) := by omega
   have H1 := Lib.hid h1
   clear hcell1 hcell2 hx3 h1
   generalize hat : dg DD A (dl A - 1) = at1 at *
   generalize han : dg DD A (dl A - 2) = an1 at *
   generalize hmt : dg DD m (dl m - 1) = mt1 at *
   have HAT := Lib.hid hat
   have HAN := Lib.hid han
   have HMT := Lib.hid hmt
   clear hat han hmt
   obtain ⟨q, hq⟩ : ∃ q, at1 / (mt1 + 1) = q := ⟨_, rfl⟩
   have hqI : (at1 : Int) / ((mt1 : Int) + 1) = (q : Int) := by rw [← hq]; simp
   have hq9 : q ≤ 65535 := by rw [← hq]; exact Nat.le_trans (Nat.div_le_self _ _) (by omega)
   have H1' := H1.out
   rw [hq] at H1'
   have HLE1 := Lib.hid H1'
   clear H1' H1 hq
   go_wp2_with fail
   go_quiet (fail)
   have HN3 := Lib.hid (HN2.out.up (below_drewN (Below.refl _ w2) nq))
   have HMM3 := Lib.hid (HMM2.out.up (below_drewN (Below.refl _ w2) nq))
   have HB3 := Lib.hid (below_drewN HB2.out nq)
   by_cases hq0 : q = 0
   ·subst hq0
    by_cases hk0 : dl m < dl A
    ·have hx3 := HX3.out hk0
     have h2 := H2.out hk0
     have hkp : 0 < dl A - dl m := by omega
     have hi4 : (dl A : Int) - 2 = ((dl A - 2 : Nat) : Int) := by omega
     have hi5 : ((dl A - dl m : Nat) : Int) - 1 = ((dl A - dl m - 1 : Nat) : Int) := by omega
     obtain ⟨q2, hq2⟩ : ∃ q2, (at1 * DD + an1) / (mt1 + 1) = q2 := ⟨_, rfl⟩
     rw [hq2] at h2
     have hqI2 : ((at1 : Int) * 65536 + (an1 : Int)) / ((mt1 : Int) + 1) = (q2 : Int) := by rw [← hq2]; simp
     have hq29 : q2 ≤ 4294967295 := by rw [← hq2]; exact Nat.le_trans (Nat.div_le_self _ _) (by show at1 * 65536 + an1 ≤ _; omega)
     have hq21 : 1 ≤ q2 := by rw [← hq2]; exact (Nat.le_div_iff_mul_le (by omega)).2 (by show 1 * (mt1 + 1) ≤ at1 * 65536 + an1; omega)
     have hq20 : ((q2 : Int) == 0) = false := by simp; omega
     have HLE := Lib.hid h2
     clear h2 hq2 HLE1
     go_wp2_with fail
     go_quiet (fail)
     have hsub : A - q2 * (m * DD ^ (dl A - dl m - 1)) < A := by
      have h1 : 0 < q2 * (m * DD ^ (dl A - dl m - 1)) := Nat.mul_pos (by omega) (Nat.mul_pos (by omega) (Nat.pow_pos (by decide)))
      omega
     have HSUB := Lib.hid hsub
     have HTM := Lib.hid (take_mod A m (q2) (DD ^ (dl A - dl m - 1)) HLE.out)
     clear hsub
     go_wp2_with fail
     refine (refTake_new A m (q2) (dl A - dl m - 1) (A - q2 * (m * DD ^ (dl A - dl m - 1))) _ _ _ _ (by omega) (by omega) (by omega) (by omega) (by have := HLE.out; omega) _ (NumAt.up HN2.out (below_drewN (Below.refl _ w2) _)) (NumAt.up HMM2.out (below_drewN (Below.refl _ w2) _))).mono ?_
     rintro e w4 ⟨a4, c4, rfl, hn4, hf4, hb4⟩
     have HN4 := Lib.hid hn4
     have HB4 := Lib.hid (below_up (below_drewN HB2.out _) hb4)
     have HF4 := Lib.hid (show ∀ q o, a4 = some ⟨q, o, none⟩ → w.heap.size ≤ q from fun q o h => Nat.le_trans (Below.size (below_drewN HB2.out _)) (hf4 q o h))
     clear hn4 hb4 hf4
     go_wp2_with fail
     go_roundg (A - q2 * (m * DD ^ (dl A - dl m - 1)))
     case measure => exact HSUB.out
     case rel => exact ⟨_, a4, c4, rfl, by first | rfl | rw [Nat.one_mul], by rw [HTM.out]; exact HM.out, Nat.le_trans (Nat.le_of_lt HSUB.out) hAa, HN4.out, Or.inr HF4.out, HB4.out⟩
    ·have hk00 : dl A - dl m = 0 := by omega
     have hkp : ¬ 0 < dl A - dl m := by omega
     have HLE : Hid (1 * (m * DD ^ (dl A - dl m)) ≤ A) := by
      show _ ≤ _
      rw [hk00, Nat.pow_zero, Nat.mul_one, Nat.one_mul]
      exact HLEM.out
     have hkI : ¬ (0 : Int) < ((dl A - dl m : Nat) : Int) := by omega
     clear hk00 HLE1
     have hsub : A - 1 * (m * DD ^ (dl A - dl m)) < A := by
      have h1 : 0 < 1 * (m * DD ^ (dl A - dl m)) := Nat.mul_pos (by omega) (Nat.mul_pos (by omega) (Nat.pow_pos (by decide)))
      omega
     have HSUB := Lib.hid hsub
     have HTM := Lib.hid (take_mod A m (1) (DD ^ (dl A - dl m)) HLE.out)
     clear hsub
     go_wp2_with fail
     refine (refTake_new A m (1) (dl A - dl m) (A - 1 * (m * DD ^ (dl A - dl m))) _ _ _ _ (by omega) (by omega) (by omega) (by omega) (by have := HLE.out; omega) _ HN3.out HMM3.out).mono ?_
     rintro e w4 ⟨a4, c4, rfl, hn4, hf4, hb4⟩
     have HN4 := Lib.hid hn4
     have HB4 := Lib.hid (below_up HB3.out hb4)
     have HF4 := Lib.hid (show ∀ q o, a4 = some ⟨q, o, none⟩ → w.heap.size ≤ q from fun q o h => Nat.le_trans (Below.size HB3.out) (hf4 q o h))
     clear hn4 hb4 hf4
     go_wp2_with fail
     go_roundg (A - 1 * (m * DD ^ (dl A - dl m)))
     case measure => exact HSUB.out
     case rel => exact ⟨_, a4, c4, rfl, by first | rfl | rw [Nat.one_mul], by rw [HTM.out]; exact HM.out, Nat.le_trans (Nat.le_of_lt HSUB.out) hAa, HN4.out, Or.inr HF4.out, HB4.out⟩
   ·have hq1 : ((q : Int) == 0) = false := by simp; omega
    have HLE := HLE1
    clear HLE1
    have hsub : A - q * (m * DD ^ (dl A - dl m)) < A := by
     have h1 : 0 < q * (m * DD ^ (dl A - dl m)) := Nat.mul_pos (by omega) (Nat.mul_pos (by omega) (Nat.pow_pos (by decide)))
     omega
    have HSUB := Lib.hid hsub
    have HTM := Lib.hid (take_mod A m (q) (DD ^ (dl A - dl m)) HLE.out)
    clear hsub
    go_wp2_with fail
    refine (refTake_new A m (q) (dl A - dl m) (A - q * (m * DD ^ (dl A - dl m))) _ _ _ _ (by omega) (by omega) (by omega) (by omega) (by have := HLE.out; omega) _ HN3.out HMM3.out).mono ?_
    rintro e w4 ⟨a4, c4, rfl, hn4, hf4, hb4⟩
    have HN4 := Lib.hid hn4
    have HB4 := Lib.hid (below_up HB3.out hb4)
    have HF4 := Lib.hid (show ∀ q o, a4 = some ⟨q, o, none⟩ → w.heap.size ≤ q from fun q o h => Nat.le_trans (Below.size HB3.out) (hf4 q o h))
    clear hn4 hb4 hf4
    go_wp2_with fail
    go_roundg (A - q * (m * DD ^ (dl A - dl m)))
    case measure => exact HSUB.out
    case rel => exact ⟨_, a4, c4, rfl, by first | rfl | rw [Nat.one_mul], by rw [HTM.out]; exact HM.out, Nat.le_trans (Nat.le_of_lt HSUB.out) hAa, HN4.out, Or.inr HF4.out, HB4.out⟩
theorem refMod_any (a m : Nat) (aa am : Option Addr) (ca cm : Nat) (hla : dl a ≤ 1048576) (hm0 : 0 < m) (w : World) (hA : NumAt w aa a) (hM : NumAt w am m) :
  Calls Tryz.prog 125 #[.slice aa (dl a) ca, .slice am (dl m) cm] w fun e w' => NumR w e w' (a % m) :=
 (refMod_new a m aa am ca cm hla hm0 w hA hM).mono fun _ _ h => h.r
end Go.Proofs.YtjmeakfjfpnciaaGreat
namespace Go.Proofs.YtjmeakfjfpnciaaGreat
open Go.RowKit
def bitAt (n k : Nat) : Nat := n / 2 ^ k % 2
def bitsTo (n L t : Nat) : List Nat := (List.range t).map fun s => bitAt n (L - 1 - s)
theorem bitsTo_succ (n L t : Nat) : bitsTo n L (t + 1) = bitsTo n L t ++ [bitAt n (L - 1 - t)] := by simp [bitsTo, List.range_succ]
theorem bit_dg (n i j : Nat) (hj : j ≤ 15) : dg DD n i / 2 ^ (15 - j) % 2 = bitAt n (16 * i + (15 - j)) := by
 unfold dg bitAt
 have hb : DD = 2 ^ 16 := rfl
 rw [hb, ← Nat.pow_mul]
 have e : (2 : Nat) ^ 16 = 2 ^ (15 - j) * (2 * 2 ^ j) := by
  rw [← Nat.pow_succ', ← Nat.pow_add]; congr 1; omega
 rw [e, Nat.mod_mul_right_div_self, Nat.mod_mul_right_mod, Nat.div_div_eq_div_mul, ← Nat.pow_add]
structure OwnB (W w : World) (v : Value) (n L t : Nat) : Prop where
 own : w.ownsRow 0 3 1 v t ((bitsTo n L t).map dV)
 new_ : ∀ q, v.ownBlock = some q → W.heap.size ≤ q
 below : Below W.heap.size W w
theorem OwnB.nil (W : World) (n L : Nat) : OwnB W W (.slice none 0 0) n L 0 := ⟨World.ownsRow_nil _ _ _ _, fun q h => by simp [Value.ownBlock] at h, Below.refl _ _⟩
theorem OwnB.push {W w w1 : World} {v : Value} {n L k g c : Nat} (h : OwnB W w v n L k) (hown : w1.ownsRow 0 3 1 (.slice (some ⟨g, 0, none⟩) (k + 1) c) (k + 1) ((bitsTo n L k).map dV ++ [.int .i64 (bitAt n (L - 1 - k) : Int)])) (hp : Pushed w w1 v g) : OwnB W w1 (.slice (some ⟨g, 0, none⟩) (k + 1) c) n L (k + 1) :=
 ⟨by rw [bitsTo_succ, List.map_append]; exact hown, hp.from_ h.below.size h.new_, hp.below h.below h.below.size h.new_⟩
def BitsR (n : Nat) (w : World) (e : Ending) (w' : World) : Prop := ∃ a cap, e = .returned (.slice a (16 * dl n) cap) ∧ Sl w' w'.heap.size a ((bitsTo n (16 * dl n) (16 * dl n)).map dV) ∧ Below w.heap.size w w'
theorem refBits_any (n : Nat) (an : Option Addr) (cn : Nat) (hln : dl n ≤ 65536) (w : World) (hA : NumAt w an n) :
  Calls Tryz.prog 183 #[.slice an (dl n) cn] w (BitsR n w) := by
 obtain ⟨i0, hi, hz0, hz1, hz2⟩ := info_parts infoInt3
 have HA := Lib.hid hA
 clear hA
 go_enter Tryz.func183, Tryz.ntmps183
 go_wp2_with fail
 go_loopw [3, 4, 5] (fun u x _ wr => ∃ i : Nat, i ≤ dl n ∧ x = .int .i64 ((i : Int) - 1) ∧ Hid (OwnB w wr u n (16 * dl n) (16 * (dl n - i)))) (fun _ x _ _ => (intOf x + 1).toNat)
 case atStart => exact ⟨dl n, Nat.le_refl _, rfl, by rw [Nat.sub_self]; exact OwnB.nil w _ _⟩
 case round =>
  obtain ⟨i, hin, hxi, HO⟩ := hrel
  rcases Nat.eq_zero_or_pos i with rfl | hip
  ·subst hxi
   rw [Nat.sub_zero] at HO
   go_wp2_with fail
   go_ret
   obtain ⟨a, c, rfl, _⟩ := own_form3 HO.out.own
   exact ⟨a, c, rfl, sl_of_own HO.out.own, HO.out.below⟩
  ·obtain ⟨p, rfl⟩ : ∃ p, i = p + 1 := ⟨i - 1, by omega⟩
   have ei : ((p + 1 : Nat) : Int) - 1 = (p : Int) := by omega
   rw [ei] at hxi
   subst hxi
   clear ei hip
   obtain ⟨b1, o1, rfl, hb1, hcell1⟩ := HA.out.all (by omega)
   have hx1 := hcell1 p (by omega)
   have HX1 := Lib.hid hx1
   have hdp : dg DD n p < 65536 := dg_lt (B := DD) (by decide) _ _
   clear hcell1 hx1
   obtain ⟨W2, rfl⟩ : ∃ W2 : World, W2 = wr := ⟨_, rfl⟩
   go_wp2_with fail
   go_loopw [3, 5] (fun u x wr => ∃ j : Nat, j ≤ 16 ∧ x = .int .i64 (32768 / 2 ^ j : Nat) ∧ Hid (OwnB w wr u n (16 * dl n) (16 * (dl n - (p + 1)) + j))) (fun _ x _ => (intOf x).toNat)
   case atStart => exact ⟨0, Nat.zero_le _, rfl, HO.out⟩
   case round =>
    clear HO
    obtain ⟨j, hj, rfl, HO⟩ := hrel
    by_cases hjl : j < 16
    ·have hP : 32768 / 2 ^ j = 2 ^ (15 - j) := by
      show 2 ^ 15 / 2 ^ j = _
      exact Nat.pow_div (by omega) (by omega)
     have hP2 : ((32768 / 2 ^ j : Nat) : Int) / 2 = ((32768 / 2 ^ (j + 1) : Nat) : Int) := by
      rw [Nat.pow_succ, ← Nat.div_div_eq_div_mul]; omega
     have hbit := bit_dg n p j (by omega)
     have hpos : 0 < 32768 / 2 ^ j := by rw [hP]; exact Nat.pow_pos (by omega)
     have hle : 32768 / 2 ^ j ≤ 32768 := Nat.div_le_self _ _
     have hdec : 32768 / 2 ^ (j + 1) < 32768 / 2 ^ j := by
      rw [Nat.pow_succ, ← Nat.div_div_eq_div_mul]; exact Nat.div_lt_self hpos (by decide)
     rw [← hP, show 16 * p + (15 - j) = 16 * dl n - 1 - (16 * (dl n - (p + 1)) + j) by omega] at hbit
     have hx1 : wr.cell? ⟨b1, o1 + p, none⟩ = some (.int .i64 (dg DD n p : Int)) := by rw [HO.out.below.cell (p := ⟨b1, o1 + p, none⟩) hb1]; exact HX1.out
     generalize dg DD n p = d at *
     generalize 32768 / 2 ^ j = P at *
     generalize hP1 : 32768 / 2 ^ (j + 1) = P1 at *
     have hq9 : (d : Int) / (P : Int) = ((d / P : Nat) : Int) := by simp
     have hx9l : d / P ≤ d := Nat.div_le_self _ _
     generalize hx9 : d / P = x9 at *
     have HX9 := Lib.hid hx9
     have hbI : (x9 : Int) % 2 = (bitAt n (16 * dl n - 1 - (16 * (dl n - (p + 1)) + j)) : Int) := by omega
     clear hx9
     have hHP := Lib.hid hP
     have HP1 := Lib.hid hP1
     generalize hT : 16 * (dl n - (p + 1)) + j = T at *
     have hTl : T ≤ 1048576 := by omega
     have HT := Lib.hid hT
     generalize hB : bitAt n (16 * dl n - 1 - T) = bb at *
     have HBB := Lib.hid hB
     clear hP hP1 hbit hT hB
     go_wp2_with (at_builtin; refine wpList_push wr rfl _ _ 34 rfl 3 i0 _ 1 8 Tryz.underlying34 hi hz0 hz1 hz2 rfl (by omega) u3 T ((bitsTo n (16 * dl n) T).map dV) rfl HO.out.own _ _ _ rfl rfl rfl (by simp [Value.oneCell']) (by omega) (by unfold maxLen; omega) ?_)
     intro g gc w1 hown hp
     have HO1 := Lib.hid (HO.out.push (by rw [HBB.out]; exact hown) hp)
     clear hown hp
     go_wp2_with fail
     go_roundw
     case rel => exact ⟨j + 1, by omega, by first | rw [hP2, HP1.out] | rw [HP1.out], by rw [← Nat.add_assoc, HT.out]; exact HO1.out⟩
     case measure => simp [intOf]; omega
    ·have hj16 : j = 16 := by omega
     subst hj16
     have h0 : ((32768 / 2 ^ 16 : Nat) : Int) = 0 := by decide
     rw [h0]
     clear h0
     go_wp2_with fail
     go_roundw
     case rel => exact ⟨p, by omega, rfl, by rw [show 16 * (dl n - p) = 16 * (dl n - (p + 1)) + 16 by omega]; exact HO.out⟩
     case measure => first | (simp [intOf]; done) | (simp [intOf]; omega)
theorem lt32 (x y : Nat) (hx : x < DD ^ 16) (hy : y < DD ^ 16) : dl (x * y) ≤ 1048576 := by
 refine Nat.le_trans (dl_of_lt (x * y) 32 ?_) (by decide)
 have e : DD ^ 32 = DD ^ 16 * DD ^ 16 := by rw [← Nat.pow_add]
 rw [e]
 exact Nat.lt_of_le_of_lt (Nat.mul_le_mul_left _ (Nat.le_of_lt hy)) (Nat.mul_lt_mul_of_pos_right hx (Nat.pow_pos (by decide)))
theorem lt16 (x : Nat) (hx : x < DD ^ 16) : dl x ≤ 1048576 := small_dl x hx
theorem pow_sq (a e m : Nat) : (a ^ e % m * (a ^ e % m)) % m = a ^ (2 * e) % m := by
 rw [← Nat.mul_mod, ← Nat.pow_add, Nat.two_mul]
theorem pow_one_more (a e m : Nat) : (a ^ (2 * e) % m * a) % m = a ^ (2 * e + 1) % m := by
 rw [Nat.mod_mul_mod, ← Nat.pow_succ]
theorem dl_one_of (v : Nat) (h : dl v = 1) : dg DD v 0 = v := by
 have := lt_dl v
 rw [h, Nat.pow_one] at this
 unfold dg
 rw [Nat.pow_zero, Nat.div_one, Nat.mod_eq_of_lt this]
theorem refPower_any (a n m : Nat) (aa an am : Option Addr) (ca cn cm : Nat) (ha : a < DD ^ 16) (hn : dl n ≤ 65536) (hm1 : 1 < m) (hm2 : m < DD ^ 16) (w : World) (hA : NumAt w aa a) (hN : NumAt w an n) (hM : NumAt w am m) :
  Calls Tryz.prog 148 #[.slice aa (dl a) ca, .slice an (dl n) cn, .slice am (dl m) cm] w fun e w' => NumR w e w' (a ^ n % m) := by
 have HA := Lib.hid hA
 have HNN := Lib.hid hN
 have HMM := Lib.hid hM
 have HA16 := Lib.hid ha
 have HM16 := Lib.hid hm2
 have hmp : 0 < m := by omega
 clear hA hN hM ha hm2
 go_enter Tryz.func148, Tryz.ntmps148
 go_wp2_with fail
 refine (refOf_any 1 (by omega) w).mono ?_
 rintro e9 w1 ⟨a1, c1, rfl, hn1, hb1⟩
 have HN1 := Lib.hid hn1
 have HB1 := Lib.hid hb1
 clear hn1 hb1
 go_wp2_with fail
 refine (refBits_any n an cn hn w1 (HNN.out.up HB1.out)).mono ?_
 rintro e9 w2 ⟨ab, cb, rfl, hs2, hb2⟩
 have HS := Lib.hid hs2
 have HBS := Lib.hid hb2
 have HN2 := Lib.hid (HN1.out.up hb2)
 have HB2 := Lib.hid (below_up HB1.out hb2)
 have hL : 16 * dl n ≤ 1048576 := by omega
 have HL0 : Hid (n / 2 ^ (16 * dl n) = 0) := by
  have h := lt_dl n
  have hb : DD = 2 ^ 16 := rfl
  rw [hb, ← Nat.pow_mul] at h
  exact Nat.div_eq_of_lt h
 clear hs2 hb2 HN1 HB1
 have HA := Lib.hid (HA.out.up HB2.out)
 have HMM := Lib.hid (HMM.out.up HB2.out)
 generalize hLL : 16 * dl n = L at *
 clear hLL
 have hzw2 := HB2.out.size
 go_wp2_with fail
 go_loopw [7, 9, 14] (fun u _ x wr => ∃ (t v : Nat) (a1 : Option Addr) (c1 : Nat), t ≤ L ∧ x = .int .i64 t ∧ u = .slice a1 (dl v) c1 ∧ Hid (v = a ^ (n / 2 ^ (L - t)) % m) ∧ Hid (NumAt wr a1 v) ∧ Hid (Below w2.heap.size w2 wr)) (fun _ _ x _ => L - (intOf x).toNat)
 case atStart => exact ⟨0, 1, a1, c1, Nat.zero_le _, rfl, rfl, by show _ = _; rw [Nat.sub_zero, HL0.out, Nat.pow_zero, Nat.mod_eq_of_lt hm1], HN2.out, Below.refl _ _⟩
 case round =>
  clear HN2
  obtain ⟨t, v, a1, c1, ht, rfl, rfl, HV, HN, HBW⟩ := hrel
  have HB := HBW
  by_cases htl : t < L
  ·obtain ⟨b3, o3, rfl, hb3, hc3⟩ := (HS.out.up HBW.out).at t (by simp [bitsTo]; omega)
   have hcell : wr.cell? ⟨b3, o3 + t, none⟩ = some (.int .i64 (bitAt n (L - 1 - t) : Int)) := by
    rw [hc3]
    simp [bitsTo, dV]
   have hbb : bitAt n (L - 1 - t) = 0 ∨ bitAt n (L - 1 - t) = 1 := by unfold bitAt; omega
   have he1 : n / 2 ^ (L - (t + 1)) = 2 * (n / 2 ^ (L - t)) + bitAt n (L - 1 - t) := by
    unfold bitAt
    rw [show L - t = L - 1 - t + 1 by omega, show L - (t + 1) = L - 1 - t by omega, Nat.pow_succ, ← Nat.div_div_eq_div_mul]
    omega
   have HE1 := Lib.hid he1
   clear hc3 he1
   generalize bitAt n (L - 1 - t) = bb at *
   generalize n / 2 ^ (L - t) = e at *
   obtain rfl := HV.out
   clear HV
   by_cases hv1 : a ^ e % m = 1
   ·have hd1 : dl (a ^ e % m) = 1 := by rw [hv1]; rfl
    obtain ⟨b4, o4, rfl, hb4, hcell4⟩ := HN.out.all (by omega)
    have hx4 := hcell4 0 (by omega)
    rw [dl_one_of _ hd1, hv1, Nat.add_zero] at hx4
    have hne : ((dl (a ^ e % m) : Int) != 1) = false := by rw [hd1]; rfl
    have hdpos : (0 : Int) < (dl (a ^ e % m) : Int) := by omega
    have HNq : Hid (NumAt wr (some ⟨b4, o4, none⟩) (a ^ (2 * e) % m)) := by
     show NumAt _ _ _
     rw [← pow_sq, hv1, Nat.mul_one, Nat.mod_eq_of_lt hm1, ← hv1]
     exact HN.out
    have HDq : Hid (dl (a ^ e % m) = dl (a ^ (2 * e) % m)) := by
     show _ = _
     rw [← pow_sq, hv1, Nat.mul_one, Nat.mod_eq_of_lt hm1]
    clear hv1 hd1 hcell4
    rw [HDq.out] at hne hdpos ⊢
    clear HDq HN
    have HN := HNq
    clear HNq
    rcases hbb with hb0 | hb0
    ·have hbf : ((bb : Int) == 1) = false := by rw [hb0]; rfl
     have HRES : Hid (a ^ (2 * e) % m = a ^ (2 * e + bb) % m) := by show _ = _; rw [hb0]; rfl
     clear hb0
     go_wp2_with fail
     go_roundw
     case rel => exact ⟨t + 1, a ^ (2 * e) % m, (some ⟨b4, o4, none⟩), c1, by omega, by go_num, rfl, by rw [HE1.out]; exact HRES.out, HN.out, HB.out⟩
     case measure => simp [intOf]; omega
    ·have hbf : ((bb : Int) == 1) = true := by rw [hb0]; rfl
     have HRES : Hid (a ^ (2 * e + 1) % m = a ^ (2 * e + bb) % m) := by show _ = _; rw [hb0]
     clear hb0
     go_wp2_with fail
     refine (refTimes_any (a ^ (2 * e) % m) a (some ⟨b4, o4, none⟩) aa c1 ca (lt16 _ (Nat.lt_trans (Nat.mod_lt _ hmp) HM16.out)) (lt16 _ HA16.out) wr HN.out (HA.out.up HB.out)).mono ?_
     rintro e9 w7 ⟨a7, c7, rfl, hn7, hb7⟩
     have HN7 := Lib.hid hn7
     have HB7 := Lib.hid (below_up HB.out hb7)
     clear hn7 hb7
     go_wp2_with fail
     refine (refMod_any (a ^ (2 * e) % m * a) m a7 am c7 cm (lt32 _ _ (Nat.lt_trans (Nat.mod_lt _ hmp) HM16.out) HA16.out) hmp w7 HN7.out (HMM.out.up HB7.out)).mono ?_
     rintro e9 w8 ⟨a8, c8, rfl, hn8, hb8⟩
     rw [pow_one_more] at hn8 ⊢
     have HN8 := Lib.hid hn8
     have HB8 := Lib.hid (below_up HB7.out hb8)
     clear hn8 hb8
     go_wp2_with fail
     go_roundw
     case rel => exact ⟨t + 1, _, a8, c8, by omega, by go_num, rfl, by rw [HE1.out]; exact HRES.out, HN8.out, HB8.out⟩
     case measure => simp [intOf]; omega
   ·by_cases hd1 : dl (a ^ e % m) = 1
    ·obtain ⟨b4, o4, rfl, hb4, hcell4⟩ := HN.out.all (by omega)
     have hx4 := hcell4 0 (by omega)
     rw [dl_one_of _ hd1, Nat.add_zero] at hx4
     have hne : ((dl (a ^ e % m) : Int) != 1) = false := by rw [hd1]; rfl
     have hdpos : (0 : Int) < (dl (a ^ e % m) : Int) := by omega
     have hv2 : ((a : Int) ^ e % (m : Int) != 1) = true := by rw [bne_iff_ne]; intro h; apply hv1; exact_mod_cast h
     clear hcell4 hv1 hd1
     go_wp2_with fail
     refine (refTimes_any (a ^ e % m) (a ^ e % m) (some ⟨b4, o4, none⟩) (some ⟨b4, o4, none⟩) c1 c1 (lt16 _ (Nat.lt_trans (Nat.mod_lt _ hmp) HM16.out)) (lt16 _ (Nat.lt_trans (Nat.mod_lt _ hmp) HM16.out)) wr HN.out HN.out).mono ?_
     rintro e9 w4 ⟨a4, c4, rfl, hn4, hb4⟩
     have HN4 := Lib.hid hn4
     have HB4 := Lib.hid (below_up HB.out hb4)
     clear hn4 hb4
     go_wp2_with fail
     refine (refMod_any (a ^ e % m * (a ^ e % m)) m a4 am c4 cm (lt32 _ _ (Nat.lt_trans (Nat.mod_lt _ hmp) HM16.out) (Nat.lt_trans (Nat.mod_lt _ hmp) HM16.out)) hmp w4 HN4.out (HMM.out.up HB4.out)).mono ?_
     rintro e9 w5 ⟨a5, c5, rfl, hn5, hb5⟩
     rw [pow_sq] at hn5 ⊢
     have HN5 := Lib.hid hn5
     have HB5 := Lib.hid (below_up HB4.out hb5)
     clear hn5 hb5
     rcases hbb with hb0 | hb0
     ·have hbf : ((bb : Int) == 1) = false := by rw [hb0]; rfl
      have HRES : Hid (a ^ (2 * e) % m = a ^ (2 * e + bb) % m) := by show _ = _; rw [hb0]; rfl
      clear hb0
      go_wp2_with fail
      go_roundw
      case rel => exact ⟨t + 1, a ^ (2 * e) % m, a5, c5, by omega, by go_num, rfl, by rw [HE1.out]; exact HRES.out, HN5.out, HB5.out⟩
      case measure => simp [intOf]; omega
     ·have hbf : ((bb : Int) == 1) = true := by rw [hb0]; rfl
      have HRES : Hid (a ^ (2 * e + 1) % m = a ^ (2 * e + bb) % m) := by show _ = _; rw [hb0]
      clear hb0
      go_wp2_with fail
      refine (refTimes_any (a ^ (2 * e) % m) a a5 aa c5 ca (lt16 _ (Nat.lt_trans (Nat.mod_lt _ hmp) HM16.out)) (lt16 _ HA16.out) w5 HN5.out (HA.out.up HB5.out)).mono ?_
      rintro e9 w7 ⟨a7, c7, rfl, hn7, hb7⟩
      have HN7 := Lib.hid hn7
      have HB7 := Lib.hid (below_up HB5.out hb7)
      clear hn7 hb7
      go_wp2_with fail
      refine (refMod_any (a ^ (2 * e) % m * a) m a7 am c7 cm (lt32 _ _ (Nat.lt_trans (Nat.mod_lt _ hmp) HM16.out) HA16.out) hmp w7 HN7.out (HMM.out.up HB7.out)).mono ?_
      rintro e9 w8 ⟨a8, c8, rfl, hn8, hb8⟩
      rw [pow_one_more] at hn8 ⊢
      have HN8 := Lib.hid hn8
      have HB8 := Lib.hid (below_up HB7.out hb8)
      clear hn8 hb8
      go_wp2_with fail
      go_roundw
      case rel => exact ⟨t + 1, _, a8, c8, by omega, by go_num, rfl, by rw [HE1.out]; exact HRES.out, HN8.out, HB8.out⟩
      case measure => simp [intOf]; omega
    ·have hne : ((dl (a ^ e % m) : Int) != 1) = true := by simp; omega
     clear hd1 hv1
     go_wp2_with fail
     refine (refTimes_any (a ^ e % m) (a ^ e % m) a1 a1 c1 c1 (lt16 _ (Nat.lt_trans (Nat.mod_lt _ hmp) HM16.out)) (lt16 _ (Nat.lt_trans (Nat.mod_lt _ hmp) HM16.out)) wr HN.out HN.out).mono ?_
     rintro e9 w4 ⟨a4, c4, rfl, hn4, hb4⟩
     have HN4 := Lib.hid hn4
     have HB4 := Lib.hid (below_up HB.out hb4)
     clear hn4 hb4
     go_wp2_with fail
     refine (refMod_any (a ^ e % m * (a ^ e % m)) m a4 am c4 cm (lt32 _ _ (Nat.lt_trans (Nat.mod_lt _ hmp) HM16.out) (Nat.lt_trans (Nat.mod_lt _ hmp) HM16.out)) hmp w4 HN4.out (HMM.out.up HB4.out)).mono ?_
     rintro e9 w5 ⟨a5, c5, rfl, hn5, hb5⟩
     rw [pow_sq] at hn5 ⊢
     have HN5 := Lib.hid hn5
     have HB5 := Lib.hid (below_up HB4.out hb5)
     clear hn5 hb5
     rcases hbb with hb0 | hb0
     ·have hbf : ((bb : Int) == 1) = false := by rw [hb0]; rfl
      have HRES : Hid (a ^ (2 * e) % m = a ^ (2 * e + bb) % m) := by show _ = _; rw [hb0]; rfl
      clear hb0
      go_wp2_with fail
      go_roundw
      case rel => exact ⟨t + 1, a ^ (2 * e) % m, a5, c5, by omega, by go_num, rfl, by rw [HE1.out]; exact HRES.out, HN5.out, HB5.out⟩
      case measure => simp [intOf]; omega
     ·have hbf : ((bb : Int) == 1) = true := by rw [hb0]; rfl
      have HRES : Hid (a ^ (2 * e + 1) % m = a ^ (2 * e + bb) % m) := by show _ = _; rw [hb0]
      clear hb0
      go_wp2_with fail
      refine (refTimes_any (a ^ (2 * e) % m) a a5 aa c5 ca (lt16 _ (Nat.lt_trans (Nat.mod_lt _ hmp) HM16.out)) (lt16 _ HA16.out) w5 HN5.out (HA.out.up HB5.out)).mono ?_
      rintro e9 w7 ⟨a7, c7, rfl, hn7, hb7⟩
      have HN7 := Lib.hid hn7
      have HB7 := Lib.hid (below_up HB5.out hb7)
      clear hn7 hb7
      go_wp2_with fail
      refine (refMod_any (a ^ (2 * e) % m * a) m a7 am c7 cm (lt32 _ _ (Nat.lt_trans (Nat.mod_lt _ hmp) HM16.out) HA16.out) hmp w7 HN7.out (HMM.out.up HB7.out)).mono ?_
      rintro e9 w8 ⟨a8, c8, rfl, hn8, hb8⟩
      rw [pow_one_more] at hn8 ⊢
      have HN8 := Lib.hid hn8
      have HB8 := Lib.hid (below_up HB7.out hb8)
      clear hn8 hb8
      go_wp2_with fail
      go_roundw
      case rel => exact ⟨t + 1, _, a8, c8, by omega, by go_num, rfl, by rw [HE1.out]; exact HRES.out, HN8.out, HB8.out⟩
      case measure => simp [intOf]; omega
  ·have htL : t = L := by omega
   subst htL
   rw [Nat.sub_self, Nat.pow_zero, Nat.div_one] at HV
   obtain rfl := HV.out
   go_wp2_with fail
   go_ret
   exact ⟨a1, c1, rfl, HN.out, below_up HB2.out HBW.out⟩
end Go.Proofs.YtjmeakfjfpnciaaGreat
namespace Go.Proofs.YtjmeakfjfpnciaaGreat
open Go.RowKit
def gR (sz q p : Nat) (aq ap : Option Addr) (cq cp : Nat) : List Value := [.int .i64 (sz : Int), .slice aq (dl q) cq, .slice ap (dl p) cp]
theorem take_minus (a b R : Nat) (h : a = R + b) : a = R + 1 * (b * DD ^ 0) := by rw [Nat.pow_zero, Nat.mul_one, Nat.one_mul]; exact h
theorem refMinus_any (a b R : Nat) (aa ab : Option Addr) (ca cb : Nat) (hla : dl a ≤ 1048576) (hlb : dl b ≤ 1048576) (hR : a = R + b) (w : World) (hA : NumAt w aa a) (hB : NumAt w ab b) :
  Calls Tryz.prog 182 #[.slice aa (dl a) ca, .slice ab (dl b) cb] w fun e w' => NumR w e w' R := by
 have hT : Calls Tryz.prog 169 #[.slice aa (dl a) ca, .slice ab (dl b) cb, .int .i64 1, .int .i64 0] w fun e w' => NumR w e w' R := refTake_any a b 1 0 R aa ab ca cb hla hlb (by omega) (by omega) (take_minus a b R hR) w hA hB
 have HT := Lib.hid hT
 clear hT hR hA hB
 go_enter Tryz.func182, Tryz.ntmps182
 go_wp2_with fail
 refine HT.out.mono ?_
 rintro e w1 ⟨a1, c1, rfl, hn1, hb1⟩
 have HN1 := Lib.hid hn1
 have HB1 := Lib.hid hb1
 clear hn1 hb1
 go_wp2_with fail
 go_ret
 exact ⟨a1, c1, rfl, HN1.out, HB1.out⟩
theorem plus_dl (a b : Nat) (ha : a < DD ^ 16) (hb : b < DD ^ 16) : dl (a + b) ≤ 1048576 := by
 refine Nat.le_trans (dl_of_lt (a + b) 17 ?_) (by decide)
 have : DD ^ 17 = DD ^ 16 * 65536 := Nat.pow_succ ..
 omega
theorem refAdd_new (a b sz q p : Nat) (aa ab aq ap : Option Addr) (ca cb cq cp : Nat) (ha : a < DD ^ 16) (hb : b < DD ^ 16) (hq : 0 < q) (w : World) (hA : NumAt w aa a) (hB : NumAt w ab b) (hQ : NumAt w aq q) :
  Calls Tryz.prog 81 #[.agg #[.int .i64 (sz : Int), .slice aq (dl q) cq, .slice ap (dl p) cp], .slice aa (dl a) ca, .slice ab (dl b) cb] w fun e w' => NumN w e w' ((a + b) % q) := by
 have HA := Lib.hid hA
 have HBB := Lib.hid hB
 have HQ := Lib.hid hQ
 clear hA hB hQ
 go_enter Tryz.func81, Tryz.ntmps81
 have hzz : Bx (w.alloc (.cells #[.int .i64 (sz : Int), .slice aq (dl q) cq, .slice ap (dl p) cp] 97)) w.heap.size 97 (gR sz q p aq ap cq cp) := Bx.new w _ _ _ rfl
 have hbz : Below w.heap.size w (w.alloc (.cells #[.int .i64 (sz : Int), .slice aq (dl q) cq, .slice ap (dl p) cp] 97)) := (Below.refl w.heap.size w).alloc (Nat.le_refl _) _
 obtain ⟨W2, hW2⟩ : ∃ W9 : World, (w.alloc (.cells #[.int .i64 (sz : Int), .slice aq (dl q) cq, .slice ap (dl p) cp] 97)) = W9 := ⟨_, rfl⟩
 rw [hW2] at hzz hbz
 have HZ := Lib.hid hzz
 have HBZ := Lib.hid hbz
 have hz_0 := HZ.out.cell (i := 0) rfl
 have hz_1 := HZ.out.cell (i := 1) rfl
 have hz_2 := HZ.out.cell (i := 2) rfl
 have hzl := HZ.out.lt
 clear hzz hbz
 go_wp2_with fail
 have HW0 : Hid (Below W2.heap.size W2 W2.drew) := (Below.refl _ _).drew
 refine wp_region_tree (fun w' => ∃ E : Over W2, w' = E.w) (.qs [0, 1, 3, 4] (.a 2 (.a 5 (.q 6 .done)))) (by kernel_rfl) (by kernel_rfl) (fun _ _ d _ _ h => by cases d <;> exact h) ⟨⟨_, HW0.out⟩, rfl⟩ ?_
 have hov := fun (E : Over W2) o => E.cell (b := w.heap.size) o hzl
 simp only [Tree.qs]
 repeat (refine tree_q rfl rfl ?_; go_big_quiet_step (fail); refine wpQuiet_nil ?_)
 refine tree_a rfl (fun K hK => ?_)
 go_simp
 refine (refPlus_new a b aa ab ca cb (small_dl a ha) (small_dl b hb) _ (HA.out.up (below_up HBZ.out HW0.out)) (HBB.out.up (below_up HBZ.out HW0.out))).mono ?_
 rintro e w4 ⟨a4, c4, rfl, hn9, hf9, hb9⟩
 have HN4 := Lib.hid hn9
 have HFR4 := Lib.hid hf9
 have HW4 := Lib.hid (below_up HW0.out hb9)
 clear hn9 hf9 hb9
 refine hK _ _ ⟨⟨⟨w4, HW4.out⟩, rfl⟩, ?_⟩
 clear hK K
 refine tree_a rfl (fun K hK => ?_)
 go_simp
 refine (refMod_new (a + b) q a4 aq c4 cq (plus_dl a b ha hb) hq w4 HN4.out (HQ.out.up (below_up HBZ.out HW4.out))).mono ?_
 rintro e w5 ⟨a5, c5, rfl, hn9, hf9, hb9⟩
 have HN5 := Lib.hid hn9
 have HFR5 := Lib.hid hf9
 have HW5 := Lib.hid (below_up HW4.out hb9)
 clear hn9 hf9 hb9
 refine hK _ _ ⟨⟨⟨w5, HW5.out⟩, rfl⟩, ?_⟩
 clear hK K
 refine tree_q rfl rfl ?_
 go_big_quiet_step (fail)
 refine wpQuiet_nil ?_
 refine tree_end ?_
 have HF := Lib.hid (below_up HBZ.out HW5.out)
 clear hov
 go_wp2_with fail
 go_ret
 exact ⟨a5, c5, rfl, HN5.out, fun x o h => by
  have h1 := HBZ.out.size
  have h2 := HW4.out.size
  rcases HFR5.out with h9 | h9
  ·exact Nat.le_trans h1 (HFR4.out x o (h9 ▸ h))
  ·exact Nat.le_trans h1 (Nat.le_trans h2 (h9 x o h)), HF.out⟩
theorem refAdd_any (a b sz q p : Nat) (aa ab aq ap : Option Addr) (ca cb cq cp : Nat) (ha : a < DD ^ 16) (hb : b < DD ^ 16) (hq : 0 < q) (w : World) (hA : NumAt w aa a) (hB : NumAt w ab b) (hQ : NumAt w aq q) :
  Calls Tryz.prog 81 #[.agg #[.int .i64 (sz : Int), .slice aq (dl q) cq, .slice ap (dl p) cp], .slice aa (dl a) ca, .slice ab (dl b) cb] w fun e w' => NumR w e w' ((a + b) % q) :=
 (refAdd_new a b sz q p aa ab aq ap ca cb cq cp ha hb hq w hA hB hQ).mono fun _ _ h => h.r
theorem refMul_any (a b sz q p : Nat) (aa ab aq ap : Option Addr) (ca cb cq cp : Nat) (ha : a < DD ^ 16) (hb : b < DD ^ 16) (hq : 0 < q) (w : World) (hA : NumAt w aa a) (hB : NumAt w ab b) (hQ : NumAt w aq q) :
  Calls Tryz.prog 101 #[.agg #[.int .i64 (sz : Int), .slice aq (dl q) cq, .slice ap (dl p) cp], .slice aa (dl a) ca, .slice ab (dl b) cb] w fun e w' => NumR w e w' (a * b % q) := by
 have HA := Lib.hid hA
 have HBB := Lib.hid hB
 have HQ := Lib.hid hQ
 clear hA hB hQ
 go_enter Tryz.func101, Tryz.ntmps101
 have hzz : Bx (w.alloc (.cells #[.int .i64 (sz : Int), .slice aq (dl q) cq, .slice ap (dl p) cp] 97)) w.heap.size 97 (gR sz q p aq ap cq cp) := Bx.new w _ _ _ rfl
 have hbz : Below w.heap.size w (w.alloc (.cells #[.int .i64 (sz : Int), .slice aq (dl q) cq, .slice ap (dl p) cp] 97)) := (Below.refl w.heap.size w).alloc (Nat.le_refl _) _
 obtain ⟨W2, hW2⟩ : ∃ W9 : World, (w.alloc (.cells #[.int .i64 (sz : Int), .slice aq (dl q) cq, .slice ap (dl p) cp] 97)) = W9 := ⟨_, rfl⟩
 rw [hW2] at hzz hbz
 have HZ := Lib.hid hzz
 have HBZ := Lib.hid hbz
 have hz_0 := HZ.out.cell (i := 0) rfl
 have hz_1 := HZ.out.cell (i := 1) rfl
 have hz_2 := HZ.out.cell (i := 2) rfl
 have hzl := HZ.out.lt
 clear hzz hbz
 go_wp2_with fail
 have HW0 : Hid (Below W2.heap.size W2 W2.drew) := (Below.refl _ _).drew
 refine wp_region_tree (fun w' => ∃ E : Over W2, w' = E.w) (.qs [0, 1, 3, 4] (.a 2 (.a 5 (.q 6 .done)))) (by kernel_rfl) (by kernel_rfl) (fun _ _ d _ _ h => by cases d <;> exact h) ⟨⟨_, HW0.out⟩, rfl⟩ ?_
 have hov := fun (E : Over W2) o => E.cell (b := w.heap.size) o hzl
 simp only [Tree.qs]
 repeat (refine tree_q rfl rfl ?_; go_big_quiet_step (fail); refine wpQuiet_nil ?_)
 refine tree_a rfl (fun K hK => ?_)
 go_simp
 refine (refTimes_any a b aa ab ca cb (small_dl a ha) (small_dl b hb) _ (HA.out.up (below_up HBZ.out HW0.out)) (HBB.out.up (below_up HBZ.out HW0.out))).mono ?_
 rintro e w4 ⟨a4, c4, rfl, hn9, hb9⟩
 have HN4 := Lib.hid hn9
 have HW4 := Lib.hid (below_up HW0.out hb9)
 clear hn9 hb9
 refine hK _ _ ⟨⟨⟨w4, HW4.out⟩, rfl⟩, ?_⟩
 clear hK K
 refine tree_a rfl (fun K hK => ?_)
 go_simp
 refine (refMod_any (a * b) q a4 aq c4 cq (lt32 a b ha hb) hq w4 HN4.out (HQ.out.up (below_up HBZ.out HW4.out))).mono ?_
 rintro e w5 ⟨a5, c5, rfl, hn9, hb9⟩
 have HN5 := Lib.hid hn9
 have HW5 := Lib.hid (below_up HW4.out hb9)
 clear hn9 hb9
 refine hK _ _ ⟨⟨⟨w5, HW5.out⟩, rfl⟩, ?_⟩
 clear hK K
 refine tree_q rfl rfl ?_
 go_big_quiet_step (fail)
 refine wpQuiet_nil ?_
 refine tree_end ?_
 have HF := Lib.hid (below_up HBZ.out HW5.out)
 clear hov
 go_wp2_with fail
 go_ret
 exact ⟨a5, c5, rfl, HN5.out, HF.out⟩
end Go.Proofs.YtjmeakfjfpnciaaGreat
namespace Go.Proofs.YtjmeakfjfpnciaaGreat
open Go.RowKit
def lowR (q p x : Nat) : Nat := if q < x then p - x else x
theorem refLow_any (x sz q p : Nat) (ax aq ap : Option Addr) (cx cq cp : Nat) (hx : x ≤ p) (hp : p < DD ^ 16) (w : World) (hX : NumAt w ax x) (hQ : NumAt w aq q) (hP : NumAt w ap p) :
  Calls Tryz.prog 147 #[.agg #[.int .i64 (sz : Int), .slice aq (dl q) cq, .slice ap (dl p) cp], .slice ax (dl x) cx] w fun e w' => NumR w e w' (lowR q p x) := by
 have hx2 : x < DD ^ 16 := Nat.lt_of_le_of_lt hx hp
 have HX := Lib.hid hX
 have HQ := Lib.hid hQ
 have HP := Lib.hid hP
 clear hX hQ hP
 go_enter Tryz.func147, Tryz.ntmps147
 have hzz : Bx (w.alloc (.cells #[.int .i64 (sz : Int), .slice aq (dl q) cq, .slice ap (dl p) cp] 97)) w.heap.size 97 (gR sz q p aq ap cq cp) := Bx.new w _ _ _ rfl
 have hbz : Below w.heap.size w (w.alloc (.cells #[.int .i64 (sz : Int), .slice aq (dl q) cq, .slice ap (dl p) cp] 97)) := (Below.refl w.heap.size w).alloc (Nat.le_refl _) _
 obtain ⟨W2, hW2⟩ : ∃ W9 : World, (w.alloc (.cells #[.int .i64 (sz : Int), .slice aq (dl q) cq, .slice ap (dl p) cp] 97)) = W9 := ⟨_, rfl⟩
 rw [hW2] at hzz hbz
 have HZ := Lib.hid hzz
 have HBZ := Lib.hid hbz
 have hz_0 := HZ.out.cell (i := 0) rfl
 have hz_1 := HZ.out.cell (i := 1) rfl
 have hz_2 := HZ.out.cell (i := 2) rfl
 have hzl := HZ.out.lt
 clear hzz hbz
 go_wp2_with fail
 refine (refCompare_any x q ax aq cx cq (small_dl x hx2) W2 (HX.out.up HBZ.out) (HQ.out.up HBZ.out)).mono ?_
 rintro e w3 ⟨rfl, hb3⟩
 have HB3 := Lib.hid (below_up HBZ.out hb3)
 have HZ3 := Lib.hid (HZ.out.up hb3)
 clear hb3 hz_0 hz_1 hz_2 hzl HZ
 have hz_2 := HZ3.out.cell (i := 2) rfl
 by_cases hlow : q < x
 ·have HCI : Hid (cmpI x q = 1) := by show _ = _; unfold cmpI; rw [if_neg (by omega), if_pos hlow]
  have HL : Hid (p - x = lowR q p x) := by show _ = _; unfold lowR; rw [if_pos hlow]
  rw [HCI.out]
  go_wp2_with fail
  refine (refMinus_any p x (p - x) ap ax cp cx (small_dl p hp) (small_dl x hx2) (by omega) w3 (HP.out.up HB3.out) (HX.out.up HB3.out)).mono ?_
  rintro e w4 ⟨a4, c4, rfl, hn4, hb4⟩
  rw [HL.out] at hn4 ⊢
  have HN4 := Lib.hid hn4
  have HB4 := Lib.hid (below_up HB3.out hb4)
  clear hn4 hb4
  go_wp2_with fail
  go_ret
  exact ⟨a4, c4, rfl, HN4.out, HB4.out⟩
 ·have HL : Hid (x = lowR q p x) := by show _ = _; unfold lowR; rw [if_neg hlow]
  have hci : (decide (cmpI x q > 0)) = false := by unfold cmpI; simp only [decide_eq_false_iff_not]; split <;> simp <;> omega
  generalize cmpI x q = ci at *
  go_wp2_with fail
  go_ret
  exact ⟨ax, cx, by rw [← HL.out]; rfl, by rw [← HL.out]; exact HX.out.up HB3.out, HB3.out⟩
theorem refProduct_any (a b sz q p : Nat) (aa ab aq ap : Option Addr) (ca cb cq cp : Nat) (ha : a < DD ^ 16) (hb : b < DD ^ 16) (hp0 : 0 < p) (hp : p < DD ^ 16) (w : World) (hA : NumAt w aa a) (hB : NumAt w ab b) (hQ : NumAt w aq q) (hP : NumAt w ap p) :
  Calls Tryz.prog 99 #[.agg #[.int .i64 (sz : Int), .slice aq (dl q) cq, .slice ap (dl p) cp], .slice aa (dl a) ca, .slice ab (dl b) cb] w fun e w' => NumR w e w' (lowR q p (a * b % p)) := by
 have HA := Lib.hid hA
 have HBB := Lib.hid hB
 have HQ := Lib.hid hQ
 have HP := Lib.hid hP
 clear hA hB hQ hP
 go_enter Tryz.func99, Tryz.ntmps99
 have hzz : Bx (w.alloc (.cells #[.int .i64 (sz : Int), .slice aq (dl q) cq, .slice ap (dl p) cp] 97)) w.heap.size 97 (gR sz q p aq ap cq cp) := Bx.new w _ _ _ rfl
 have hbz : Below w.heap.size w (w.alloc (.cells #[.int .i64 (sz : Int), .slice aq (dl q) cq, .slice ap (dl p) cp] 97)) := (Below.refl w.heap.size w).alloc (Nat.le_refl _) _
 obtain ⟨W2, hW2⟩ : ∃ W9 : World, (w.alloc (.cells #[.int .i64 (sz : Int), .slice aq (dl q) cq, .slice ap (dl p) cp] 97)) = W9 := ⟨_, rfl⟩
 rw [hW2] at hzz hbz
 have HZ := Lib.hid hzz
 have HBZ := Lib.hid hbz
 have hz_0 := HZ.out.cell (i := 0) rfl
 have hz_1 := HZ.out.cell (i := 1) rfl
 have hz_2 := HZ.out.cell (i := 2) rfl
 have hzl := HZ.out.lt
 clear hzz hbz
 go_wp2_with fail
 have HW0 : Hid (Below W2.heap.size W2 W2.drew) := (Below.refl _ _).drew
 refine wp_region_tree (fun w' => ∃ E : Over W2, w' = E.w) (.qs [0, 1, 2, 4, 5] (.a 3 (.a 6 (.a 7 (.q 8 .done))))) (by kernel_rfl) (by kernel_rfl) (fun _ _ d _ _ h => by cases d <;> exact h) ⟨⟨_, HW0.out⟩, rfl⟩ ?_
 have hov := fun (E : Over W2) o => E.cell (b := w.heap.size) o hzl
 simp only [Tree.qs]
 repeat (refine tree_q rfl rfl ?_; go_big_quiet_step (fail); refine wpQuiet_nil ?_)
 refine tree_a rfl (fun K hK => ?_)
 go_simp
 refine (refTimes_any a b aa ab ca cb (small_dl a ha) (small_dl b hb) _ (HA.out.up (below_up HBZ.out HW0.out)) (HBB.out.up (below_up HBZ.out HW0.out))).mono ?_
 rintro e w4 ⟨a4, c4, rfl, hn9, hb9⟩
 have HN4 := Lib.hid hn9
 have HW4 := Lib.hid (below_up HW0.out hb9)
 clear hn9 hb9
 refine hK _ _ ⟨⟨⟨w4, HW4.out⟩, rfl⟩, ?_⟩
 clear hK K
 refine tree_a rfl (fun K hK => ?_)
 go_simp
 refine (refMod_any (a * b) p a4 ap c4 cp (lt32 a b ha hb) hp0 w4 HN4.out (HP.out.up (below_up HBZ.out HW4.out))).mono ?_
 rintro e w5 ⟨a5, c5, rfl, hn9, hb9⟩
 have HN5 := Lib.hid hn9
 have HW5 := Lib.hid (below_up HW4.out hb9)
 clear hn9 hb9
 refine hK _ _ ⟨⟨⟨w5, HW5.out⟩, rfl⟩, ?_⟩
 clear hK K
 refine tree_a rfl (fun K hK => ?_)
 go_simp
 refine (refLow_any (a * b % p) sz q p a5 aq ap c5 cq cp (Nat.le_of_lt (Nat.mod_lt _ hp0)) hp w5 HN5.out (HQ.out.up (below_up HBZ.out HW5.out)) (HP.out.up (below_up HBZ.out HW5.out))).mono ?_
 rintro e w6 ⟨a6, c6, rfl, hn9, hb9⟩
 have HN6 := Lib.hid hn9
 have HW6 := Lib.hid (below_up HW5.out hb9)
 clear hn9 hb9
 refine hK _ _ ⟨⟨⟨w6, HW6.out⟩, rfl⟩, ?_⟩
 clear hK K
 refine tree_q rfl rfl ?_
 go_big_quiet_step (fail)
 refine wpQuiet_nil ?_
 refine tree_end ?_
 have HF := Lib.hid (below_up HBZ.out HW6.out)
 clear hov
 go_wp2_with fail
 go_ret
 exact ⟨a6, c6, rfl, HN6.out, HF.out⟩
theorem refPow_any (a n sz q p : Nat) (aa an aq ap : Option Addr) (ca cn cq cp : Nat) (ha : a < DD ^ 16) (hn : dl n ≤ 65536) (hp0 : 1 < p) (hp : p < DD ^ 16) (w : World) (hA : NumAt w aa a) (hN : NumAt w an n) (hQ : NumAt w aq q) (hP : NumAt w ap p) :
  Calls Tryz.prog 100 #[.agg #[.int .i64 (sz : Int), .slice aq (dl q) cq, .slice ap (dl p) cp], .slice aa (dl a) ca, .slice an (dl n) cn] w fun e w' => NumR w e w' (lowR q p (a ^ n % p)) := by
 have HA := Lib.hid hA
 have HNN := Lib.hid hN
 have HQ := Lib.hid hQ
 have HP := Lib.hid hP
 clear hA hN hQ hP
 go_enter Tryz.func100, Tryz.ntmps100
 have hzz : Bx (w.alloc (.cells #[.int .i64 (sz : Int), .slice aq (dl q) cq, .slice ap (dl p) cp] 97)) w.heap.size 97 (gR sz q p aq ap cq cp) := Bx.new w _ _ _ rfl
 have hbz : Below w.heap.size w (w.alloc (.cells #[.int .i64 (sz : Int), .slice aq (dl q) cq, .slice ap (dl p) cp] 97)) := (Below.refl w.heap.size w).alloc (Nat.le_refl _) _
 obtain ⟨W2, hW2⟩ : ∃ W9 : World, (w.alloc (.cells #[.int .i64 (sz : Int), .slice aq (dl q) cq, .slice ap (dl p) cp] 97)) = W9 := ⟨_, rfl⟩
 rw [hW2] at hzz hbz
 have HZ := Lib.hid hzz
 have HBZ := Lib.hid hbz
 have hz_0 := HZ.out.cell (i := 0) rfl
 have hz_1 := HZ.out.cell (i := 1) rfl
 have hz_2 := HZ.out.cell (i := 2) rfl
 have hzl := HZ.out.lt
 clear hzz hbz
 go_wp2_with fail
 have HW0 : Hid (Below W2.heap.size W2 W2.drew) := (Below.refl _ _).drew
 refine wp_region_tree (fun w' => ∃ E : Over W2, w' = E.w) (.qs [0, 1, 2, 3, 4] (.a 5 (.a 6 (.q 7 .done)))) (by kernel_rfl) (by kernel_rfl) (fun _ _ d _ _ h => by cases d <;> exact h) ⟨⟨_, HW0.out⟩, rfl⟩ ?_
 have hov := fun (E : Over W2) o => E.cell (b := w.heap.size) o hzl
 simp only [Tree.qs]
 repeat (refine tree_q rfl rfl ?_; go_big_quiet_step (fail); refine wpQuiet_nil ?_)
 refine tree_a rfl (fun K hK => ?_)
 go_simp
 refine (refPower_any a n p aa an ap ca cn cp ha hn hp0 hp _ (HA.out.up (below_up HBZ.out HW0.out)) (HNN.out.up (below_up HBZ.out HW0.out)) (HP.out.up (below_up HBZ.out HW0.out))).mono ?_
 rintro e w4 ⟨a4, c4, rfl, hn9, hb9⟩
 have HN4 := Lib.hid hn9
 have HW4 := Lib.hid (below_up HW0.out hb9)
 clear hn9 hb9
 refine hK _ _ ⟨⟨⟨w4, HW4.out⟩, rfl⟩, ?_⟩
 clear hK K
 refine tree_a rfl (fun K hK => ?_)
 go_simp
 refine (refLow_any (a ^ n % p) sz q p a4 aq ap c4 cq cp (Nat.le_of_lt (Nat.mod_lt _ (by omega))) hp w4 HN4.out (HQ.out.up (below_up HBZ.out HW4.out)) (HP.out.up (below_up HBZ.out HW4.out))).mono ?_
 rintro e w5 ⟨a5, c5, rfl, hn9, hb9⟩
 have HN5 := Lib.hid hn9
 have HW5 := Lib.hid (below_up HW4.out hb9)
 clear hn9 hb9
 refine hK _ _ ⟨⟨⟨w5, HW5.out⟩, rfl⟩, ?_⟩
 clear hK K
 refine tree_q rfl rfl ?_
 go_big_quiet_step (fail)
 refine wpQuiet_nil ?_
 refine tree_end ?_
 have HF := Lib.hid (below_up HBZ.out HW5.out)
 clear hov
 go_wp2_with fail
 go_ret
 exact ⟨a5, c5, rfl, HN5.out, HF.out⟩
end Go.Proofs.YtjmeakfjfpnciaaGreat
namespace Go.Proofs.YtjmeakfjfpnciaaGreat
open Go.RowKit
def isSc (q sz : Nat) (s : ByteArray) : Bool := decide (s.size = sz) && decide (numOf s < q)
def isEl (q sz : Nat) (s : ByteArray) : Bool := decide (s.size = sz) && decide (0 < numOf s) && decide (numOf s ≤ q)
theorem cmpI_lt (a b : Nat) : decide (cmpI a b < 0) = decide (a < b) := by unfold cmpI; split; · simp [*]
                                                                           ·split <;> simp <;> omega
theorem cmpI_le (a b : Nat) : decide (cmpI a b ≤ 0) = decide (a ≤ b) := by
 unfold cmpI
 split
 ·simp; omega
 ·split <;> simp <;> omega
theorem numOf_16 (s : ByteArray) (hs : s.size ≤ 32) : numOf s < DD ^ 16 := numOf_lt s hs
theorem refIsScalar_any (s : ByteArray) (sz q p : Nat) (aq ap : Option Addr) (cq cp : Nat) (hsz : sz ≤ 32) (w : World) (hQ : NumAt w aq q) :
  Calls Tryz.prog 56 #[.agg #[.int .i64 (sz : Int), .slice aq (dl q) cq, .slice ap (dl p) cp], .string s] w fun e w' => e = .returned (.bool (isSc q sz s)) ∧ Below w.heap.size w w' := by
 have HQ := Lib.hid hQ
 clear hQ
 by_cases hl : s.size = sz
 ·have HR : Hid (isSc q sz s = decide (numOf s < q)) := by show _ = _; unfold isSc; simp [hl]
  have hn := numOf_16 s (by omega)
  have hd : ((s.size : Int) == (sz : Int)) = true := by rw [hl]; simp
  have hss : s.size ≤ 1048576 := by omega
  clear hl
  go_enter Tryz.func56, Tryz.ntmps56
  have hzz : Bx (w.alloc (.cells #[.int .i64 (sz : Int), .slice aq (dl q) cq, .slice ap (dl p) cp] 97)) w.heap.size 97 (gR sz q p aq ap cq cp) := Bx.new w _ _ _ rfl
  have hbz : Below w.heap.size w (w.alloc (.cells #[.int .i64 (sz : Int), .slice aq (dl q) cq, .slice ap (dl p) cp] 97)) := (Below.refl w.heap.size w).alloc (Nat.le_refl _) _
  obtain ⟨W2, hW2⟩ : ∃ W9 : World, (w.alloc (.cells #[.int .i64 (sz : Int), .slice aq (dl q) cq, .slice ap (dl p) cp] 97)) = W9 := ⟨_, rfl⟩
  rw [hW2] at hzz hbz
  have HZ := Lib.hid hzz
  have HBZ := Lib.hid hbz
  have hz_0 := HZ.out.cell (i := 0) rfl
  have hz_1 := HZ.out.cell (i := 1) rfl
  have hz_2 := HZ.out.cell (i := 2) rfl
  have hzl := HZ.out.lt
  clear hzz hbz
  go_wp2_with fail
  have HW0 : Hid (Below W2.heap.size W2 W2.drew) := (Below.refl _ _).drew
  refine wp_region_tree (fun w' => ∃ E : Over W2, w' = E.w) (.qs [0, 1, 2, 3, 4, 5, 6, 8, 9] (.a 7 (.a 10 (.q 11 (.q 12 (.q 13 .done)))))) (by kernel_rfl) (by kernel_rfl) (fun _ _ d _ _ h => by cases d <;> exact h) ⟨⟨_, HW0.out⟩, rfl⟩ ?_
  have hov := fun (E : Over W2) o => E.cell (b := w.heap.size) o hzl
  simp only [Tree.qs]
  repeat (refine tree_q rfl rfl ?_; go_big_quiet_step (fail); refine wpQuiet_nil ?_)
  refine tree_a rfl (fun K hK => ?_)
  go_simp
  refine (refRead_any s hss _).mono ?_
  rintro e w4 ⟨a4, c4, rfl, hn9, hb9⟩
  have HN4 := Lib.hid hn9
  have HW4 := Lib.hid (below_up HW0.out hb9)
  clear hn9 hb9
  refine hK _ _ ⟨⟨⟨w4, HW4.out⟩, rfl⟩, ?_⟩
  clear hK K
  refine tree_a rfl (fun K hK => ?_)
  go_simp
  refine (refCompare_any (numOf s) q a4 aq c4 cq (small_dl _ hn) w4 HN4.out (HQ.out.up (below_up HBZ.out HW4.out))).mono ?_
  rintro e w5 ⟨rfl, hb9⟩
  have HW5 := Lib.hid (below_up HW4.out hb9)
  clear hb9
  refine hK _ _ ⟨⟨⟨w5, HW5.out⟩, rfl⟩, ?_⟩
  clear hK K
  repeat (refine tree_q rfl rfl ?_; go_big_quiet_step (fail); refine wpQuiet_nil ?_)
  refine tree_end ?_
  have HF := Lib.hid (below_up HBZ.out HW5.out)
  clear hov
  go_wp2_with fail
  go_ret
  exact ⟨by rw [HR.out, ← cmpI_lt]; rfl, HF.out⟩
 ·have HR : Hid (isSc q sz s = false) := by show _ = _; unfold isSc; simp [hl]
  have hd : ((s.size : Int) == (sz : Int)) = false := by simp; omega
  clear hl
  go_enter Tryz.func56, Tryz.ntmps56
  have hzz : Bx (w.alloc (.cells #[.int .i64 (sz : Int), .slice aq (dl q) cq, .slice ap (dl p) cp] 97)) w.heap.size 97 (gR sz q p aq ap cq cp) := Bx.new w _ _ _ rfl
  have hbz : Below w.heap.size w (w.alloc (.cells #[.int .i64 (sz : Int), .slice aq (dl q) cq, .slice ap (dl p) cp] 97)) := (Below.refl w.heap.size w).alloc (Nat.le_refl _) _
  obtain ⟨W2, hW2⟩ : ∃ W9 : World, (w.alloc (.cells #[.int .i64 (sz : Int), .slice aq (dl q) cq, .slice ap (dl p) cp] 97)) = W9 := ⟨_, rfl⟩
  rw [hW2] at hzz hbz
  have HZ := Lib.hid hzz
  have HBZ := Lib.hid hbz
  have hz_0 := HZ.out.cell (i := 0) rfl
  have hz_1 := HZ.out.cell (i := 1) rfl
  have hz_2 := HZ.out.cell (i := 2) rfl
  have hzl := HZ.out.lt
  clear hzz hbz
  go_wp2_with fail
  go_quiet (fail)
  go_wp2_with fail
  go_ret
  exact ⟨by rw [HR.out]; rfl, below_up HBZ.out (below_drewN (Below.refl _ _) _)⟩
theorem refIsElem_any (s : ByteArray) (sz q p : Nat) (aq ap : Option Addr) (cq cp : Nat) (hsz : sz ≤ 32) (w : World) (hQ : NumAt w aq q) :
  Calls Tryz.prog 98 #[.agg #[.int .i64 (sz : Int), .slice aq (dl q) cq, .slice ap (dl p) cp], .string s] w fun e w' => e = .returned (.bool (isEl q sz s)) ∧ Below w.heap.size w w' := by
 have HQ := Lib.hid hQ
 clear hQ
 by_cases hl : s.size = sz
 ·have hn := numOf_16 s (by omega)
  have hd : ((s.size : Int) == (sz : Int)) = true := by rw [hl]; simp
  have hss : s.size ≤ 1048576 := by omega
  by_cases h0 : 0 < numOf s
  ·have HR : Hid (isEl q sz s = decide (numOf s ≤ q)) := by show _ = _; unfold isEl; simp [hl, h0]
   have hdl := dl_pos _ (Nat.ne_of_gt h0)
   have hdd : decide ((dl (numOf s) : Int) > 0) = true := by simp; omega
   clear hl h0
   go_enter Tryz.func98, Tryz.ntmps98
   have hzz : Bx (w.alloc (.cells #[.int .i64 (sz : Int), .slice aq (dl q) cq, .slice ap (dl p) cp] 97)) w.heap.size 97 (gR sz q p aq ap cq cp) := Bx.new w _ _ _ rfl
   have hbz : Below w.heap.size w (w.alloc (.cells #[.int .i64 (sz : Int), .slice aq (dl q) cq, .slice ap (dl p) cp] 97)) := (Below.refl w.heap.size w).alloc (Nat.le_refl _) _
   obtain ⟨W2, hW2⟩ : ∃ W9 : World, (w.alloc (.cells #[.int .i64 (sz : Int), .slice aq (dl q) cq, .slice ap (dl p) cp] 97)) = W9 := ⟨_, rfl⟩
   rw [hW2] at hzz hbz
   have HZ := Lib.hid hzz
   have HBZ := Lib.hid hbz
   have hz_0 := HZ.out.cell (i := 0) rfl
   have hz_1 := HZ.out.cell (i := 1) rfl
   have hz_2 := HZ.out.cell (i := 2) rfl
   have hzl := HZ.out.lt
   clear hzz hbz
   go_wp2_with fail
   have HW0 : Hid (Below W2.heap.size W2 W2.drew) := (Below.refl _ _).drew
   refine wp_region_tree (fun w' => ∃ E : Over W2, w' = E.w) (.qs [0, 1, 2, 3, 4, 5, 6] (.a 7 (.q 8 (.q 9 (.q 10 (.q 11 (.q 12 (.q 14 (.q 15 (.a 13 (.a 16 (.q 17 (.q 18 (.q 19 .done)))))))))))))) (by kernel_rfl) (by kernel_rfl) (fun _ _ d _ _ h => by cases d <;> exact h) ⟨⟨_, HW0.out⟩, rfl⟩ ?_
   have hov := fun (E : Over W2) o => E.cell (b := w.heap.size) o hzl
   simp only [Tree.qs]
   repeat (refine tree_q rfl rfl ?_; go_big_quiet_step (fail); refine wpQuiet_nil ?_)
   refine tree_a rfl (fun K hK => ?_)
   go_simp
   refine (refRead_any s hss _).mono ?_
   rintro e w4 ⟨a4, c4, rfl, hn9, hb9⟩
   have HN4 := Lib.hid hn9
   have HW4 := Lib.hid (below_up HW0.out hb9)
   clear hn9 hb9
   refine hK _ _ ⟨⟨⟨w4, HW4.out⟩, rfl⟩, ?_⟩
   clear hK K
   repeat (refine tree_q rfl rfl ?_; go_big_quiet_step (fail); refine wpQuiet_nil ?_)
   refine tree_a rfl (fun K hK => ?_)
   go_simp
   refine (refRead_any s hss _).mono ?_
   rintro e w5 ⟨a5, c5, rfl, hn9, hb9⟩
   have HN5 := Lib.hid hn9
   have HW5 := Lib.hid (below_up HW4.out hb9)
   clear hn9 hb9
   refine hK _ _ ⟨⟨⟨w5, HW5.out⟩, rfl⟩, ?_⟩
   clear hK K
   refine tree_a rfl (fun K hK => ?_)
   go_simp
   refine (refCompare_any (numOf s) q a5 aq c5 cq (small_dl _ hn) w5 HN5.out (HQ.out.up (below_up HBZ.out HW5.out))).mono ?_
   rintro e w6 ⟨rfl, hb9⟩
   have HW6 := Lib.hid (below_up HW5.out hb9)
   clear hb9
   refine hK _ _ ⟨⟨⟨w6, HW6.out⟩, rfl⟩, ?_⟩
   clear hK K
   repeat (refine tree_q rfl rfl ?_; go_big_quiet_step (fail); refine wpQuiet_nil ?_)
   refine tree_end ?_
   have HF := Lib.hid (below_up HBZ.out HW6.out)
   clear hov
   go_wp2_with fail
   go_ret
   exact ⟨by rw [HR.out, ← cmpI_le]; rfl, HF.out⟩
  ·have HR : Hid (isEl q sz s = false) := by show _ = _; unfold isEl; simp [h0]
   have h00 : numOf s = 0 := by omega
   have hdl : dl (numOf s) = 0 := by rw [h00]; rfl
   clear hl h0 h00
   go_enter Tryz.func98, Tryz.ntmps98
   have hzz : Bx (w.alloc (.cells #[.int .i64 (sz : Int), .slice aq (dl q) cq, .slice ap (dl p) cp] 97)) w.heap.size 97 (gR sz q p aq ap cq cp) := Bx.new w _ _ _ rfl
   have hbz : Below w.heap.size w (w.alloc (.cells #[.int .i64 (sz : Int), .slice aq (dl q) cq, .slice ap (dl p) cp] 97)) := (Below.refl w.heap.size w).alloc (Nat.le_refl _) _
   obtain ⟨W2, hW2⟩ : ∃ W9 : World, (w.alloc (.cells #[.int .i64 (sz : Int), .slice aq (dl q) cq, .slice ap (dl p) cp] 97)) = W9 := ⟨_, rfl⟩
   rw [hW2] at hzz hbz
   have HZ := Lib.hid hzz
   have HBZ := Lib.hid hbz
   have hz_0 := HZ.out.cell (i := 0) rfl
   have hz_1 := HZ.out.cell (i := 1) rfl
   have hz_2 := HZ.out.cell (i := 2) rfl
   have hzl := HZ.out.lt
   clear hzz hbz
   go_wp2_with fail
   have HW0 : Hid (Below W2.heap.size W2 W2.drew) := (Below.refl _ _).drew
   refine wp_region_tree (fun w' => ∃ E : Over W2, w' = E.w) (.qs [0, 1, 2, 3, 4, 5, 6] (.a 7 (.q 8 (.q 9 (.q 10 (.q 11 (.q 12 (.q 14 (.q 15 (.a 13 (.a 16 (.q 17 (.q 18 (.q 19 .done)))))))))))))) (by kernel_rfl) (by kernel_rfl) (fun _ _ d _ _ h => by cases d <;> exact h) ⟨⟨_, HW0.out⟩, rfl⟩ ?_
   have hov := fun (E : Over W2) o => E.cell (b := w.heap.size) o hzl
   simp only [Tree.qs]
   repeat (refine tree_q rfl rfl ?_; go_big_quiet_step (fail); refine wpQuiet_nil ?_)
   refine tree_a rfl (fun K hK => ?_)
   go_simp
   refine (refRead_any s hss _).mono ?_
   rintro e w4 ⟨a4, c4, rfl, hn9, hb9⟩
   have HN4 := Lib.hid hn9
   have HW4 := Lib.hid (below_up HW0.out hb9)
   clear hn9 hb9
   refine hK _ _ ⟨⟨⟨w4, HW4.out⟩, rfl⟩, ?_⟩
   clear hK K
   repeat (refine tree_q rfl rfl ?_; go_big_quiet_step (fail); refine wpQuiet_nil ?_)
   refine tree_a rfl (fun K hK => ?_)
   go_simp
   refine hK _ _ ⟨⟨⟨w4, HW4.out⟩, rfl⟩, ?_⟩
   clear hK K
   refine tree_a rfl (fun K hK => ?_)
   go_simp
   refine hK _ _ ⟨⟨⟨w4, HW4.out⟩, rfl⟩, ?_⟩
   clear hK K
   repeat (refine tree_q rfl rfl ?_; go_big_quiet_step (fail); refine wpQuiet_nil ?_)
   refine tree_end ?_
   have HF := Lib.hid (below_up HBZ.out HW4.out)
   clear hov
   go_wp2_with fail
   go_ret
   exact ⟨by rw [HR.out]; rfl, HF.out⟩
 ·have HR : Hid (isEl q sz s = false) := by show _ = _; unfold isEl; simp [hl]
  have hd : ((s.size : Int) == (sz : Int)) = false := by simp; omega
  clear hl
  go_enter Tryz.func98, Tryz.ntmps98
  have hzz : Bx (w.alloc (.cells #[.int .i64 (sz : Int), .slice aq (dl q) cq, .slice ap (dl p) cp] 97)) w.heap.size 97 (gR sz q p aq ap cq cp) := Bx.new w _ _ _ rfl
  have hbz : Below w.heap.size w (w.alloc (.cells #[.int .i64 (sz : Int), .slice aq (dl q) cq, .slice ap (dl p) cp] 97)) := (Below.refl w.heap.size w).alloc (Nat.le_refl _) _
  obtain ⟨W2, hW2⟩ : ∃ W9 : World, (w.alloc (.cells #[.int .i64 (sz : Int), .slice aq (dl q) cq, .slice ap (dl p) cp] 97)) = W9 := ⟨_, rfl⟩
  rw [hW2] at hzz hbz
  have HZ := Lib.hid hzz
  have HBZ := Lib.hid hbz
  have hz_0 := HZ.out.cell (i := 0) rfl
  have hz_1 := HZ.out.cell (i := 1) rfl
  have hz_2 := HZ.out.cell (i := 2) rfl
  have hzl := HZ.out.lt
  clear hzz hbz
  go_wp2_with fail
  go_quiet (fail)
  go_wp2_with fail
  go_ret
  exact ⟨by rw [HR.out]; rfl, below_up HBZ.out (below_drewN (Below.refl _ _) _)⟩
end Go.Proofs.YtjmeakfjfpnciaaGreat
namespace Go.Proofs.YtjmeakfjfpnciaaGreat
open Go.RowKit
def ReadR (ok : Bool) (v : Value) (w : World) (e : Ending) (w' : World) : Prop := ∃ x : Nat, e = .returned (.tuple #[limbV x, .bool ok]) ∧ Below w.heap.size w w' ∧ (ok = true → limbV x = v)
theorem gScalar_any (G : GP) (ok : G.Ok) (gb : Nat) (s : ByteArray) (w : World) (hG : GroupAt w gb G) :
  Calls Tryz.prog 55 #[.pointer (some ⟨gb, 0, none⟩), .string s] w (ReadR (isSc G.q.m G.size s) (scV G (numOf s)) w) := by
 have no : isSc G.q.m G.size s = false → ∀ e w', (e = .returned (.tuple #[limbV 0, .bool false]) ∧ Below w.heap.size w w') → ReadR (isSc G.q.m G.size s) (scV G (numOf s)) w e w' := fun h e w' ⟨h1, h2⟩ => ⟨0, by rw [h]; exact h1, h2, fun hc => by rw [h] at hc; cases hc⟩
 by_cases h32 : 32 < s.size
 ·exact (gScalar_long G ok gb s h32 w hG).mono (no (by have := ok.size_le; unfold isSc; simp; omega))
 by_cases hl : s.size = G.size
 ·rcases Nat.lt_trichotomy (numOf s) G.q.m with hc | hc | hc
  ·refine (gScalar_yes G ok gb s hl hc w hG).mono ?_
   rintro e w' ⟨h1, h2⟩
   exact ⟨mont G.q.m (numOf s), by rw [show isSc G.q.m G.size s = true by unfold isSc; simp [hl, hc]]; exact h1, h2, fun _ => rfl⟩
  ·exact (gScalar_eq G ok gb s hl hc w hG).mono (no (by unfold isSc; simp; omega))
  ·exact (gScalar_gt G ok gb s hl hc w hG).mono (no (by unfold isSc; simp; omega))
 ·exact (gScalar_len G ok gb s (by omega) hl w hG).mono (no (by unfold isSc; simp [hl]))
theorem gElem_any (G : GP) (ok : G.Ok) (gb : Nat) (s : ByteArray) (w : World) (hG : GroupAt w gb G) :
  Calls Tryz.prog 85 #[.pointer (some ⟨gb, 0, none⟩), .string s] w (ReadR (isEl G.q.m G.size s) (elV G (numOf s)) w) := by
 have no : isEl G.q.m G.size s = false → ∀ e w', (e = .returned (.tuple #[limbV 0, .bool false]) ∧ Below w.heap.size w w') → ReadR (isEl G.q.m G.size s) (elV G (numOf s)) w e w' := fun h e w' ⟨h1, h2⟩ => ⟨0, by rw [h]; exact h1, h2, fun hc => by rw [h] at hc; cases hc⟩
 by_cases h32 : 32 < s.size
 ·exact (gElem_long G ok gb s h32 w hG).mono (no (by have := ok.size_le; unfold isEl; simp; omega))
 by_cases hl : s.size = G.size
 ·by_cases h0 : numOf s = 0
  ·exact (gElem_zero G ok gb s hl h0 w hG).mono (no (by unfold isEl; simp [h0]))
  rcases Nat.lt_trichotomy (numOf s) G.q.m with hc | hc | hc
  ·refine (gElem_lt G ok gb s hl (by omega) hc w hG).mono ?_
   rintro e w' ⟨h1, h2⟩
   exact ⟨mont G.p.m (numOf s), by rw [show isEl G.q.m G.size s = true by unfold isEl; simp [hl]; omega]; exact h1, h2, fun _ => rfl⟩
  ·refine (gElem_eq G ok gb s hl (by omega) hc w hG).mono ?_
   rintro e w' ⟨h1, h2⟩
   exact ⟨mont G.p.m (numOf s), by rw [show isEl G.q.m G.size s = true by unfold isEl; simp [hl]; omega]; exact h1, h2, fun _ => rfl⟩
  ·exact (gElem_gt G ok gb s hl hc w hG).mono (no (by unfold isEl; simp; omega))
 ·exact (gElem_len G ok gb s (by omega) hl w hG).mono (no (by unfold isEl; simp [hl]))
end Go.Proofs.YtjmeakfjfpnciaaGreat
namespace Go.Proofs.YtjmeakfjfpnciaaGreat
open Go.RowKit
def ReadM (b : Bool) (m : Nat) (w : World) (e : Ending) (w' : World) : Prop := ∃ x : Nat, e = .returned (.tuple #[limbV x, .bool b]) ∧ Below w.heap.size w w' ∧ (b = true → x = m)
theorem ReadR.m {b : Bool} {m : Nat} {w w' : World} {e : Ending} (h : ReadR b (limbV m) w e w') : ReadM b m w e w' := by
 obtain ⟨x, h1, h2, h3⟩ := h
 cases b with
 | true => exact ⟨m, by rw [h1, h3 rfl], h2, fun _ => rfl⟩
 | false => exact ⟨x, h1, h2, fun h => by cases h⟩
theorem gScalar_m (G : GP) (ok : G.Ok) (gb : Nat) (s : ByteArray) (b : Bool) (hb : isSc G.q.m G.size s = b) (w : World) (hG : GroupAt w gb G) :
  Calls Tryz.prog 55 #[.pointer (some ⟨gb, 0, none⟩), .string s] w (ReadM b (mont G.q.m (numOf s)) w) := by
 subst hb
 exact (gScalar_any G ok gb s w hG).mono fun e w' h => ReadR.m h
theorem gElem_m (G : GP) (ok : G.Ok) (gb : Nat) (s : ByteArray) (b : Bool) (hb : isEl G.q.m G.size s = b) (w : World) (hG : GroupAt w gb G) :
  Calls Tryz.prog 85 #[.pointer (some ⟨gb, 0, none⟩), .string s] w (ReadM b (mont G.p.m (numOf s)) w) := by
 subst hb
 exact (gElem_any G ok gb s w hG).mono fun e w' h => ReadR.m h
end Go.Proofs.YtjmeakfjfpnciaaGreat
namespace Go.Proofs.YtjmeakfjfpnciaaGreat
open Go.RowKit
end Go.Proofs.YtjmeakfjfpnciaaGreat
namespace Go.Proofs.YtjmeakfjfpnciaaGreat
open Go.RowKit
end Go.Proofs.YtjmeakfjfpnciaaGreat
namespace Go.Proofs.YtjmeakfjfpnciaaGreat
open Go.RowKit
end Go.Proofs.YtjmeakfjfpnciaaGreat
namespace Go.Proofs.YtjmeakfjfpnciaaGreat
theorem grp_prime_q (k : Nat) (h1 : 1 ≤ k) (h3 : k ≤ 3) : IsPrime (grp k).q.m := by
 obtain rfl | rfl | rfl : k = 1 ∨ k = 2 ∨ k = 3 := by omega
 ·exact prime_q1
 ·exact prime_q2
 ·exact prime_q3
theorem grp_prime_p (k : Nat) (h1 : 1 ≤ k) (h3 : k ≤ 3) : IsPrime (grp k).p.m := by
 obtain rfl | rfl | rfl : k = 1 ∨ k = 2 ∨ k = 3 := by omega
 ·exact prime_p1
 ·exact prime_p2
 ·exact prime_p3
def PM (p x y : Nat) : Prop := (p : Int) ∣ (x : Int) - y ∨ (p : Int) ∣ (x : Int) + y
theorem PM.refl (p x : Nat) : PM p x x := Or.inl ⟨0, by omega⟩
theorem PM.of_mod {p x y : Nat} (h : x % p = y % p) : PM p x y := Or.inl (by
 have h1 := Nat.div_add_mod x p
 have h2 := Nat.div_add_mod y p
 refine ⟨(x / p : Nat) - (y / p : Nat), ?_⟩
 have e1 : (x : Int) = p * (x / p : Nat) + (x % p : Nat) := by exact_mod_cast h1.symm
 have e2 : (y : Int) = p * (y / p : Nat) + (y % p : Nat) := by exact_mod_cast h2.symm
 rw [e1, e2, h]
 generalize ((x / p : Nat) : Int) = a
 generalize ((y / p : Nat) : Int) = b
 grind)
theorem PM.symm {p x y : Nat} (h : PM p x y) : PM p y x := by
 rcases h with ⟨c, h⟩ | ⟨c, h⟩
 ·exact Or.inl ⟨-c, by grind⟩
 ·exact Or.inr ⟨c, by grind⟩
theorem PM.trans {p x y z : Nat} (h : PM p x y) (g : PM p y z) : PM p x z := by
 rcases h with ⟨c, h⟩ | ⟨c, h⟩ <;> rcases g with ⟨d, g⟩ | ⟨d, g⟩
 ·exact Or.inl ⟨c + d, by grind⟩
 ·exact Or.inr ⟨c + d, by grind⟩
 ·exact Or.inr ⟨c - d, by grind⟩
 ·exact Or.inl ⟨c - d, by grind⟩
theorem PM.mul {p x y u v : Nat} (h : PM p x y) (g : PM p u v) : PM p (x * u) (y * v) := by
 have e1 : ((x * u : Nat) : Int) = x * u := by simp
 have e2 : ((y * v : Nat) : Int) = y * v := by simp
 unfold PM
 rw [e1, e2]
 rcases h with ⟨c, h⟩ | ⟨c, h⟩ <;> rcases g with ⟨d, g⟩ | ⟨d, g⟩
 ·exact Or.inl ⟨c * u + y * d, by grind⟩
 ·exact Or.inr ⟨c * u + y * d, by grind⟩
 ·exact Or.inr ⟨c * u - y * d, by grind⟩
 ·exact Or.inl ⟨c * u - y * d, by grind⟩
theorem PM.pow {p x y : Nat} (h : PM p x y) : ∀ n : Nat, PM p (x ^ n) (y ^ n)
 | 0 => PM.refl _ _
 | n + 1 => by rw [Nat.pow_succ, Nat.pow_succ]; exact PM.mul (PM.pow h n) h
theorem PM.mod (p x : Nat) : PM p (x % p) x := PM.of_mod (Nat.mod_mod _ _)
theorem lowR_pm (q p x : Nat) (hx : x < p) : PM p (lowR q p x) x := by
 unfold lowR
 split
 ·exact Or.inr ⟨1, by omega⟩
 ·exact PM.refl _ _
theorem lowR_leq {q p x : Nat} (hp : p = 2 * q + 1) (hx : x < p) : lowR q p x ≤ q := by
 unfold lowR
 split <;> omega
theorem lowR_fix {q p x : Nat} (hx : x ≤ q) : lowR q p x = x := by
 unfold lowR
 rw [if_neg (by omega)]
theorem low_unique {q p x y : Nat} (hp : p = 2 * q + 1) (hx : x ≤ q) (hy : y ≤ q) (h : PM p x y) : x = y := by
 rcases h with h | h
 ·have := Int.eq_zero_of_dvd_of_natAbs_lt_natAbs h (by omega)
  omega
 ·have := Int.eq_zero_of_dvd_of_natAbs_lt_natAbs h (by omega)
  omega
theorem low_eq {q p x y : Nat} (_hq : 0 < q) (hp : p = 2 * q + 1) (h : PM p x y) : lowR q p (x % p) = lowR q p (y % p) := by
 have hx := Nat.mod_lt x (show 0 < p by omega)
 have hy := Nat.mod_lt y (show 0 < p by omega)
 exact low_unique hp (lowR_leq hp hx) (lowR_leq hp hy) ((((lowR_pm q p _ hx).trans (PM.mod p x)).trans h).trans (((lowR_pm q p _ hy).trans (PM.mod p y)).symm))
theorem pm_low {q p : Nat} (hp : 0 < p) (x : Nat) : PM p (lowR q p (x % p)) x := (lowR_pm q p _ (Nat.mod_lt x hp)).trans (PM.mod p x)
theorem pm_euler {q p a : Nat} (hpp : IsPrime p) (hp : p = 2 * q + 1) (h0 : 0 < a) (ha : a < p) : PM p (a ^ q) 1 := by
 have hnd : ¬ p ∣ a := fun h => by have := Nat.le_of_dvd h0 h; omega
 have hf := fermat hpp hnd
 rw [show p - 1 = q * 2 by omega, Nat.pow_mul] at hf
 obtain ⟨b, hb⟩ : ∃ b, a ^ q = b := ⟨_, rfl⟩
 rw [hb] at hf ⊢
 have hb0 : 0 < b := by rw [← hb]; exact Nat.pow_pos h0
 have h2 : p ∣ b ^ 2 - 1 := (mod_eq_iff_dvd_sub (Nat.pow_pos hb0)).1 hf
 have h3 : b ^ 2 - 1 = (b - 1) * (b + 1) := by
  obtain ⟨c, rfl⟩ : ∃ c, b = c + 1 := ⟨b - 1, by omega⟩
  rw [Nat.add_sub_cancel, Nat.pow_two]
  have : (c + 1) * (c + 1) = c * (c + 1 + 1) + 1 := by grind
  omega
 rw [h3] at h2
 rcases hpp.dvd_mul h2 with ⟨c, h⟩ | ⟨c, h⟩
 ·refine Or.inl ⟨c, ?_⟩
  have : ((b - 1 : Nat) : Int) = p * c := by rw [h]; simp
  omega
 ·refine Or.inr ⟨c, ?_⟩
  have : ((b + 1 : Nat) : Int) = p * c := by rw [h]; simp
  omega
end Go.Proofs.YtjmeakfjfpnciaaGreat
namespace Go.Proofs.YtjmeakfjfpnciaaGreat
open Go.RowKit
def T (G : GP) (n : Nat) : ByteArray := textS n G.size
end Go.Proofs.YtjmeakfjfpnciaaGreat
namespace Go.Proofs.YtjmeakfjfpnciaaGreat
open Go.RowKit
def Lw (q p v : Nat) : Nat := lowR q p (v % p)
section
variable {q p : Nat} (hq : 0 < q) (hp : p = 2 * q + 1)
include hq hp
omit hq in
theorem Lw_pm (x : Nat) : PM p (Lw q p x) x := pm_low (by omega) x
omit hq in
theorem Lw_le (x : Nat) : Lw q p x ≤ q := lowR_leq hp (Nat.mod_lt _ (by omega))
omit hq in
theorem Lw_fix {x : Nat} (h : x ≤ q) : Lw q p x = x := by
 unfold Lw
 rw [Nat.mod_eq_of_lt (by omega), lowR_fix h]
omit hq in
end
theorem pm_pow_mod {q p a : Nat} (hpp : IsPrime p) (hp : p = 2 * q + 1) (h0 : 0 < a) (ha : a < p) (n : Nat) : PM p (a ^ (n % q)) (a ^ n) := by
 have h1 : a ^ n = a ^ (n % q) * (a ^ q) ^ (n / q) := by
  rw [← Nat.pow_mul, ← Nat.pow_add, Nat.mod_add_div]
 rw [h1]
 have h2 := PM.mul (PM.refl p (a ^ (n % q))) ((pm_euler hpp hp h0 ha).pow (n / q))
 rw [Nat.one_pow, Nat.mul_one] at h2
 exact h2.symm
end Go.Proofs.YtjmeakfjfpnciaaGreat
namespace Go.Proofs.YtjmeakfjfpnciaaGreat
open Go.RowKit
section
variable {G : GP}
theorem lowN_eq (ok : G.Ok) {x y : Nat} (h : PM G.p.m x y) : lowN G x = lowN G y := low_eq ok.q.pos ok.twice h
theorem lowN_pm (ok : G.Ok) (x : Nat) : PM G.p.m (lowN G x) x := Lw_pm ok.twice x
theorem lowN_le (ok : G.Ok) (x : Nat) : lowN G x ≤ G.q.m := Lw_le ok.twice x
theorem lowN_16 (ok : G.Ok) (x : Nat) : lowN G x < DD ^ 16 := Nat.lt_of_le_of_lt (lowN_le ok x) ok.q.lt4
theorem lowN_mul (ok : G.Ok) (x y : Nat) : lowN G (lowN G x * lowN G y) = lowN G (x * y) := lowN_eq ok (PM.mul (lowN_pm ok x) (lowN_pm ok y))
theorem lowN_fix (ok : G.Ok) {x : Nat} (h : x ≤ G.q.m) : lowN G x = x := Lw_fix ok.twice h
structure RG (W : World) (G : GP) (aq ap : Option Addr) : Prop where
 q : NumAt W aq G.q.m
 p : NumAt W ap G.p.m
theorem RG.up {W W' : World} {aq ap : Option Addr} (h : RG W G aq ap) (hb : Below W.heap.size W W') : RG W' G aq ap := ⟨h.q.up hb, h.p.up hb⟩
theorem q_dl (ok : G.Ok) {n : Nat} (h : n ≤ G.q.m) : dl n ≤ 65536 := Nat.le_trans (dl_of_lt n 16 (Nat.lt_of_le_of_lt h ok.q.lt4)) (by decide)
variable {aq ap : Option Addr} {cq cp : Nat}
theorem rProd (ok : G.Ok) {a b : Nat} {aa ab : Option Addr} {ca cb : Nat} (ha : a < DD ^ 16) (hb : b < DD ^ 16) (w : World) (hG : RG w G aq ap) (hA : NumAt w aa a) (hB : NumAt w ab b) :
  Calls Tryz.prog 99 #[.agg #[.int .i64 (G.size : Int), .slice aq (dl G.q.m) cq, .slice ap (dl G.p.m) cp], .slice aa (dl a) ca, .slice ab (dl b) cb] w fun e w' => NumR w e w' (lowN G (a * b)) :=
 refProduct_any a b G.size G.q.m G.p.m aa ab aq ap ca cb cq cp ha hb ok.p.pos ok.p.lt4 w hA hB hG.q hG.p
theorem rPow (ok : G.Ok) {a n : Nat} {aa an : Option Addr} {ca cn : Nat} (ha : a < DD ^ 16) (hn : dl n ≤ 65536) (w : World) (hG : RG w G aq ap) (hA : NumAt w aa a) (hN : NumAt w an n) :
  Calls Tryz.prog 100 #[.agg #[.int .i64 (G.size : Int), .slice aq (dl G.q.m) cq, .slice ap (dl G.p.m) cp], .slice aa (dl a) ca, .slice an (dl n) cn] w fun e w' => NumR w e w' (lowN G (a ^ n)) :=
 refPow_any a n G.size G.q.m G.p.m aa an aq ap ca cn cq cp ha hn (by have := ok.twice; have := ok.q.pos; omega) ok.p.lt4 w hA hN hG.q hG.p
theorem rIsSc (ok : G.Ok) (s : ByteArray) (w : World) (hG : RG w G aq ap) :
  Calls Tryz.prog 56 #[.agg #[.int .i64 (G.size : Int), .slice aq (dl G.q.m) cq, .slice ap (dl G.p.m) cp], .string s] w fun e w' => e = .returned (.bool (isSc G.q.m G.size s)) ∧ Below w.heap.size w w' :=
 refIsScalar_any s G.size G.q.m G.p.m aq ap cq cp ok.size_le w hG.q
theorem rIsEl (ok : G.Ok) (s : ByteArray) (w : World) (hG : RG w G aq ap) :
  Calls Tryz.prog 98 #[.agg #[.int .i64 (G.size : Int), .slice aq (dl G.q.m) cq, .slice ap (dl G.p.m) cp], .string s] w fun e w' => e = .returned (.bool (isEl G.q.m G.size s)) ∧ Below w.heap.size w w' :=
 refIsElem_any s G.size G.q.m G.p.m aq ap cq cp ok.size_le w hG.q
theorem rAdd (ok : G.Ok) {a b : Nat} {aa ab : Option Addr} {ca cb : Nat} (ha : a < DD ^ 16) (hb : b < DD ^ 16) (w : World) (hG : RG w G aq ap) (hA : NumAt w aa a) (hB : NumAt w ab b) :
  Calls Tryz.prog 81 #[.agg #[.int .i64 (G.size : Int), .slice aq (dl G.q.m) cq, .slice ap (dl G.p.m) cp], .slice aa (dl a) ca, .slice ab (dl b) cb] w fun e w' => NumR w e w' ((a + b) % G.q.m) :=
 refAdd_any a b G.size G.q.m G.p.m aa ab aq ap ca cb cq cp ha hb ok.q.pos w hA hB hG.q
theorem rMul (ok : G.Ok) {a b : Nat} {aa ab : Option Addr} {ca cb : Nat} (ha : a < DD ^ 16) (hb : b < DD ^ 16) (w : World) (hG : RG w G aq ap) (hA : NumAt w aa a) (hB : NumAt w ab b) :
  Calls Tryz.prog 101 #[.agg #[.int .i64 (G.size : Int), .slice aq (dl G.q.m) cq, .slice ap (dl G.p.m) cp], .slice aa (dl a) ca, .slice ab (dl b) cb] w fun e w' => NumR w e w' (a * b % G.q.m) :=
 refMul_any a b G.size G.q.m G.p.m aa ab aq ap ca cb cq cp ha hb ok.q.pos w hA hB hG.q
theorem rText (ok : G.Ok) {n : Nat} {an : Option Addr} {cn : Nat} (hn : n < DD ^ 16) (w : World) (hN : NumAt w an n) :
  Calls Tryz.prog 53 #[.slice an (dl n) cn, .int .i64 (G.size : Int)] w fun e w' => e = .returned (.string (textS n G.size)) ∧ Below w.heap.size w w' :=
 refText_any n G.size an cn (small_dl n hn) (by have := ok.size_le; omega) w hN
end
end Go.Proofs.YtjmeakfjfpnciaaGreat
namespace Go.Proofs.YtjmeakfjfpnciaaGreat
open Go.RowKit
def Gives (v : Value) (w : World) (e : Ending) (w' : World) : Prop := e = .returned v ∧ Below w.heap.size w w'
theorem all_take_true {α : Type} {f : α → Bool} {l : List α} (h : (l.take l.length).all f = true) : l.all f = true := by rwa [List.take_length] at h
theorem all_not {α : Type} {f : α → Bool} {l : List α} {i : Nat} (hi : i < l.length) (h : f l[i] = false) : l.all f = false := by
 rw [List.all_eq_false]
 exact ⟨l[i], List.getElem_mem hi, by simp [h]⟩
theorem all_snoc {α : Type} {f : α → Bool} {l : List α} {i : Nat} (hi : i < l.length) (ht : (l.take i).all f = true) (h : f l[i] = true) : (l.take (i + 1)).all f = true := by
 rw [List.take_succ_eq_append_getElem hi, List.all_append, ht]
 simp [h]
section
variable {G : GP}
theorem isEl_size {q n : Nat} {s : ByteArray} (h : isEl q n s = true) : s.size = n := by
 unfold isEl at h
 simp only [Bool.and_eq_true, decide_eq_true_eq] at h
 exact h.1.1
theorem isSc_size {q n : Nat} {s : ByteArray} (h : isSc q n s = true) : s.size = n := by
 unfold isSc at h
 simp only [Bool.and_eq_true, decide_eq_true_eq] at h
 exact h.1
end
end Go.Proofs.YtjmeakfjfpnciaaGreat
namespace Go.Proofs.YtjmeakfjfpnciaaGreat
open Go.RowKit
end Go.Proofs.YtjmeakfjfpnciaaGreat
namespace Go.Proofs.YtjmeakfjfpnciaaGreat
section
variable {q a b c d : Int}
end
section
variable {q : Int}
end
section
variable {q : Int}
end
end Go.Proofs.YtjmeakfjfpnciaaGreat
namespace Go.Proofs.YtjmeakfjfpnciaaGreat
theorem getD_in {l : List Int} {j : Nat} (h : ∀ b ∈ l, 0 ≤ b ∧ b ≤ 255) : 0 ≤ l.getD j 0 ∧ l.getD j 0 ≤ 255 := by
 by_cases hj : j < l.length
 ·rw [List.getD_eq_getElem?_getD, List.getElem?_eq_getElem hj]; exact h _ (List.getElem_mem hj)
 ·rw [List.getD_eq_getElem?_getD, List.getElem?_eq_none (by omega)]; decide
end Go.Proofs.YtjmeakfjfpnciaaGreat
namespace Go.Proofs.YtjmeakfjfpnciaaGreat
open Go.RowKit
theorem infoScalar : (Tryz.prog.info? 89).map (fun i => (i.zero, i.size, i.bytes)) = some (some (.agg #[.int .u64 0, .int .u64 0, .int .u64 0, .int .u64 0]), 4, 32) := by kernel_rfl
theorem infoElem : (Tryz.prog.info? 91).map (fun i => (i.zero, i.size, i.bytes)) = some (some (.agg #[.int .u64 0, .int .u64 0, .int .u64 0, .int .u64 0]), 4, 32) := by kernel_rfl
def limC (m : Nat) (s : ByteArray) : List Value := [.int .u64 (dig (mont m (numOf s)) 0 : Int), .int .u64 (dig (mont m (numOf s)) 1 : Int), .int .u64 (dig (mont m (numOf s)) 2 : Int), .int .u64 (dig (mont m (numOf s)) 3 : Int)]
end Go.Proofs.YtjmeakfjfpnciaaGreat
namespace Go.Proofs.YtjmeakfjfpnciaaGreat
open Go.RowKit
theorem infoStr : (Tryz.prog.info? 9).map (fun i => (i.zero, i.size, i.bytes)) = some (some (.string ⟨#[]⟩), 1, 16) := by kernel_rfl
theorem Sl.adr {w : World} {B : Nat} {a : Option Addr} {cs : List Value} (h : Sl w B a cs) (h0 : cs ≠ []) : ∃ b o, a = some ⟨b, o, none⟩ ∧ b < B := by
 rcases h with h | ⟨b, off, rfl, hb, _⟩
 ·exact absurd h h0
 ·exact ⟨b, off, rfl, hb⟩
theorem Sl.elemS {w : World} {B b o : Nat} {α : Type} {f : α → List Value} {k : Nat} {l : List α} (h : Sl w B (some ⟨b, o, none⟩) (l.flatMap f)) (hk : ∀ x, (f x).length = k) (h0 : 0 < k) (i : Nat) (hi : i < l.length) :
  b < B ∧ ∀ j v, (f l[i])[j]? = some v → w.cell? ⟨b, o + i * k + j, none⟩ = some v := by
 obtain ⟨b', o', he, hb, hc⟩ := h.elem hk h0 i hi
 simp only [Option.some.injEq, Addr.mk.injEq, and_true] at he
 obtain ⟨rfl, rfl⟩ := he
 exact ⟨hb, hc⟩
theorem flat_ne {α : Type} {f : α → List Value} {k : Nat} {l : List α} (hk : ∀ x, (f x).length = k) (h0 : 0 < k) (hl : l ≠ []) : l.flatMap f ≠ [] := by
 intro e
 have := flat_len f k hk l
 rw [e, List.length_nil] at this
 have : 0 < l.length * k := Nat.mul_pos (List.length_pos_iff.2 hl) h0
 omega
end Go.Proofs.YtjmeakfjfpnciaaGreat
namespace Go.Proofs.YtjmeakfjfpnciaaGreat
open Go.RowKit
section
variable {P : Program} {ops : Array Oper} {S : World → Prop} {Q : Exit → Act → World → Prop} {k : Nat} {md : Region.Mode}
def wpAnyK (P : Program) (md : Region.Mode) (ops : Array Oper) (Q : Exit → Act → World → Prop) (S : World → Prop) (k : Nat) : Nat → Array Bool → Act → World → Prop
 | 0, listed, a, w => Region.ready md ops listed = [] ∧ Q .normal a w
 | fuel + 1, listed, a, w =>
  (Region.ready md ops listed = [] → Q .normal a w) ∧
  ∀ i ∈ Region.ready md ops listed, wpOp P ops Q i (fun a' w' => ((listed.setIfInBounds i true).getD k false = false → S w') ∧ wpAnyK P md ops Q S k fuel (listed.setIfInBounds i true) a' w') a w
theorem any_of_K : ∀ (fuel : Nat) (listed : Array Bool) (a : Act) (w : World), wpAnyK P md ops Q S k fuel listed a w → wpAny P md ops Q fuel listed a w
 | 0, _, _, _, h => h
 | fuel + 1, _, _, _, h => ⟨h.1, fun i hi => wpOp_mono (fun a' w' h' => any_of_K fuel _ a' w' h'.2) (h.2 i hi)⟩
theorem anyK_first {SS : World → Prop} (C : Array Bool → Prop) {i : Nat} {oi : Oper} {v : Value} (hi : ops[i]? = some oi) (hik : i ≠ k) (hsel : ∀ (j : Nat) (o : Oper) cs b, ops[j]? = some o → o.op ≠ .select cs b)
  (hQ : ∀ c a w, Q (.panic c) (a.put oi.dst v) w → Q (.panic c) a w)
  (hstep : ∀ listed j, C listed → i ∈ Region.ready md ops listed → j ∈ Region.ready md ops listed → j ≠ i → C (listed.setIfInBounds j true))
  (hSS : ∀ listed w, C listed → (listed.getD k false = false → S w) → SS w) :
  ∀ (fuel : Nat) (listed : Array Bool) (a : Act) (w : World),
   (∀ j oj, ops[j]? = some oj → j ≠ i → listed.getD j true = false → (∀ e ∈ oj.after, Region.binds md e = true → e.on ≠ i) → oi.apart ops oj = true) →
   i ∈ Region.ready md ops listed → C listed → YieldsIf P ops SS oi v a → (listed.getD k false = false → S w) →
   wpAnyK P md ops Q S k fuel (listed.setIfInBounds i true) (a.put oi.dst v) w → wpAnyK P md ops Q S k (fuel + 1) listed a w := by
 intro fuel
 induction fuel with
 | zero =>
  intro listed a w _ hr hC hy hS H
  refine ⟨fun h => (by rw [h] at hr; cases hr), fun j hj => ?_⟩
  by_cases hji : j = i
  ·subst hji; exact hy.wpOp hi (hSS listed w hC hS) ⟨fun h => hS (by rwa [getD_set_ne false hik] at h), H⟩
  ·have := ready_mono hj hji
   rw [H.1] at this
   cases this
 | succ fuel ih =>
  intro listed a w hfree hr hC hy hS H
  refine ⟨fun h => (by rw [h] at hr; cases hr), fun j hj => ?_⟩
  by_cases hji : j = i
  ·subst hji; exact hy.wpOp hi (hSS listed w hC hS) ⟨fun h => hS (by rwa [getD_set_ne false hik] at h), H⟩
  ·have h1 := H.2 j (ready_mono hj hji)
   obtain ⟨hjun, oj, hoj, hall⟩ := mem_ready.1 hj
   have hnot : ∀ e ∈ oj.after, Region.binds md e = true → e.on ≠ i := fun e he hb heq => by
    have h1 := hall e he hb
    have h0 := (mem_ready.1 hr).1
    rw [heq] at h1
    rcases Nat.lt_or_ge i listed.size with h' | h'
    ·simp [h'] at h0 h1; rw [h0] at h1; cases h1
    ·simp [Array.getElem?_eq_none h'] at h1
   have h2 := wpOp_putIf hoj (hfree j oj hoj hji hjun hnot) (fun cs b => hsel i oi cs b hi) (fun cs b => hsel j oj cs b hoj) hQ hy h1
   have hfree' : ∀ m om, ops[m]? = some om → m ≠ i → (listed.setIfInBounds j true).getD m true = false →
     (∀ e ∈ om.after, Region.binds md e = true → e.on ≠ i) → oi.apart ops om = true := fun m om hm hmi hun hno => by
    refine hfree m om hm hmi ?_ hno
    by_cases hjm : j = m
    ·subst hjm; exact hjun
    ·rw [getD_set_ne true hjm] at hun; exact hun
   have hkk : ((listed.setIfInBounds i true).setIfInBounds j true).getD k false = (listed.setIfInBounds j true).getD k false := by
    rw [Array.setIfInBounds_comm _ _ (Ne.symm hji), getD_set_ne false hik]
   have hr' := ready_mono hr (Ne.symm hji)
   refine wpOp_mono (fun a' w' h3 => ?_) h2
   have hS' : (listed.setIfInBounds j true).getD k false = false → S w' := fun h => h3.2.1 (by rw [hkk]; exact h)
   refine ⟨hS', ih (listed.setIfInBounds j true) a' w' hfree' hr' (hstep listed j hC hr hj hji) h3.1 hS' ?_⟩
   rw [Array.setIfInBounds_comm _ _ hji]
   exact h3.2.2
def chainB (md : Region.Mode) (ops : Array Oper) : Nat → List Nat → Bool
 | _, [] => true
 | i, j :: l => (match ops[j]? with | some o => o.after.any (fun e => Region.binds md e && e.on == i) | none => false) && chainB md ops j l
theorem chain_step {i j : Nat} {l : List Nat} {listed : Array Bool} : ∀ (i : Nat) (l : List Nat), chainB md ops i l = true → listed.getD i true = false → (∀ c ∈ l, listed.getD c true = false) → j ∈ Region.ready md ops listed → j ∉ l
 | _, [], _, _, _, _ => by simp
 | i, c :: l, hB, h0, hl, hj => by
  simp only [chainB, Bool.and_eq_true] at hB
  have ih := chain_step (listed := listed) (j := j) (i := i) (l := l) c l hB.2 (hl c (by simp)) (fun d hd => hl d (by simp [hd])) hj
  intro hm
  rcases List.mem_cons.1 hm with rfl | hm
  ·obtain ⟨_, o, ho, hall⟩ := mem_ready.1 hj
   have hB1 := hB.1
   rw [ho] at hB1
   simp only [Array.any_eq_true', Bool.and_eq_true, beq_iff_eq] at hB1
   obtain ⟨e, he, hb, hon⟩ := hB1
   have h1 := hall e he hb
   rw [hon] at h1
   rcases Nat.lt_or_ge i listed.size with h' | h'
   ·simp [h'] at h0 h1; rw [h0] at h1; cases h1
   ·simp [Array.getElem?_eq_none h'] at h1
  ·exact ih hm
inductive TreeK where
 | done : TreeK
 | q : Nat → TreeK → TreeK
 | e : Nat → List Nat → TreeK → TreeK
 | a : Nat → TreeK → TreeK
 | z : Nat → TreeK → TreeK
 | two : Nat → TreeK → Nat → TreeK → TreeK
def TreeK.qs : List Nat → TreeK → TreeK
 | [], t => t
 | i :: l, t => .q i (TreeK.qs l t)
def TreeK.size : TreeK → Nat
 | .done => 0
 | .q _ r => r.size + 1
 | .e _ _ r => r.size + 1
 | .a _ r => r.size + 1
 | .z _ r => r.size + 1
 | .two _ r _ _ => r.size + 1
def wpTreeK (P : Program) (ops : Array Oper) (S : World → Prop) (Q : Exit → Act → World → Prop) (k : Nat) : TreeK → Act → World → Prop
 | .done, a, w => Q .normal a w
 | .q i r, a, w => match ops[i]? with
  | none => False
  | some o => easyOp o = true ∧ wpQuiet P ops (fun _ => True) (fun a' => wpTreeK P ops S Q k r a' w) [o] a
 | .e i _ r, a, w => match ops[i]? with
  | none => False
  | some o => easyOp o = true ∧ wpQuiet P ops S (fun a' => wpTreeK P ops S Q k r a' w) [o] a
 | .a i r, a, w => wpOp P ops Q i (fun a' w' => (i ≠ k → S w') ∧ wpTreeK P ops S Q k r a' w') a w
 | .z i r, a, w => wpOp P ops Q i (fun a' w' => wpTreeK P ops S Q k r a' w') a w
 | .two i r j s, a, w => wpOp P ops Q i (fun a' w' => (i ≠ k → S w') ∧ wpTreeK P ops S Q k r a' w') a w ∧ wpOp P ops Q j (fun a' w' => (j ≠ k → S w') ∧ wpTreeK P ops S Q k s a' w') a w
def treeKB (md : Region.Mode) (ops : Array Oper) (k : Nat) : TreeK → Array Bool → Bool
 | .done, listed => (Region.ready md ops listed).isEmpty
 | .q i r, listed => (Region.ready md ops listed).contains i && Region.free md ops listed i && !(i == k) && treeKB md ops k r (listed.setIfInBounds i true)
 | .e i ch r, listed => (Region.ready md ops listed).contains i && Region.free md ops listed i && !(i == k) && chainB md ops i (ch ++ [k]) && (ch ++ [k]).all (fun c => !listed.getD c true) && !(i ∈ ch ++ [k]) && treeKB md ops k r (listed.setIfInBounds i true)
 | .a i r, listed => decide (Region.ready md ops listed = [i]) && treeKB md ops k r (listed.setIfInBounds i true)
 | .z i r, listed => decide (Region.ready md ops listed = [i]) && listed.getD k false && !(i == k) && treeKB md ops k r (listed.setIfInBounds i true)
 | .two i r j s, listed => decide (Region.ready md ops listed = [i, j]) && decide (r.size = s.size) && treeKB md ops k r (listed.setIfInBounds i true) && treeKB md ops k s (listed.setIfInBounds j true)
theorem listed_k {listed : Array Bool} {i : Nat} (hi : i ∈ Region.ready md ops listed) {w' : World} (h : i ≠ k → S w') : (listed.setIfInBounds i true).getD k false = false → S w' := by
 intro h9
 refine h (fun e => ?_)
 subst e
 have h0 := (mem_ready.1 hi).1
 rcases Nat.lt_or_ge i listed.size with h' | h'
 ·simp [h'] at h9
 ·simp [h'] at h0
theorem K_of_tree (hsel : Region.noSelect ops = true) (hQ : ∀ c a d v w, Q (.panic c) (a.put d v) w → Q (.panic c) a w) :
  ∀ (t : TreeK) (listed : Array Bool) (a : Act) (w : World), (listed.getD k false = false → S w) → treeKB md ops k t listed = true → wpTreeK P ops S Q k t a w → wpAnyK P md ops Q S k t.size listed a w
 | .done, listed, a, w, _, hB, h => ⟨by simpa [treeKB] using hB, h⟩
 | .q i r, listed, a, w, hS, hB, h => by
  unfold wpTreeK at h
  split at h
  ·cases h
  ·rename_i o ho
   obtain ⟨hp, hq⟩ := h
   obtain ⟨v, hy, hK⟩ := yieldsIf_easy hp hq
   simp only [treeKB, Bool.and_eq_true, Bool.not_eq_true', beq_eq_false_iff_ne] at hB
   exact anyK_first (fun _ => True) ho hB.1.2 (Region.noSelect_spec hsel) (fun c a w hq => hQ c a _ _ w hq) (fun _ _ _ _ _ _ => trivial) (fun _ _ _ _ => trivial) _ listed a w (Region.free_spec ho hB.1.1.2) (by simpa using hB.1.1.1) trivial hy hS
    (K_of_tree hsel hQ r _ _ w (fun h9 => hS (by rwa [getD_set_ne false hB.1.2] at h9)) hB.2 hK)
 | .e i ch r, listed, a, w, hS, hB, h => by
  unfold wpTreeK at h
  split at h
  ·cases h
  ·rename_i o ho
   obtain ⟨hp, hq⟩ := h
   obtain ⟨v, hy, hK⟩ := yieldsIf_easy hp hq
   simp only [treeKB, Bool.and_eq_true, Bool.not_eq_true', beq_eq_false_iff_ne, List.all_eq_true, decide_eq_false_iff_not] at hB
   obtain ⟨⟨⟨⟨⟨⟨h1, h2⟩, h3⟩, h4⟩, h5⟩, h6⟩, h7⟩ := hB
   refine anyK_first (SS := S) (fun l => ∀ c ∈ ch ++ [k], l.getD c true = false) ho h3 (Region.noSelect_spec hsel) (fun c a w hq => hQ c a _ _ w hq) ?_ ?_ _ listed a w (Region.free_spec ho h2) (by simpa using h1) h5 hy hS
    (K_of_tree hsel hQ r _ _ w (fun h9 => hS (by rwa [getD_set_ne false h3] at h9)) h7 hK)
   ·intro l j hC hr hj hji c hc
    have hn := chain_step (i := i) (l := ch) (j := j) i (ch ++ [k]) h4 (mem_ready.1 hr).1 hC hj
    rw [getD_set_ne true (fun e => hn (by rw [e]; exact hc))]
    exact hC c hc
   ·intro l w' hC h9
    refine h9 ?_
    have := hC k (by simp)
    rcases Nat.lt_or_ge k l.size with h' | h'
    ·simp [h'] at this ⊢; exact this
    ·simp [h'] at this
 | .a i r, listed, a, w, hS, hB, h => by
  simp only [treeKB, Bool.and_eq_true, decide_eq_true_eq] at hB
  unfold wpTreeK at h
  refine ⟨fun h9 => (by rw [hB.1] at h9; cases h9), fun j hj => ?_⟩
  have hj' : j = i := by rw [hB.1] at hj; simpa using hj
  subst hj'
  exact wpOp_mono (fun a' w' ⟨hS', h'⟩ => ⟨listed_k hj hS', K_of_tree hsel hQ r _ a' w' (listed_k hj hS') hB.2 h'⟩) h
 | .z i r, listed, a, w, hS, hB, h => by
  simp only [treeKB, Bool.and_eq_true, decide_eq_true_eq, Bool.not_eq_true', beq_eq_false_iff_ne] at hB
  unfold wpTreeK at h
  refine ⟨fun h9 => (by rw [hB.1.1.1] at h9; cases h9), fun j hj => ?_⟩
  have hj' : j = i := by rw [hB.1.1.1] at hj; simpa using hj
  subst hj'
  have hk : ∀ W : World, (listed.setIfInBounds j true).getD k false = false → S W := fun W h9 => by
   rw [getD_set_ne false hB.1.2, hB.1.1.2] at h9
   cases h9
  exact wpOp_mono (fun a' w' h' => ⟨hk w', K_of_tree hsel hQ r _ a' w' (hk w') hB.2 h'⟩) h
 | .two i r j s, listed, a, w, hS, hB, h => by
  simp only [treeKB, Bool.and_eq_true, decide_eq_true_eq] at hB
  obtain ⟨⟨⟨h1, h2⟩, h3⟩, h4⟩ := hB
  unfold wpTreeK at h
  refine ⟨fun h9 => (by rw [h1] at h9; cases h9), fun m hm => ?_⟩
  rcases (by rw [h1] at hm; simpa using hm : m = i ∨ m = j) with rfl | rfl
  ·exact wpOp_mono (fun a' w' ⟨hS', h'⟩ => ⟨listed_k hm hS', K_of_tree hsel hQ r _ a' w' (listed_k hm hS') h3 h'⟩) h.1
  ·exact wpOp_mono (fun a' w' ⟨hS', h'⟩ => ⟨listed_k hm hS', by rw [h2]; exact K_of_tree hsel hQ s _ a' w' (listed_k hm hS') h4 h'⟩) h.2
theorem wp_region_treek {id : Nat} {a : Act} {w : World} {l : List Oper} (S : World → Prop) (k : Nat) (t : TreeK) (hm : P.follows .mixedOrders = true)
  (hB : (Region.noSelect l.toArray && decide (t.size = l.toArray.size) && treeKB .any l.toArray k t (Array.replicate l.toArray.size false)) = true)
  (hQ : ∀ c a d v w, Q (.panic c) (a.put d v) w → Q (.panic c) a w) (hS : S w.drew) (h : wpTreeK P l.toArray S Q k t a w.drew) : (Code.region id l.toArray true).wp P Q a w := by
 simp only [Bool.and_eq_true, decide_eq_true_eq] at hB
 refine wp_region_any hm (any_of_K (S := S) (k := k) _ _ _ _ ?_)
 have := K_of_tree hB.1.1 hQ t _ a _ (fun _ => hS) hB.2 h
 rw [hB.1.2] at this
 exact this
theorem treek_q {l : List Oper} {i : Nat} {r : TreeK} {o : Oper} {a : Act} {w : World} (ho : l[i]? = some o) (hp : easyOp o = true) (h : wpQuiet P l.toArray (fun _ => True) (fun a' => wpTreeK P l.toArray S Q k r a' w) [o] a) :
  wpTreeK P l.toArray S Q k (.q i r) a w := by
 unfold wpTreeK
 rw [List.getElem?_toArray, ho]
 exact ⟨hp, h⟩
theorem treek_e {l ch : List _} {i : Nat} {r : TreeK} {o : Oper} {a : Act} {w : World} (ho : l[i]? = some o) (hp : easyOp o = true) (h : wpQuiet P l.toArray S (fun a' => wpTreeK P l.toArray S Q k r a' w) [o] a) :
  wpTreeK P l.toArray S Q k (.e i ch r) a w := by
 unfold wpTreeK
 rw [List.getElem?_toArray, ho]
 exact ⟨hp, h⟩
theorem treek_a {l : List Oper} {i : Nat} {r : TreeK} {o : Oper} {a : Act} {w : World} (ho : l[i]? = some o)
  (h : ∀ K : Act → World → Prop, (∀ a w, (i ≠ k → S w) ∧ wpTreeK P l.toArray S Q k r a w → K a w) → if Region.wanted o (yielded l.toArray a.tmps) = true then Oper.wp P o a w K Q else K (a.put o.dst undef) w) :
  wpTreeK P l.toArray S Q k (.a i r) a w := by
 unfold wpTreeK
 exact wpOp_step (by rw [List.getElem?_toArray, ho]) h
theorem treek_end {a : Act} {w : World} (h : Q .normal a w) : wpTreeK P ops S Q k .done a w := h
end
end Go.Proofs.YtjmeakfjfpnciaaGreat
namespace Go.Proofs.YtjmeakfjfpnciaaGreat
open Go.RowKit
end Go.Proofs.YtjmeakfjfpnciaaGreat
namespace Go.Proofs.YtjmeakfjfpnciaaGreat
open Go.ChangeShapes Go.WideShapes Go.ChangeAt Go.RowKit
theorem law_own : ownKnob Tryz.prog.godebug = none := by kernel_rfl
theorem law_laidOut : laidOutB Tryz.prog = true := by kernel_rfl
section
variable {H : Type} {enc : TypeId × Value → H} {P : Program} {w : World}
theorem add_plain (b off i : Nat) : (⟨b, off, none⟩ : Addr).add i = ⟨b, off + i, none⟩ := by unfold Addr.add; split <;> simp_all
end
end Go.Proofs.YtjmeakfjfpnciaaGreat
namespace Go.Proofs.YtjmeakfjfpnciaaGreat
open Go.RowKit
end Go.Proofs.YtjmeakfjfpnciaaGreat
namespace Go.Proofs.YtjmeakfjfpnciaaGreat
open Go.RowKit
end Go.Proofs.YtjmeakfjfpnciaaGreat
namespace Go.Proofs.YtjmeakfjfpnciaaGreat
open Go.RowKit
section
variable {G : GP} {aq ap : Option Addr} {cq cp : Nat}
theorem rIsSc_b (ok : G.Ok) (s : ByteArray) (b : Bool) (hb : isSc G.q.m G.size s = b) (w : World) (hG : RG w G aq ap) :
  Calls Tryz.prog 56 #[.agg #[.int .i64 (G.size : Int), .slice aq (dl G.q.m) cq, .slice ap (dl G.p.m) cp], .string s] w (Gives (.bool b) w) := by
 subst hb
 exact rIsSc ok s w hG
theorem rIsEl_b (ok : G.Ok) (s : ByteArray) (b : Bool) (hb : isEl G.q.m G.size s = b) (w : World) (hG : RG w G aq ap) :
  Calls Tryz.prog 98 #[.agg #[.int .i64 (G.size : Int), .slice aq (dl G.q.m) cq, .slice ap (dl G.p.m) cp], .string s] w (Gives (.bool b) w) := by
 subst hb
 exact rIsEl ok s w hG
end
theorem size_n0 (k : Nat) (h1 : 1 ≤ k) (h3 : k ≤ 3) : (((grp k).size : Int) == 0) = false := by
 obtain rfl | rfl | rfl : k = 1 ∨ k = 2 ∨ k = 3 := by omega
 all_goals rfl
theorem sc_len {G : GP} (ok : G.Ok) {s : ByteArray} (h : isSc G.q.m G.size s = true) : s.size ≤ 32 := by rw [isSc_size h]; exact ok.size_le
theorem el_len {G : GP} (ok : G.Ok) {s : ByteArray} (h : isEl G.q.m G.size s = true) : s.size ≤ 32 := by rw [isEl_size h]; exact ok.size_le
def mulQ (G : GP) (a b : Nat) : Nat := a * b % G.q.m
def addQ (G : GP) (a b : Nat) : Nat := (a + b) % G.q.m
section
variable {G : GP} {aq ap : Option Addr} {cq cp : Nat}
theorem mulQ_lt (ok : G.Ok) (a b : Nat) : mulQ G a b < G.q.m := Nat.mod_lt _ ok.q.pos
theorem addQ_lt (ok : G.Ok) (a b : Nat) : addQ G a b < G.q.m := Nat.mod_lt _ ok.q.pos
theorem q_16 (ok : G.Ok) {x : Nat} (h : x < G.q.m) : x < DD ^ 16 := Nat.lt_trans h ok.q.lt4
theorem rMulQ (ok : G.Ok) {a b : Nat} {aa ab : Option Addr} {ca cb : Nat} (ha : a < DD ^ 16) (hb : b < DD ^ 16) (w : World) (hG : RG w G aq ap) (hA : NumAt w aa a) (hB : NumAt w ab b) :
  Calls Tryz.prog 101 #[.agg #[.int .i64 (G.size : Int), .slice aq (dl G.q.m) cq, .slice ap (dl G.p.m) cp], .slice aa (dl a) ca, .slice ab (dl b) cb] w fun e w' => NumR w e w' (mulQ G a b) := rMul ok ha hb w hG hA hB
theorem rAddQ (ok : G.Ok) {a b : Nat} {aa ab : Option Addr} {ca cb : Nat} (ha : a < DD ^ 16) (hb : b < DD ^ 16) (w : World) (hG : RG w G aq ap) (hA : NumAt w aa a) (hB : NumAt w ab b) :
  Calls Tryz.prog 81 #[.agg #[.int .i64 (G.size : Int), .slice aq (dl G.q.m) cq, .slice ap (dl G.p.m) cp], .slice aa (dl a) ca, .slice ab (dl b) cb] w fun e w' => NumR w e w' (addQ G a b) := rAdd ok ha hb w hG hA hB
theorem rTextQ (ok : G.Ok) {x : Nat} {an : Option Addr} {cn : Nat} (hx : x < G.q.m) (w : World) (hN : NumAt w an x) :
  Calls Tryz.prog 53 #[.slice an (dl x) cn, .int .i64 (G.size : Int)] w fun e w' => e = .returned (.string (textS x G.size)) ∧ Below w.heap.size w w' :=
 rText ok (q_16 ok hx) w hN
end
end Go.Proofs.YtjmeakfjfpnciaaGreat
namespace Go.Proofs.YtjmeakfjfpnciaaGreat
open Go.RowKit
end Go.Proofs.YtjmeakfjfpnciaaGreat
namespace Go.Proofs.YtjmeakfjfpnciaaGreat
open Go.RowKit
end Go.Proofs.YtjmeakfjfpnciaaGreat
namespace Go.Proofs.YtjmeakfjfpnciaaGreat
open Go.RowKit
def lim4 (m n : Nat) : List Value := [.int .u64 (dig (mont m n) 0 : Int), .int .u64 (dig (mont m n) 1 : Int), .int .u64 (dig (mont m n) 2 : Int), .int .u64 (dig (mont m n) 3 : Int)]
theorem lim4_len (m n : Nat) : (lim4 m n).length = 4 := rfl
end Go.Proofs.YtjmeakfjfpnciaaGreat
namespace Go.Proofs.YtjmeakfjfpnciaaGreat
open Go.RowKit
section
variable {G : GP} {aq ap : Option Addr} {cq cp : Nat}
end
end Go.Proofs.YtjmeakfjfpnciaaGreat
namespace Go.Proofs.YtjmeakfjfpnciaaGreat
open Go.RowKit
theorem mont_zero8 (m : Nat) : mont m 0 = 0 := by unfold mont; simp
theorem dig_zero8 (i : Nat) : dig 0 i = 0 := by unfold dig; simp
end Go.Proofs.YtjmeakfjfpnciaaGreat
namespace Go.Proofs.YtjmeakfjfpnciaaGreat
open Go.RowKit
end Go.Proofs.YtjmeakfjfpnciaaGreat
namespace Go.Proofs.YtjmeakfjfpnciaaGreat
open Go.RowKit
end Go.Proofs.YtjmeakfjfpnciaaGreat
namespace Go.Proofs.YtjmeakfjfpnciaaGreat
open Go.RowKit
section
variable {G : GP} {aq ap : Option Addr} {cq cp : Nat}
end
end Go.Proofs.YtjmeakfjfpnciaaGreat
namespace Go.Proofs.YtjmeakfjfpnciaaGreat
open Go.RowKit
theorem sb_size : (Tryz.prog.info? 256).map (·.size) = some 2 := by kernel_rfl
theorem sb_byte : (Tryz.prog.info? 5).map (fun i => (i.zero, i.size, i.bytes)) = some (some (.int .u8 0), 1, 1) := by kernel_rfl
theorem sbCheck_used (b : Nat) (w : World) (h0 : w.cell? ⟨b, 0, none⟩ = some (.pointer (some ⟨b, 0, none⟩))) :
  Calls Tryz.prog 195 #[.pointer (some ⟨b, 0, none⟩)] w fun e w' => e = .returned (.tuple #[]) ∧ w' = w := by
 obtain ⟨j, hj, _⟩ := Option.map_eq_some_iff.1 sb_size
 go_enter Tryz.func195, Tryz.ntmps195
 go_wp2
 rw [Lib.run_neq_ptr_same w _ Tryz.underlying254 hj]
 go_wp2
 go_end0
 exact ⟨rfl, rfl⟩
theorem sbCheck_fresh (b : Nat) (w : World) (h0 : w.cell? ⟨b, 0, none⟩ = some (.pointer none)) (hsh : w.shape? b = some (256, 2)) (hfz : w.frozen? ⟨b, 0, none⟩ = false) :
  Calls Tryz.prog 195 #[.pointer (some ⟨b, 0, none⟩)] w fun e w' => e = .returned (.tuple #[]) ∧ w' = w.setCell ⟨b, 0, none⟩ (.pointer (some ⟨b, 0, none⟩)) := by
 obtain ⟨j, hj, hjs⟩ := Option.map_eq_some_iff.1 sb_size
 go_enter Tryz.func195, Tryz.ntmps195
 go_wp2
 rw [Lib.run_to_unsafe w ⟨b, 0, none⟩ Tryz.underlying254 Tryz.underlying293 hj (by rw [hjs]; decide) hsh (Nat.zero_lt_succ 1)]
 simp only [Result.andThen]
 rw [Oper.upon_value]
 go_wp2
 rw [run_callFunc_extern Tryz.func207 (by kernel_rfl) (by kernel_rfl) (by kernel_rfl) (e := Extern.AbiNoEscape.same) (by kernel_rfl)]
 rw [Lib.run_noEscape]
 simp only [Result.andThen]
 rw [Oper.upon_value]
 go_wp2
 rw [Lib.run_from_unsafe w ⟨b, 0, none⟩ Tryz.underlying293 Tryz.underlying254 hj hsh (by kernel_rfl)]
 simp only [Result.andThen]
 rw [Oper.upon_value]
 go_wp2
 go_end0
 exact ⟨rfl, rfl⟩
theorem sbCheck_any (B b : Nat) (bs : List Value) (w : World) (h : Lib.IsBuilder 256 5 B b bs w) :
  Calls Tryz.prog 195 #[.pointer (some ⟨b, 0, none⟩)] w fun e w' => e = .returned (.tuple #[]) ∧ Lib.BuilderAt 256 5 B b (.pointer (some ⟨b, 0, none⟩)) bs w' ∧ Below B w w' := by
 rcases h with h | h
 ·refine (sbCheck_fresh b w h.cell0 h.shape h.frozen0).mono ?_
  rintro e w' ⟨rfl, rfl⟩
  exact ⟨rfl, h.used _, (Below.refl B w).setCell (p := ⟨b, 0, none⟩) h.1 _⟩
 ·refine (sbCheck_used b w h.cell0).mono ?_
  rintro e w' ⟨rfl, rfl⟩
  exact ⟨rfl, h, Below.refl B _⟩
theorem sbWrite_any (B b : Nat) (bs : List Value) (s : ByteArray) (w : World) (h : Lib.IsBuilder 256 5 B b bs w) (hlen : bs.length + s.size ≤ 140737488355328) (hBw : B ≤ w.heap.size) :
  Calls Tryz.prog 177 #[.pointer (some ⟨b, 0, none⟩), .string s] w fun e w' => e = .returned (.tuple #[.int .i64 s.size, .nilIface]) ∧ Lib.IsBuilder 256 5 B b (bs ++ Lib.strCells s) w' ∧ Below B w w' := by
 obtain ⟨i0, hi, hz0, hz1, hz2⟩ := info_parts sb_byte
 go_enter Tryz.func177, Tryz.ntmps177
 go_wp2_with fail
 refine (sbCheck_any B b bs _ h).mono ?_
 rintro e w1 ⟨rfl, h1, hb1⟩
 obtain ⟨hB, v, hbk, hown, hne⟩ := h1
 have c0 : w1.cell? ⟨b, 0, none⟩ = some (.pointer (some ⟨b, 0, none⟩)) := by rw [Lib.cell_of_heap hbk]; rfl
 have c1 : w1.cell? ⟨b, 1, none⟩ = some v := by rw [Lib.cell_of_heap hbk]; rfl
 go_wp2_with (at_builtin; refine Lib.wpList_append_own_string _ rfl _ _ 173 9 rfl B 5 i0 Tryz.underlying173 Tryz.underlying9 hi hz0 hz1 hz2 _ _ _ rfl hown s rfl ?c3 ?c4 ?c5 ?_)
 case c3 => unfold maxLen; omega
 case c4 => omega
 case c5 => have := hb1.size; omega
 intro v' w2 hown' hgrow _
 have hlt : b < w1.heap.size := (Array.getElem?_eq_some_iff.1 hbk).1
 have hb2 : w2.heap[b]? = some (.cells #[.pointer (some ⟨b, 0, none⟩), v] 256 (0, 0)) := (hgrow.block b hlt (fun e => hne e.symm)).trans hbk
 have d0 : w2.cell? ⟨b, 0, none⟩ = some (.pointer (some ⟨b, 0, none⟩)) := by rw [Lib.cell_of_heap hb2]; rfl
 have d1 : w2.cell? ⟨b, 1, none⟩ = some v := by rw [Lib.cell_of_heap hb2]; rfl
 have f1 : w2.frozen? ⟨b, 1, none⟩ = false := Lib.frozen_of_heap hb2 1
 obtain ⟨ao, n', cap, rfl⟩ : ∃ ao n' cap, v' = .slice ao n' cap := by
  rcases hown'.2 with ⟨hv, _⟩ | ⟨g, cap, cur, hv, _⟩
  ·exact ⟨_, _, _, hv⟩
  ·exact ⟨_, _, _, hv⟩
 go_wp2
 go_ret2
 refine ⟨rfl, Or.inr ?_, ?_⟩
 ·exact Lib.BuilderAt.put (T := 256) (e := 5) hB hb2 (bs' := bs ++ Lib.strCells s) (by simpa [Lib.strCells_length] using hown') (by decide)
 ·exact (hb1.grown hgrow (by have := hb1.size; omega) (fun k hk => (hown.lt k hk).1)).setCell (p := ⟨b, 1, none⟩) hB _
theorem sb_up {B b : Nat} {bs : List Value} {w w' : World} (h : Lib.IsBuilder 256 5 B b bs w) (hb : Below w.heap.size w w') : Lib.IsBuilder 256 5 B b bs w' := by
 have key : ∀ p, Lib.BuilderAt 256 5 B b p bs w → Lib.BuilderAt 256 5 B b p bs w' := by
  rintro p ⟨hB, v, hbk, hown, hne⟩
  exact ⟨hB, v, (hb.block b (Array.getElem?_eq_some_iff.1 hbk).1).trans hbk, RowO.up hown hb, hne⟩
 exact h.elim (fun x => Or.inl (key _ x)) (fun x => Or.inr (key _ x))
end Go.Proofs.YtjmeakfjfpnciaaGreat
