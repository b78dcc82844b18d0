/- Texts of this seat, one behind the other: what TrustJoins leans on. No condition beyond those that each names. -/
import Derived.Test.YtjmeakfjfpnciaaZTrustJoins2
import Derived.WalkKit
import Derived.Test.YtjmeakfjfpnciaaProg
import Derived.IntWalk
import Derived.Deep.MidRow
import Derived.Deep.WholeRow
import Derived.Laws.CopyOwn
import Derived.Lib.BufferWrite
import Derived.BigQuiet
import Derived.Lib.SliceRun
import Derived.Shelf.Abstract
import Derived.Deep.LoopGhost

set_option maxRecDepth 100000
set_option maxHeartbeats 4000000
set_option linter.unusedVariables false
set_option linter.unusedSimpArgs false
namespace Go.Proofs.Ytjmeakfjfpnciaa
theorem Cg.pow {q a b : Int} (h : Cg q a b) : ∀ n : Nat, Cg q (a ^ n) (b ^ n)
 | 0 => by rw [Int.pow_zero, Int.pow_zero]; exact Cg.refl _ _
 | n + 1 => by rw [Int.pow_succ, Int.pow_succ]; exact (Cg.pow h n).mul h
theorem Cg.nat {q a b : Nat} (h : Cg (q : Int) (a : Int) (b : Int)) : a % q = b % q := by
 unfold Cg at h
 have h1 := Int.emod_emod_of_dvd
 have h2 : (a : Int) % (q : Int) = (b : Int) % (q : Int) := Int.emod_eq_emod_iff_emod_sub_eq_zero.2 (Int.emod_eq_zero_of_dvd h)
 exact_mod_cast h2
theorem Cg.of_nat {q a b : Nat} (h : a % q = b % q) : Cg (q : Int) (a : Int) (b : Int) := by
 unfold Cg
 refine Int.dvd_of_emod_eq_zero (Int.emod_eq_emod_iff_emod_sub_eq_zero.1 ?_)
 exact_mod_cast h
theorem Cg.natmod (q a : Nat) : Cg (q : Int) ((a % q : Nat) : Int) (a : Int) := Cg.of_nat (Nat.mod_mod a q)
def prI : Nat → (Nat → Int) → Int
 | 0, _ => 1
 | n + 1, f => prI n f * f n
theorem prI_cg {q : Int} {n : Nat} {f g : Nat → Int} (h : ∀ i, i < n → Cg q (f i) (g i)) : Cg q (prI n f) (prI n g) := by
 induction n with
 | zero => exact Cg.refl _ _
 | succ n ih => exact (ih fun i hi => h i (by omega)).mul (h n (by omega))
theorem prI_mul (f g : Nat → Int) : ∀ n, prI n (fun i => f i * g i) = prI n f * prI n g
 | 0 => rfl
 | n + 1 => by
  show prI n _ * (f n * g n) = prI n f * f n * (prI n g * g n)
  rw [prI_mul f g n]
  rw [Int.mul_assoc, Int.mul_assoc, Int.mul_left_comm (prI n g)]
theorem prI_shift (f : Nat → Int) : ∀ n, prI (n + 1) f = f 0 * prI n fun i => f (i + 1)
 | 0 => by show 1 * f 0 = f 0 * 1; omega
 | n + 1 => by
  show prI (n + 1) f * f (n + 1) = f 0 * (prI n (fun i => f (i + 1)) * f (n + 1))
  rw [prI_shift f n, Int.mul_assoc]
theorem prI_sgn {f : Nat → Int} (h : ∀ i, f i = 1 ∨ f i = -1) : ∀ n, prI n f = 1 ∨ prI n f = -1
 | 0 => Or.inl rfl
 | n + 1 => by
  show prI n f * f n = 1 ∨ prI n f * f n = -1
  rcases prI_sgn h n with a | a <;> rcases h n with b | b <;> rw [a, b] <;> simp
def gxI (l : List Int) (i : Nat) (x : Int) (t : Nat) : Int := if i = t then 1 else x - l.getD t 0
def sgI (i t : Nat) : Int := if i = t then 1 else -1
theorem pA_pr (x : Int) : ∀ l : List Int, pA l x = prI l.length fun t => x - l.getD t 0
 | [] => rfl
 | a :: l => by
  rw [List.length_cons, prI_shift]
  show (x - a) * pA l x = (x - a) * _
  rw [pA_pr x l]
  rfl
theorem pE_pr (x : Int) : ∀ (l : List Int) (i : Nat), i < l.length → pE l i x = prI l.length (gxI l i x)
 | [], _, h => by simp at h
 | a :: l, 0, _ => by
  rw [List.length_cons, prI_shift]
  show pA l x = 1 * prI l.length fun t => gxI (a :: l) 0 x (t + 1)
  rw [pA_pr, Int.one_mul]
  congr 1
 | a :: l, i + 1, h => by
  rw [List.length_cons, prI_shift]
  show (x - a) * pE l i x = gxI (a :: l) (i + 1) x 0 * prI l.length fun t => gxI (a :: l) (i + 1) x (t + 1)
  rw [pE_pr x l i (by simpa using h)]
  have e0 : gxI (a :: l) (i + 1) x 0 = x - a := by unfold gxI; rw [if_neg (by omega)]; rfl
  have e1 : (fun t => gxI (a :: l) (i + 1) x (t + 1)) = gxI l i x := by
   funext t
   unfold gxI
   by_cases e : i = t
   ·rw [if_pos e, if_pos (by omega)]
   ·rw [if_neg e, if_neg (by omega)]; rfl
  rw [e0, e1]
def prU (f : Int → Nat) (l : List Int) (i : Nat) : Nat → Nat
 | 0 => 1
 | j + 1 => if i = j then prU f l i j else prU f l i j * f (l.getD j 0)
def prQ (q : Nat) (f : Int → Nat) (l : List Int) (i : Nat) : Nat → Nat
 | 0 => 1
 | j + 1 => if i = j then prQ q f l i j else prQ q f l i j * f (l.getD j 0) % q
theorem prU_pr {q : Nat} {f : Int → Nat} {l : List Int} (i : Nat) (x : Int) : ∀ n, (∀ j, j < n → Cg (q : Int) (f (l.getD j 0) : Int) (x - l.getD j 0)) → Cg (q : Int) (prU f l i n : Int) (prI n (gxI l i x))
 | 0, _ => Cg.of_eq rfl
 | n + 1, h => by
  have ih := prU_pr (f := f) i x n fun j hj => h j (by omega)
  show Cg (q : Int) ((if i = n then prU f l i n else prU f l i n * f (l.getD n 0) : Nat) : Int) (prI n (gxI l i x) * gxI l i x n)
  unfold gxI
  by_cases e : i = n
  ·rw [if_pos e, if_pos e, Int.mul_one]; exact ih
  ·rw [if_neg e, if_neg e, Int.natCast_mul]; exact ih.mul (h n (by omega))
theorem prQ_pr {q : Nat} {f : Int → Nat} {l : List Int} (i : Nat) (x : Int) : ∀ n, (∀ j, j < n → Cg (q : Int) (f (l.getD j 0) : Int) (l.getD j 0 - x)) → Cg (q : Int) (prQ q f l i n : Int) (prI n fun t => sgI i t * gxI l i x t)
 | 0, _ => Cg.of_eq rfl
 | n + 1, h => by
  have ih := prQ_pr (f := f) i x n fun j hj => h j (by omega)
  show Cg (q : Int) ((if i = n then prQ q f l i n else prQ q f l i n * f (l.getD n 0) % q : Nat) : Int) (prI n (fun t => sgI i t * gxI l i x t) * (sgI i n * gxI l i x n))
  unfold gxI sgI at ih ⊢
  by_cases e : i = n
  ·rw [if_pos e, if_pos e, if_pos e, Int.mul_one, Int.mul_one]; exact ih
  ·rw [if_neg e, if_neg e, if_neg e]
   refine (Cg.natmod q _).trans ?_
   rw [Int.natCast_mul]
   exact ih.mul ((h n (by omega)).trans (Cg.of_eq (by omega)))
def wtU (q : Nat) (l : List Int) (i : Nat) (x : Int) : Nat := prU (fun b => modI q (x - b)) l i l.length
def wtN (q : Nat) (l : List Int) (i : Nat) (x : Int) : Nat := wtU q l i x * wtU q l i (l.getD i 0) ^ (q - 2)
def sbN (q : Nat) (x b : Int) : Nat := (b.toNat + (q - x.toNat)) % q
def wtV (q : Nat) (l : List Int) (i : Nat) (x : Int) : Nat := prQ q (sbN q x) l i l.length
def wtQ (q : Nat) (l : List Int) (i : Nat) (x : Int) : Nat := wtV q l i x * (wtV q l i (l.getD i 0) ^ (q - 2) % q) % q
theorem modI_cg (q : Nat) (hq : 0 < q) (n : Int) : Cg (q : Int) (modI q n : Int) n := by
 unfold modI
 rw [Int.toNat_of_nonneg (Int.emod_nonneg n (by omega))]
 exact Cg.mod _ _
theorem sbN_cg (q : Nat) (x b : Int) (hx : 0 ≤ x ∧ x ≤ 255) (hb : 0 ≤ b) (hq : 255 ≤ q) : Cg (q : Int) (sbN q x b : Int) (b - x) := by
 unfold sbN
 refine (Cg.natmod q _).trans ?_
 unfold Cg
 have e : ((b.toNat + (q - x.toNat) : Nat) : Int) - (b - x) = (q : Int) := by omega
 rw [e]
 exact ⟨1, by omega⟩
theorem wtU_cg (q : Nat) (hq : 0 < q) (l : List Int) (i : Nat) (hi : i < l.length) (x : Int) : Cg (q : Int) (wtU q l i x : Int) (pE l i x) := by
 rw [pE_pr x l i hi]
 exact prU_pr i x _ fun j _ => modI_cg q hq _
theorem wtN_cg (q : Nat) (hq : 0 < q) (l : List Int) (i : Nat) (hi : i < l.length) (x : Int) : Cg (q : Int) (wtN q l i x : Int) (pE l i x * pE l i (l.getD i 0) ^ (q - 2)) := by
 unfold wtN
 rw [Int.natCast_mul, Int.natCast_pow]
 exact (wtU_cg q hq l i hi x).mul ((wtU_cg q hq l i hi _).pow _)
theorem getD_in {l : List Int} {j : Nat} (h : ∀ b ∈ l, 0 ≤ b ∧ b ≤ 255) : 0 ≤ l.getD j 0 ∧ l.getD j 0 ≤ 255 := by
 by_cases hj : j < l.length
 ·rw [List.getD_eq_getElem?_getD, List.getElem?_eq_getElem hj]; exact h _ (List.getElem_mem hj)
 ·rw [List.getD_eq_getElem?_getD, List.getElem?_eq_none (by omega)]; decide
theorem wtV_cg (q : Nat) (hq : 255 ≤ q) (l : List Int) (hl : ∀ b ∈ l, 0 ≤ b ∧ b ≤ 255) (i : Nat) (hi : i < l.length) (x : Int) (hx : 0 ≤ x ∧ x ≤ 255) : Cg (q : Int) (wtV q l i x : Int) (prI l.length (sgI i) * pE l i x) := by
 rw [pE_pr x l i hi, ← prI_mul]
 exact prQ_pr i x _ fun j _ => sbN_cg q x _ hx (getD_in hl).1 hq
theorem sgn_pow {s : Int} (h : s = 1 ∨ s = -1) : ∀ n : Nat, s * (s * s) ^ n = s
 | 0 => by simp
 | n + 1 => by
  have e : s * s = 1 := by rcases h with h | h <;> rw [h] <;> rfl
  rw [e, Int.one_pow, Int.mul_one]
theorem sgn_odd {s : Int} (h : s = 1 ∨ s = -1) {m : Nat} (hm : m % 2 = 1) : s ^ m = s := by
 have e : m = 2 * (m / 2) + 1 := by omega
 rw [e, Int.pow_succ, Int.pow_mul, show s ^ 2 = s * s by rw [Int.pow_succ, Int.pow_succ, Int.pow_zero, Int.one_mul]]
 rw [Int.mul_comm]
 exact sgn_pow h _
theorem wt_eq (q : Nat) (hq : 255 ≤ q) (ho : q % 2 = 1) (l : List Int) (hl : ∀ b ∈ l, 0 ≤ b ∧ b ≤ 255) (i : Nat) (hi : i < l.length) (x : Int) (hx : 0 ≤ x ∧ x ≤ 255) : wtN q l i x % q = wtQ q l i x := by
 have h1 := wtN_cg q (by omega) l i hi x
 have h2 : Cg (q : Int) (wtQ q l i x : Int) (pE l i x * pE l i (l.getD i 0) ^ (q - 2)) := by
  unfold wtQ
  refine (Cg.natmod q _).trans ?_
  rw [Int.natCast_mul]
  refine ((wtV_cg q hq l hl i hi x hx).mul ((Cg.natmod q _).trans (Cg.of_eq (Int.natCast_pow _ _)))).trans ?_
  refine ((Cg.refl _ _).mul ((wtV_cg q hq l hl i hi _ (getD_in hl)).pow (q - 2))).trans (Cg.of_eq ?_)
  have hs := prI_sgn (f := sgI i) (fun t => by unfold sgI; by_cases e : i = t; exact Or.inl (if_pos e); exact Or.inr (if_neg e)) l.length
  generalize prI l.length (sgI i) = s at hs ⊢
  rw [Int.mul_pow, sgn_odd hs (show (q - 2) % 2 = 1 by omega)]
  have e : s * s = 1 := by rcases hs with h | h <;> rw [h] <;> rfl
  generalize pE l i (l.getD i 0) ^ (q - 2) = D
  generalize pE l i x = U
  calc s * U * (s * D) = (s * s) * (U * D) := by simp only [Int.mul_comm, Int.mul_left_comm]
   _ = U * D := by rw [e, Int.one_mul]
 have h3 := (h1.trans h2.symm).nat
 have h4 : wtQ q l i x % q = wtQ q l i x := Nat.mod_eq_of_lt (by unfold wtQ; exact Nat.mod_lt _ (by omega))
 rw [h3, h4]
def thU (q : Nat) (l : List Int) (v : Nat → Nat) (x : Int) : Nat → Nat
 | 0 => 0
 | i + 1 => thU q l v x i + wtN q l i x * v i
def thQ (q : Nat) (l : List Int) (v : Nat → Nat) (x : Int) : Nat → Nat
 | 0 => 0
 | i + 1 => (thQ q l v x i + wtQ q l i x * v i % q) % q
theorem th_eq (q : Nat) (hq : 255 ≤ q) (ho : q % 2 = 1) (l : List Int) (hl : ∀ b ∈ l, 0 ≤ b ∧ b ≤ 255) (v : Nat → Nat) (x : Int) (hx : 0 ≤ x ∧ x ≤ 255) : ∀ i, i ≤ l.length → thU q l v x i % q = thQ q l v x i
 | 0, _ => Nat.zero_mod q
 | i + 1, h => by
  show (thU q l v x i + wtN q l i x * v i) % q = (thQ q l v x i + wtQ q l i x * v i % q) % q
  rw [Nat.add_mod, th_eq q hq ho l hl v x hx i (by omega), Nat.mul_mod, wt_eq q hq ho l hl i (by omega) x hx, Nat.mul_mod_mod]
end Go.Proofs.Ytjmeakfjfpnciaa
namespace Go.Proofs.Ytjmeakfjfpnciaa
open Go.RowKit
theorem step_pushR {P : Program} (N : Nat) (w0 : World) (hN : N ≤ w0.heap.size) {ops : Array Oper} {o : Oper} {a : Act} {K : Act → World → Prop} {Q : Exit → Act → World → Prop} {E : Prop} (hgd : o.guard = none) (s x : Operand) (t : TypeId)
  (ho : o.op = .call { callee := .builtin .append, args := #[s, x], argTypes := #[t, t] })
  (e : TypeId) (i : TypeInfo) (z : Value) (size bytes : Nat) (ht : P.underlying t = some (.slice e)) (hi : P.info? e = some i) (hz : i.zero = some z)
  (hsize : i.size = size) (hby : i.bytes = bytes) (hzs : z.cells.size = size) (hsz : 0 < size)
  (v : Value) (n : Nat) (xs : List Value) (hs : a.eval s = v) (hown : RowO N w0 e size v n xs)
  (news : Array Value) (e2 : TypeId) (b : Nat) (hb : w0.heap.size = b) (hx : a.eval x = .slice (some ⟨b, 0, none⟩) 1 1) (hl : news.size = size) (h1 : ∀ u ∈ news.toList, u.oneCell' = true)
  (h63 : (n + 1) * bytes ≤ 140737488355328) (hn : n + 1 ≤ maxLen)
  (h : ∀ g cap w', RowO N w' e size (.slice (some ⟨g, 0, none⟩) (n + 1) cap) (n + 1) (xs ++ news.toList) → w0.grownBy w' v.ownBlock → K (a.put o.dst (.slice (some ⟨g, 0, none⟩) (n + 1) cap)) w') :
  if Region.wanted o (yielded ops a.tmps) = true then Oper.wp P o a (w0.alloc (.cells news e2)) K Q else E := by
 subst hb
 refine step_append_lies _ hgd s x t ho N e i z size bytes ht hi hz hsize hby hzs hsz v n xs hs (World.ownsRow.alloc hown _) ⟨w0.heap.size, 0, none⟩ 1 1 news.toList hx (by simpa using hl)
  (World.news_of_block (heap_alloc_new w0 _)) h1 (by omega) hn h63 (by simp; omega) _ rfl ?_
 intro g cap w' hown' hg _ _
 refine h g cap w' hown' ⟨hg.os, hg.tape, hg.output, ?_, ?_⟩
 ·have := hg.size; simp at this; omega
 ·intro k hk hne
  rw [hg.block k (by simp; omega) hne]
  exact Below.heap_alloc _ _ _ hk
end Go.Proofs.Ytjmeakfjfpnciaa
namespace Go.Proofs.Ytjmeakfjfpnciaa
open Go.RowKit
structure Kept (P : Nat → Prop) (w0 w : World) : Prop where
 os : w.os = w0.os
 tape : w.tape = w0.tape
 output : w.output = w0.output
 size : w0.heap.size ≤ w.heap.size
 block : ∀ q, q < w0.heap.size → ¬ P q → w.heap[q]? = w0.heap[q]?
section
variable {P : Nat → Prop} {b c n gb : Nat} {w0 w w1 : World} {r : Option Nat} {t : TypeId} {cs : List Value} {G : GP}
theorem Kept.refl (P : Nat → Prop) (w : World) : Kept P w w := ⟨rfl, rfl, rfl, Nat.le_refl _, fun _ _ _ => rfl⟩
theorem Kept.grown (h : Kept P w0 w) (hg : w.grownBy w1 r) (hr : ∀ q, r = some q → w0.heap.size ≤ q ∨ P q) : Kept P w0 w1 :=
 ⟨hg.os.trans h.os, hg.tape.trans h.tape, hg.output.trans h.output, Nat.le_trans h.size hg.size, fun q hq hne => (hg.block q (Nat.lt_of_lt_of_le hq h.size) (fun e => by
  rcases hr q e.symm with h1 | h1
  ·omega
  ·exact hne h1)).trans (h.block q hq hne)⟩
theorem Kept.up (h : Kept P w0 w) (hb : Below w.heap.size w w1) : Kept P w0 w1 := h.grown (below_grown hb) (fun q e => by cases e)
theorem Sl.kept {a : Option Addr} (h : Sl w0 w0.heap.size a cs) (hk : Kept P w0 w) (hne : ∀ x, a = some x → ¬ P x.block) : Sl w w.heap.size a cs := by
 rcases h with h | ⟨q, off, rfl, hq, hc⟩
 ·exact Or.inl h
 ·refine Or.inr ⟨q, off, rfl, Nat.lt_of_lt_of_le hq hk.size, fun i v hv => ?_⟩
  rw [cell_of_block (hk.block q hq (hne _ rfl))]
  exact hc i v hv
theorem GroupAt.keptP (h : GroupAt w0 gb G) (hk : Kept P w0 w) (hne : ¬ P gb) : GroupAt w gb G := by
 have hc := cell_of_block (hk.block gb h.lt hne)
 have hl := hk.size
 exact ⟨Nat.lt_of_lt_of_le h.lt hl, by rw [hc]; exact h.kind, by rw [hc]; exact h.size, ⟨Nat.lt_of_lt_of_le h.p.lt hl, fun i x hx => by rw [hc]; exact h.p.cell i x hx⟩, ⟨Nat.lt_of_lt_of_le h.q.lt hl, fun i x hx => by rw [hc]; exact h.q.cell i x hx⟩⟩
theorem Below.keptP {W : World} (h : Below n W w0) (hk : Kept P w0 w) (hn : n ≤ w0.heap.size) (hp : ∀ q, P q → n ≤ q) : Below n W w := by
 refine ⟨hk.os.trans h.os, hk.tape.trans h.tape, hk.output.trans h.output, Nat.le_trans h.size hk.size, fun q hq => ?_⟩
 rw [hk.block q (by omega) (fun e => by have := hp q e; omega)]
 exact h.block q hq
theorem Sl.lt {a : Option Addr} {B : Nat} (h : Sl w B a cs) (h0 : cs ≠ []) (x : Addr) (hx : a = some x) : x.block < B := by
 rcases h with h | ⟨q, off, rfl, hq, _⟩
 ·exact absurd h h0
 ·cases hx; exact hq
end
end Go.Proofs.Ytjmeakfjfpnciaa
namespace Go.Proofs.Ytjmeakfjfpnciaa
end Go.Proofs.Ytjmeakfjfpnciaa
namespace Go.Proofs.Ytjmeakfjfpnciaa
open Go.RowKit
end Go.Proofs.Ytjmeakfjfpnciaa
namespace Go.Proofs.Ytjmeakfjfpnciaa
open Go.RowKit
section
variable {W w0 w : World} {b o n : Nat} {t : TypeId} {cs vs : List Value} {P : Program}
end
end Go.Proofs.Ytjmeakfjfpnciaa
namespace Go.Proofs.Ytjmeakfjfpnciaa
open Go.RowKit
theorem byteAt_nought (n i : Nat) (h : dl n ≤ i / 2) : byteAt n i = 0 := by
 rw [byte_dg, dg_nought n _ h]
 simp
theorem textL_skip (n size k : Nat) (h : byteAt n k = 0) : textL n size k = textL n size (k + 1) := by
 unfold textL
 refine List.map_congr_left fun p _ => ?_
 by_cases h1 : size - 1 - p < k
 ·rw [if_pos h1, if_pos (by omega)]
 ·rw [if_neg h1]
  by_cases h2 : size - 1 - p < k + 1
  ·rw [if_pos h2, show size - 1 - p = k by omega, h]; rfl
  ·rw [if_neg h2]
theorem refText_any (n size : Nat) (an : Option Addr) (cn : Nat) (hln : dl n ≤ 1048576) (hs : size ≤ 1024) (w : World) (hA : NumAt w an n) :
  Calls Try.prog 61 #[.slice an (dl n) cn, .int .i64 (size : Int)] w fun e w' => e = .returned (.string (textS n size)) ∧ Below w.heap.size w w' := by
 obtain ⟨i0, hi, hz0, hz1, hz2⟩ := info_parts infoByte
 have HA := Lib.hid hA
 clear hA
 go_enter Try.func61, Try.ntmps61
 go_wp2_with (at_make; refine wpList_make_full _ rfl _ _ 155 rfl 0 5 i0 (.int .u8 0) 1 Try.underlying155 hi hz0 hz1 _ _ _ _ size rfl rfl ?c1 ?c2 ?c3 ?c4 ?c5 ?_)
 case c1 => rfl
 case c2 => rfl
 case c3 => rw [hz2]; omega
 case c4 => unfold maxLen; omega
 case c5 => omega
 intro w1 hown hgrow
 have HB1 : Hid (Below w.heap.size w w1) := (Below.refl _ _).grown hgrow (Nat.le_refl _) (by simp)
 have HO1 : Hid (w1.ownsRow 0 5 1 (.slice (some ⟨w.heap.size, 0, none⟩) size size) size ((textL n size 0).map (Value.int .u8))) := by
  have h := hown
  show World.ownsRow _ _ _ _ _ _ _
  rw [textL_zero]
  rw [bytes_made] at h
  exact h
 clear hown hgrow hi hz0 hz1 hz2
 go_wp2_with fail
 go_loopw [6, 7] (fun x _ wr => ∃ k : Nat, k ≤ size ∧ x = .int .i64 k ∧ Hid (wr.ownsRow 0 5 1 (.slice (some ⟨w.heap.size, 0, none⟩) size size) size ((textL n size k).map (Value.int .u8))) ∧ Hid (Below w.heap.size w wr)) (fun x _ _ => size - (intOf x).toNat)
 case atStart => exact ⟨0, Nat.zero_le _, rfl, HO1.out, HB1.out⟩
 case round =>
  clear HO1 HB1
  obtain ⟨k, hk, rfl, HO, HN⟩ := hrel
  by_cases hkl : k < size
  ·have hlen : size - 1 - k < ((textL n size k).map (Value.int .u8)).length := by simp [textL_length]; omega
   have hc := HO.out.cellAt (size - 1 - k) (by omega)
   rw [List.getElem?_eq_getElem hlen] at hc
   have hf := HO.out.frozenAt (size - 1 - k)
   generalize ((textL n size k).map (Value.int .u8))[size - 1 - k] = old at hc
   have hidx : (size : Int) - 1 - (k : Int) = ((size - 1 - k : Nat) : Int) := by omega
   clear hlen
   have hk2 : (k : Int) / 2 = ((k / 2 : Nat) : Int) := by omega
   by_cases hd : k / 2 < dl n
   ·obtain ⟨b1, o1, rfl, hb1, hcell1⟩ := HA.out.all (by omega)
    have hx1 : wr.cell? ⟨b1, o1 + k / 2, none⟩ = some (.int .i64 (dg DD n (k / 2) : Int)) := by rw [HN.out.cell (p := ⟨b1, o1 + k / 2, none⟩) hb1]; exact hcell1 _ hd
    have hdb : dg DD n (k / 2) < 65536 := dg_lt (B := DD) (by decide) n _
    have hby := byte_dg n k
    clear hcell1 hk2
    generalize dg DD n (k / 2) = d at *
    have hk1 : k % 2 = 0 ∨ k % 2 = 1 := by omega
    rcases hk1 with hk1 | hk1
    ·have hodd : ((k : Int) % 2 == 1) = false := by simp; omega
     have hbyte : (d : Int) % 256 = (byteAt n k : Int) := by rw [hby, hk1]; simp
     have HK1 := Lib.hid hk1
     clear hby hk1
     have hst := (HO.out.stored (size - 1 - k) (.int .u8 (byteAt n k : Int))).1
     rw [← List.map_set, textL_set _ _ _ hkl] at hst
     have HS := Lib.hid hst
     have HSB := Lib.hid (HN.out.setCell (p := ⟨w.heap.size, size - 1 - k, none⟩) (Nat.le_refl _) (.int .u8 (byteAt n k : Int)))
     clear hst
     go_wp2_with fail
     go_roundw
     case rel => exact ⟨k + 1, by omega, by go_num, HS.out, HSB.out⟩
     case measure => simp [intOf]; omega
    ·have hodd : ((k : Int) % 2 == 1) = true := by simp; omega
     have hbyte : (d : Int) / 256 % 256 = (byteAt n k : Int) := by rw [hby, hk1]; simp
     have HK1 := Lib.hid hk1
     clear hby hk1
     have hst := (HO.out.stored (size - 1 - k) (.int .u8 (byteAt n k : Int))).1
     rw [← List.map_set, textL_set _ _ _ hkl] at hst
     have HS := Lib.hid hst
     have HSB := Lib.hid (HN.out.setCell (p := ⟨w.heap.size, size - 1 - k, none⟩) (Nat.le_refl _) (.int .u8 (byteAt n k : Int)))
     clear hst
     go_wp2_with fail
     go_roundw
     case rel => exact ⟨k + 1, by omega, by go_num, HS.out, HSB.out⟩
     case measure => simp [intOf]; omega
   ·have h0 := byteAt_nought n k (by omega)
    have HSK := Lib.hid (textL_skip n size k h0)
    clear h0 hk2
    go_wp2_with fail
    go_roundw
    case rel => exact ⟨k + 1, by omega, by go_num, by rw [← HSK.out]; exact HO.out, HN.out⟩
    case measure => simp [intOf]; omega
  ·have hks : k = size := by omega
   subst hks
   have hcv := run_convert_bytes_arg (P := Try.prog) wr 155 5 Try.underlying155 Try.underlying5 w.heap.size 0 k k (textL n k k) (textL_length _ _ _) (fun i hi => by
    have h := HO.out.cellAt i (by omega)
    rw [Nat.zero_add, h, List.getElem?_map, List.getElem?_eq_getElem (by rw [textL_length]; exact hi)]
    simp [List.getD, List.getElem?_eq_getElem (show i < (textL n k k).length by rw [textL_length]; exact hi)]) 9 Try.underlying9
   go_wp2_with fail
   go_ret
   exact ⟨rfl, HN.out⟩
end Go.Proofs.Ytjmeakfjfpnciaa
namespace Go.Proofs.Ytjmeakfjfpnciaa
open Go.RowKit
end Go.Proofs.Ytjmeakfjfpnciaa
namespace Go.Proofs.Ytjmeakfjfpnciaa
open Go.RowKit
end Go.Proofs.Ytjmeakfjfpnciaa
namespace Go.Proofs.Ytjmeakfjfpnciaa
open Go.RowKit
theorem refCompare_len (a b : Nat) (aa ab : Option Addr) (ca cb : Nat) (h : dl a ≠ dl b) (w : World) :
  Calls Try.prog 128 #[.slice aa (dl a) ca, .slice ab (dl b) cb] w fun e w' => e = .returned (.int .i64 (cmpI a b)) ∧ Below w.heap.size w w' := by
 rcases Nat.lt_or_ge (dl a) (dl b) with h1 | h1
 ·have HC : Hid (cmpI a b = -1) := by show _ = _; unfold cmpI; rw [if_pos (lt_of_dl a b h1)]
  have hne : ((dl a : Int) != (dl b : Int)) = true := by simp; omega
  clear h
  go_enter Try.func128, Try.ntmps128
  go_wp2_with fail
  go_ret
  exact ⟨ret_int HC.out.symm, Below.refl _ _⟩
 ·have h2 : dl b < dl a := by omega
  have h3 := lt_of_dl b a h2
  have HC : Hid (cmpI a b = 1) := by show _ = _; unfold cmpI; rw [if_neg (by omega), if_pos h3]
  have hne : ((dl a : Int) != (dl b : Int)) = true := by simp; omega
  have h4 : ¬ dl a < dl b := by omega
  clear h h1 h3
  go_enter Try.func128, Try.ntmps128
  go_wp2_with fail
  go_ret
  exact ⟨ret_int HC.out.symm, Below.refl _ _⟩
theorem refCompare_same (a b : Nat) (aa ab : Option Addr) (ca cb L : Nat) (ha : dl a = L) (hb : dl b = L) (hL : L ≤ 1048576) (w : World) (hA : NumAt w aa a) (hB : NumAt w ab b) :
  Calls Try.prog 128 #[.slice aa L ca, .slice ab L cb] w fun e w' => e = .returned (.int .i64 (cmpI a b)) ∧ Below w.heap.size w w' := by
 have HDA := Lib.hid ha
 have HDB := Lib.hid hb
 have HA := Lib.hid hA
 have HB := Lib.hid hB
 clear ha hb hA hB
 have hne : ((L : Int) != (L : Int)) = false := by simp
 go_enter Try.func128, Try.ntmps128
 go_wp2_with fail
 go_loopw [5] (fun x wr => ∃ j : Nat, j ≤ L ∧ x = .int .i64 ((j : Int) - 1) ∧ Hid (a / DD ^ j = b / DD ^ j) ∧ Hid (Below w.heap.size w wr)) (fun x _ => (intOf x + 1).toNat)
 case atStart => exact ⟨L, Nat.le_refl _, rfl, by
  show _ = _
  have h1 := lt_dl a
  have h2 := lt_dl b
  rw [HDA.out] at h1
  rw [HDB.out] at h2
  rw [Nat.div_eq_of_lt h1, Nat.div_eq_of_lt h2], Below.refl _ _⟩
 case round =>
  obtain ⟨j, hj, hi, HE, HN⟩ := hrel
  rcases Nat.eq_zero_or_pos j with rfl | hjp
  ·subst hi
   go_wp2_with fail
   go_ret
   have h := HE.out
   rw [Nat.pow_zero, Nat.div_one, Nat.div_one] at h
   exact ⟨ret_int (by unfold cmpI; rw [if_neg (by omega), if_neg (by omega)]), HN.out⟩
  ·obtain ⟨p, rfl⟩ : ∃ p, j = p + 1 := ⟨j - 1, by omega⟩
   have ei : ((p + 1 : Nat) : Int) - 1 = (p : Int) := by omega
   rw [ei] at hi
   subst hi
   clear ei hjp
   obtain ⟨b1, o1, rfl, hb1, hcell1⟩ := HA.out.all (by rw [HDA.out]; omega)
   obtain ⟨b2, o2, rfl, hb2, hcell2⟩ := HB.out.all (by rw [HDB.out]; omega)
   have hx1 : wr.cell? ⟨b1, o1 + p, none⟩ = some (.int .i64 (dg DD a p : Int)) := by rw [HN.out.cell (p := ⟨b1, o1 + p, none⟩) hb1]; exact hcell1 _ (by rw [HDA.out]; omega)
   have hx2 : wr.cell? ⟨b2, o2 + p, none⟩ = some (.int .i64 (dg DD b p : Int)) := by rw [HN.out.cell (p := ⟨b2, o2 + p, none⟩) hb2]; exact hcell2 _ (by rw [HDB.out]; omega)
   clear hcell1 hcell2
   rcases Nat.lt_trichotomy (dg DD a p) (dg DD b p) with hd | hd | hd
   ·have hcmp : Hid (a < b) := lt_of_dg a b p HE.out hd
    have hd1 : ((dg DD a p : Int) != (dg DD b p : Int)) = true := by simp; omega
    go_wp2_with fail
    go_quiet (fail)
    go_wp2_with fail
    go_quiet (fail)
    go_wp2_with fail
    go_ret
    exact ⟨ret_int (by unfold cmpI; rw [if_pos hcmp.out]), by first | exact below_drewN (below_drewN HN.out _) _ | exact below_drewN HN.out _⟩
   ·have HE2 := Lib.hid (same_of_dg a b p HE.out hd)
    have hd1 : ((dg DD a p : Int) != (dg DD b p : Int)) = false := by simp; omega
    have hd2 : ¬ dg DD a p < dg DD b p := by omega
    have hd3 : ¬ dg DD b p < dg DD a p := by omega
    clear hd
    go_wp2_with fail
    go_quiet (fail)
    go_wp2_with fail
    go_roundw
    case rel => exact ⟨p, by omega, rfl, HE2.out, below_drewN HN.out _⟩
    case measure => first | (simp [intOf]; done) | (simp [intOf]; omega)
   ·have hcmp : Hid (b < a) := lt_of_dg b a p HE.out.symm hd
    have hd1 : ((dg DD a p : Int) != (dg DD b p : Int)) = true := by simp; omega
    have hd2 : ¬ dg DD a p < dg DD b p := by omega
    go_wp2_with fail
    go_quiet (fail)
    go_wp2_with fail
    go_quiet (fail)
    go_wp2_with fail
    go_ret
    exact ⟨ret_int (by have := hcmp.out; unfold cmpI; rw [if_neg (by omega), if_pos this]), by first | exact below_drewN (below_drewN HN.out _) _ | exact below_drewN HN.out _⟩
theorem refCompare_any (a b : Nat) (aa ab : Option Addr) (ca cb : Nat) (hla : dl a ≤ 1048576) (w : World) (hA : NumAt w aa a) (hB : NumAt w ab b) :
  Calls Try.prog 128 #[.slice aa (dl a) ca, .slice ab (dl b) cb] w fun e w' => e = .returned (.int .i64 (cmpI a b)) ∧ Below w.heap.size w w' := by
 by_cases h : dl a = dl b
 ·have h1 := refCompare_same a b aa ab ca cb (dl a) rfl h.symm hla w hA hB
  rw [← h]
  exact h1
 ·exact refCompare_len a b aa ab ca cb h w
theorem refRead_any (s : ByteArray) (hs : s.size ≤ 1048576) (w : World) :
  Calls Try.prog 75 #[.string s] w fun e w' => NumR w e w' (numOf s) := by
 obtain ⟨i0, hi, hz0, hz1, hz2⟩ := info_parts infoInt3
 obtain ⟨K, hK⟩ : ∃ K, (s.size + 1) / 2 = K := ⟨_, rfl⟩
 have hK1 : ((s.size : Int) + 1) / 2 = (K : Int) := by omega
 go_enter Try.func75, Try.ntmps75
 go_wp2_with (at_make; refine wpList_make_full _ rfl _ _ 106 rfl 0 3 i0 (.int .i64 0) 1 Try.underlying106 hi hz0 hz1 _ _ _ _ K rfl rfl ?c1 ?c2 ?c3 ?c4 ?c5 ?_)
 case c1 => exact hK1
 case c2 => exact hK1
 case c3 => rw [hz2]; omega
 case c4 => unfold maxLen; omega
 case c5 => omega
 intro w1 hown hgrow
 have e0 : digsTo 0 K = digsTo (numTo s 0) K := by rw [numTo_zero]
 rw [zeros_made, e0] at hown
 have HO1 := Lib.hid hown
 have HB1 : Hid (Below w.heap.size w w1) := (Below.refl _ _).grown hgrow (Nat.le_refl _) (by simp)
 have HK := Lib.hid hK
 have hKs : K ≤ 1048576 := by omega
 clear hown hgrow hi hz0 hz1 hz2 e0 hK hK1
 go_wp2_with fail
 go_loopw [4, 5] (fun x _ wr => ∃ k : Nat, k ≤ s.size ∧ x = .int .i64 k ∧ Hid (wr.ownsRow 0 3 1 (.slice (some ⟨w.heap.size, 0, none⟩) K K) K ((digsTo (numTo s k) K).map dV)) ∧ Hid (Below w.heap.size w wr)) (fun x _ _ => s.size - (intOf x).toNat)
 case atStart => exact ⟨0, Nat.zero_le _, rfl, HO1.out, HB1.out⟩
 case round =>
  clear HO1 HB1
  obtain ⟨k, hk, rfl, HO, HN⟩ := hrel
  by_cases hkl : k < s.size
  ·have hkK : k / 2 < K := by have := HK.out; omega
   have hx := HO.out.cellAt (k / 2) (by omega)
   have hxv : ((digsTo (numTo s k) K).map dV)[k / 2]? = some (.int .i64 (dg DD (numTo s k) (k / 2) : Int)) := by simp [digsTo, hkK, dV]
   rw [hxv] at hx
   have hf := HO.out.frozenAt (k / 2)
   have hidx : (s.size : Int) - 1 - (k : Int) = ((s.size - 1 - k : Nat) : Int) := by omega
   have hlt : s.size - 1 - k < s.size := by omega
   have hc256 := (s[s.size - 1 - k]'hlt).toNat_lt
   have hdlt : dg DD (numTo s k) (k / 2) < 65536 := dg_lt (B := DD) (by decide) _ _
   have HNS := Lib.hid (numTo_succ s k hkl)
   clear hxv
   generalize hcc : (s[s.size - 1 - k]'hlt).toNat = c at *
   have hk1 : k % 2 = 0 ∨ k % 2 = 1 := by omega
   rcases hk1 with hk1 | hk1
   ·have hodd : ((k : Int) % 2 == 1) = false := by simp; omega
    have HK1 := Lib.hid hk1
    clear hk1
    have hput := digsTo_put (numTo s k) c k K (numTo_lt s k hk) hc256
    rw [← HNS.out, HK1.out, Nat.pow_zero, Nat.mul_one] at hput
    have hst := (HO.out.stored (k / 2) (.int .i64 ((dg DD (numTo s k) (k / 2) : Int) + (c : Int)))).1
    rw [show (Value.int .i64 ((dg DD (numTo s k) (k / 2) : Int) + (c : Int))) = dV (dg DD (numTo s k) (k / 2) + c) from by unfold dV; congr 1, ← List.map_set, hput] at hst
    have HS := Lib.hid hst
    have HSB := Lib.hid (HN.out.setCell (p := ⟨w.heap.size, k / 2, none⟩) (Nat.le_refl _) (.int .i64 ((dg DD (numTo s k) (k / 2) : Int) + (c : Int))))
    clear hst hput
    go_wp2_with fail
    go_roundw
    case rel => exact ⟨k + 1, by omega, by go_num, HS.out, HSB.out⟩
    case measure => simp [intOf]; omega
   ·have hodd : ((k : Int) % 2 == 1) = true := by simp; omega
    have HK1 := Lib.hid hk1
    clear hk1
    have hput := digsTo_put (numTo s k) c k K (numTo_lt s k hk) hc256
    rw [← HNS.out, HK1.out, Nat.pow_one] at hput
    have hst := (HO.out.stored (k / 2) (.int .i64 ((dg DD (numTo s k) (k / 2) : Int) + (c : Int) * 256))).1
    rw [show (Value.int .i64 ((dg DD (numTo s k) (k / 2) : Int) + (c : Int) * 256)) = dV (dg DD (numTo s k) (k / 2) + c * 256) from by unfold dV; congr 1, ← List.map_set, hput] at hst
    have HS := Lib.hid hst
    have HSB := Lib.hid (HN.out.setCell (p := ⟨w.heap.size, k / 2, none⟩) (Nat.le_refl _) (.int .i64 ((dg DD (numTo s k) (k / 2) : Int) + (c : Int) * 256)))
    clear hst hput
    go_wp2_with fail
    go_roundw
    case rel => exact ⟨k + 1, by omega, by go_num, HS.out, HSB.out⟩
    case measure => simp [intOf]; omega
  ·have hks : k = s.size := by omega
   subst hks
   rw [numTo_all] at HO
   have hlt : numOf s < DD ^ K := by
    have h := numL_lt s.data.toList
    have e : s.data.toList.length = s.size := rfl
    rw [e] at h
    refine Nat.lt_of_lt_of_le h ?_
    show 256 ^ s.size ≤ (256 ^ 2) ^ K
    rw [← Nat.pow_mul]
    exact Nat.pow_le_pow_right (by omega) (by have := HK.out; omega)
   have HLT := Lib.hid hlt
   clear hlt
   go_wp2_with fail
   refine (trim_own HO.out HLT.out (by omega)).mono ?_
   rintro e w' ⟨a', cap', rfl, hN, _, rfl⟩
   have HNN := Lib.hid hN
   clear hN
   go_wp2_with fail
   go_ret
   exact ⟨a', cap', rfl, HNN.out, HN.out⟩
end Go.Proofs.Ytjmeakfjfpnciaa
namespace Go.Proofs.Ytjmeakfjfpnciaa
open Go.RowKit
def rowZ (n i K : Nat) : List Nat := (List.range K).map fun p => if p < i then dg DD n p else 0
theorem rowZ_zero (n K : Nat) : rowZ n 0 K = digsTo 0 K := by
 unfold rowZ digsTo
 refine List.map_congr_left fun p _ => ?_
 simp [dg]
theorem rowZ_at (n i K : Nat) (h : i < K) : ((rowZ n i K).map dV)[i]? = some (.int .i64 0) := by
 simp [rowZ, h, dV]
theorem rowZ_set (n i K : Nat) : ((rowZ n i K).map dV).set i (.int .i64 (dg DD n i : Int)) = (rowZ n (i + 1) K).map dV := by
 rw [show (Value.int .i64 (dg DD n i : Int)) = dV (dg DD n i) from rfl, ← List.map_set]
 congr 1
 refine List.ext_getElem (by simp [rowZ]) (fun p h1 h2 => ?_)
 rw [List.getElem_set]
 simp only [rowZ, List.getElem_map, List.getElem_range]
 by_cases h : i = p
 ·subst h; rw [if_pos rfl, if_pos (by omega)]
 ·rw [if_neg h]
  by_cases h3 : p < i
  ·rw [if_pos h3, if_pos (by omega)]
  ·rw [if_neg h3, if_neg (by omega)]
theorem rowZ_end (n K : Nat) : rowZ n K K = digsTo n K := by
 unfold rowZ digsTo
 refine List.map_congr_left fun p hp => ?_
 rw [if_pos (by simpa using hp)]
theorem take_digit (r s n i : Nat) : (dg DD (r + n * s) i : Int) - (mcB DD r s n i : Int) - (n : Int) * (dg DD s i : Int) = (dg DD r i : Int) - 65536 * (mcB DD r s n (i + 1) : Int) := by
 have h1 := mcB_dig (B := DD) (by decide) r s n i
 have h2 := mcB_succ (B := DD) (by decide) r s n i
 have h3 := Nat.div_add_mod (dg DD r i + n * dg DD s i + mcB DD r s n i) DD
 rw [h1, h2] at h3
 have h4 : (n : Int) * (dg DD s i : Int) = ((n * dg DD s i : Nat) : Int) := by simp
 rw [h4]
 have h5 : 65536 * mcB DD r s n (i + 1) + dg DD (r + n * s) i = dg DD r i + n * dg DD s i + mcB DD r s n i := h3
 omega
theorem refTake_new (a b n k R : Nat) (aa ab : Option Addr) (ca cb : Nat) (hla : dl a ≤ 1048576) (hlb : dl b ≤ 1048576) (hn : n ≤ 1099511627776) (hk : k ≤ 1048576) (hR : a = R + n * (b * DD ^ k)) (w : World) (hA : NumAt w aa a) (hB : NumAt w ab b) :
  Calls Try.prog 171 #[.slice aa (dl a) ca, .slice ab (dl b) cb, .int .i64 (n : Int), .int .i64 (k : Int)] w fun e w' => NumN w e w' R := by
 obtain ⟨i0, hi, hz0, hz1, hz2⟩ := info_parts infoInt3
 have HA := Lib.hid hA
 have HB := Lib.hid hB
 have HR := Lib.hid hR
 clear hA hB hR
 go_enter Try.func171, Try.ntmps171
 go_wp2_with (at_make; refine wpList_make_full _ rfl _ _ 106 rfl 0 3 i0 (.int .i64 0) 1 Try.underlying106 hi hz0 hz1 _ _ _ _ (dl a) rfl rfl ?c1 ?c2 ?c3 ?c4 ?c5 ?_)
 case c1 => rfl
 case c2 => rfl
 case c3 => rw [hz2]; omega
 case c4 => unfold maxLen; omega
 case c5 => omega
 intro w1 hown hgrow
 rw [zeros_made, ← rowZ_zero R] at hown
 have HO1 := Lib.hid hown
 have HB1 : Hid (Below w.heap.size w w1) := (Below.refl _ _).grown hgrow (Nat.le_refl _) (by simp)
 clear hown hgrow hi hz0 hz1 hz2
 go_wp2_with fail
 go_loopw [10, 11, 12] (fun c x _ wr => ∃ i : Nat, i ≤ dl a ∧ x = .int .i64 i ∧ c = .int .i64 (mcB DD R (b * DD ^ k) n i : Nat) ∧ Hid (wr.ownsRow 0 3 1 (.slice (some ⟨w.heap.size, 0, none⟩) (dl a) (dl a)) (dl a) ((rowZ R i (dl a)).map dV)) ∧ Hid (Below w.heap.size w wr)) (fun _ x _ _ => dl a - (intOf x).toNat)
 case atStart => exact ⟨0, Nat.zero_le _, rfl, by rw [mcB_zero]; rfl, HO1.out, HB1.out⟩
 case round =>
  clear HO1 HB1
  obtain ⟨i, hi, rfl, rfl, HO, HN⟩ := hrel
  by_cases hil : i < dl a
  ·obtain ⟨b1, o1, rfl, hb1, hcell1⟩ := HA.out.all (by omega)
   have hx1 : wr.cell? ⟨b1, o1 + i, none⟩ = some (.int .i64 (dg DD a i : Int)) := by rw [HN.out.cell (p := ⟨b1, o1 + i, none⟩) hb1]; exact hcell1 _ hil
   have hda : dg DD a i < 65536 := dg_lt (B := DD) (by decide) _ _
   have hdr : dg DD R i < 65536 := dg_lt (B := DD) (by decide) _ _
   have hc1 := mcB_le (B := DD) (by decide) R (b * DD ^ k) n i
   have hc2 := mcB_le (B := DD) (by decide) R (b * DD ^ k) n (i + 1)
   have htd := take_digit R (b * DD ^ k) n i
   rw [← HR.out] at htd
   have hx3 := HO.out.cellAt i (by omega)
   rw [rowZ_at R i (dl a) hil] at hx3
   have hf3 := HO.out.frozenAt i
   generalize mcB DD R (b * DD ^ k) n i = c at *
   generalize hcc : mcB DD R (b * DD ^ k) n (i + 1) = c2 at *
   have HC2 : Hid (mcB DD R (b * DD ^ k) n (i + 1) = c2) := hcc
   clear hcell1 hcc
   by_cases hik : k ≤ i ∧ i - k < dl b
   ·obtain ⟨hik1, hik2⟩ := hik
    obtain ⟨b2, o2, rfl, hb2, hcell2⟩ := HB.out.all (by omega)
    have hx2 : wr.cell? ⟨b2, o2 + (i - k), none⟩ = some (.int .i64 (dg DD b (i - k) : Int)) := by rw [HN.out.cell (p := ⟨b2, o2 + (i - k), none⟩) hb2]; exact hcell2 _ hik2
    have hdb : dg DD b (i - k) < 65536 := dg_lt (B := DD) (by decide) _ _
    have hsh := dg_shift b k (i - k)
    rw [show k + (i - k) = i by omega] at hsh
    rw [hsh] at htd
    have hidx : (i : Int) - (k : Int) = ((i - k : Nat) : Int) := by omega
    clear hcell2 hsh
    generalize dg DD b (i - k) = db at *
    generalize hda' : dg DD a i = da at *
    have hprod : n * db ≤ 1099511627776 * 65535 := Nat.mul_le_mul hn (by omega)
    have hpi : (n : Int) * (db : Int) = ((n * db : Nat) : Int) := by simp
    rw [hpi] at htd
    generalize hpr : n * db = pr at *
    have HDA := Lib.hid hda'
    have HPR := Lib.hid hpr
    clear hda' hpr
    have hkI : (k : Int) ≤ (i : Int) := by omega
    have hst := (HO.out.stored i (.int .i64 (dg DD R i : Int))).1
    rw [rowZ_set] at hst
    have HS := Lib.hid hst
    have HSB := Lib.hid (HN.out.setCell (p := ⟨w.heap.size, i, none⟩) (Nat.le_refl _) (.int .i64 (dg DD R i : Int)))
    clear hst
    obtain ⟨d, hd⟩ : ∃ d : Int, (da : Int) - (c : Int) - (pr : Int) = d := ⟨_, rfl⟩
    rw [hd] at htd
    have hdlo : -72057594037927936 ≤ d := by omega
    have hdhi : d ≤ 65535 := by omega
    by_cases hneg : 0 < c2
    ·have hd2 : d < 0 := by omega
     have hdn : (65535 - d) / 65536 = (c2 : Int) := by omega
     have hds : d + (c2 : Int) * 65536 = (dg DD R i : Int) := by omega
     have HTD := Lib.hid htd
     clear htd
     go_wp2_with fail
     go_roundw
     case rel => exact ⟨i + 1, by omega, by go_num, by first | rw [hdn, HC2.out] | rw [HC2.out], HS.out, HSB.out⟩
     case measure => simp [intOf]; omega
    ·have hc0 : c2 = 0 := by omega
     have hd2 : ¬ d < 0 := by omega
     have hds : d = (dg DD R i : Int) := by omega
     have HC0 := Lib.hid hc0
     have HDS := Lib.hid hds
     have HTD := Lib.hid htd
     rw [← hds] at HS HSB
     clear hc0 hds htd
     go_wp2_with fail
     go_roundw
     case rel => exact ⟨i + 1, by omega, by go_num, by rw [HC2.out, HC0.out]; rfl, HS.out, HSB.out⟩
     case measure => simp [intOf]; omega
   ·have h0 : dg DD (b * DD ^ k) i = 0 := by
     rcases Nat.lt_or_ge i k with h | h
     ·unfold dg
      have e : DD ^ k = DD ^ i * (DD * DD ^ (k - i - 1)) := by rw [← Nat.pow_succ', ← Nat.pow_add]; congr 1; omega
      rw [e, Nat.mul_left_comm, Nat.mul_div_cancel_left _ (Nat.pow_pos (by decide)), Nat.mul_left_comm, Nat.mul_mod_right]
     ·have hsh := dg_shift b k (i - k)
      rw [show k + (i - k) = i by omega] at hsh
      rw [hsh]
      exact dg_nought b _ (by omega)
    rw [h0] at htd
    have htd2 : (dg DD a i : Int) - (c : Int) = (dg DD R i : Int) - 65536 * (c2 : Int) := by simpa using htd
    clear h0 htd
    have htd := htd2
    clear htd2
    generalize hda' : dg DD a i = da at *
    have HDA := Lib.hid hda'
    clear hda'
    by_cases hik1 : k ≤ i
    ·have hik2 : ¬ i - k < dl b := fun h => hik ⟨hik1, h⟩
     have hidx : (i : Int) - (k : Int) = ((i - k : Nat) : Int) := by omega
     clear hik
     have hst := (HO.out.stored i (.int .i64 (dg DD R i : Int))).1
     rw [rowZ_set] at hst
     have HS := Lib.hid hst
     have HSB := Lib.hid (HN.out.setCell (p := ⟨w.heap.size, i, none⟩) (Nat.le_refl _) (.int .i64 (dg DD R i : Int)))
     clear hst
     obtain ⟨d, hd⟩ : ∃ d : Int, (da : Int) - (c : Int) = d := ⟨_, rfl⟩
     rw [hd] at htd
     have hdlo : -72057594037927936 ≤ d := by omega
     have hdhi : d ≤ 65535 := by omega
     by_cases hneg : 0 < c2
     ·have hd2 : d < 0 := by omega
      have hdn : (65535 - d) / 65536 = (c2 : Int) := by omega
      have hds : d + (c2 : Int) * 65536 = (dg DD R i : Int) := by omega
      have HTD := Lib.hid htd
      clear htd
      go_wp2_with fail
      go_roundw
      case rel => exact ⟨i + 1, by omega, by go_num, by first | rw [hdn, HC2.out] | rw [HC2.out], HS.out, HSB.out⟩
      case measure => simp [intOf]; omega
     ·have hc0 : c2 = 0 := by omega
      have hd2 : ¬ d < 0 := by omega
      have hds : d = (dg DD R i : Int) := by omega
      have HC0 := Lib.hid hc0
      have HDS := Lib.hid hds
      have HTD := Lib.hid htd
      rw [← hds] at HS HSB
      clear hc0 hds htd
      go_wp2_with fail
      go_roundw
      case rel => exact ⟨i + 1, by omega, by go_num, by rw [HC2.out, HC0.out]; rfl, HS.out, HSB.out⟩
      case measure => simp [intOf]; omega
    ·clear hik
     have hst := (HO.out.stored i (.int .i64 (dg DD R i : Int))).1
     rw [rowZ_set] at hst
     have HS := Lib.hid hst
     have HSB := Lib.hid (HN.out.setCell (p := ⟨w.heap.size, i, none⟩) (Nat.le_refl _) (.int .i64 (dg DD R i : Int)))
     clear hst
     obtain ⟨d, hd⟩ : ∃ d : Int, (da : Int) - (c : Int) = d := ⟨_, rfl⟩
     rw [hd] at htd
     have hdlo : -72057594037927936 ≤ d := by omega
     have hdhi : d ≤ 65535 := by omega
     by_cases hneg : 0 < c2
     ·have hd2 : d < 0 := by omega
      have hdn : (65535 - d) / 65536 = (c2 : Int) := by omega
      have hds : d + (c2 : Int) * 65536 = (dg DD R i : Int) := by omega
      have HTD := Lib.hid htd
      clear htd
      go_wp2_with fail
      go_roundw
      case rel => exact ⟨i + 1, by omega, by go_num, by first | rw [hdn, HC2.out] | rw [HC2.out], HS.out, HSB.out⟩
      case measure => simp [intOf]; omega
     ·have hc0 : c2 = 0 := by omega
      have hd2 : ¬ d < 0 := by omega
      have hds : d = (dg DD R i : Int) := by omega
      have HC0 := Lib.hid hc0
      have HDS := Lib.hid hds
      have HTD := Lib.hid htd
      rw [← hds] at HS HSB
      clear hc0 hds htd
      go_wp2_with fail
      go_roundw
      case rel => exact ⟨i + 1, by omega, by go_num, by rw [HC2.out, HC0.out]; rfl, HS.out, HSB.out⟩
      case measure => simp [intOf]; omega
  ·have hia : i = dl a := by omega
   subst hia
   rw [rowZ_end] at HO
   have hlt : R < DD ^ dl a := Nat.lt_of_le_of_lt (by have := HR.out; omega) (lt_dl a)
   have HLT := Lib.hid hlt
   clear hlt
   go_wp2_with fail
   refine (trim_own HO.out HLT.out (by omega)).mono ?_
   rintro e w' ⟨a', cap', rfl, hN, hnew, rfl⟩
   have HNN := Lib.hid hN
   have HNEW := Lib.hid (show ∀ q o, a' = some ⟨q, o, none⟩ → w.heap.size ≤ q from fun q o h => by have h9 : some w.heap.size = some q := hnew q o h; have h8 := Option.some.inj h9; omega)
   clear hN hnew
   go_wp2_with fail
   go_ret
   exact ⟨a', cap', rfl, HNN.out, HNEW.out, HN.out⟩
theorem refTake_any (a b n k R : Nat) (aa ab : Option Addr) (ca cb : Nat) (hla : dl a ≤ 1048576) (hlb : dl b ≤ 1048576) (hn : n ≤ 1099511627776) (hk : k ≤ 1048576) (hR : a = R + n * (b * DD ^ k)) (w : World) (hA : NumAt w aa a) (hB : NumAt w ab b) :
  Calls Try.prog 171 #[.slice aa (dl a) ca, .slice ab (dl b) cb, .int .i64 (n : Int), .int .i64 (k : Int)] w fun e w' => NumR w e w' R :=
 (refTake_new a b n k R aa ab ca cb hla hlb hn hk hR w hA hB).mono fun _ _ h => h.r
end Go.Proofs.Ytjmeakfjfpnciaa
namespace Go.Proofs.Ytjmeakfjfpnciaa
open Go.RowKit
theorem top_div (n : Nat) (h : n ≠ 0) : n / DD ^ (dl n - 1) = dg DD n (dl n - 1) := by
 have h2 := lt_dl n
 have hp := dl_pos n h
 have e : DD ^ dl n = DD ^ (dl n - 1) * DD := by rw [← Nat.pow_succ]; congr 1; omega
 unfold dg
 rw [Nat.mod_eq_of_lt (Nat.div_lt_of_lt_mul (by rw [← e]; exact h2))]
theorem top_lt (m : Nat) (h : m ≠ 0) : m < (dg DD m (dl m - 1) + 1) * DD ^ (dl m - 1) := by
 have h1 := top_div m h
 have h2 := Nat.div_add_mod m (DD ^ (dl m - 1))
 have h3 := Nat.mod_lt m (Nat.pow_pos (n := dl m - 1) (show 0 < DD by decide))
 rw [h1] at h2
 rw [Nat.add_mul, Nat.one_mul, Nat.mul_comm (dg DD m (dl m - 1))]
 omega
theorem quo_step (A m x q e : Nat) (hm : m ≠ 0) (hx : x * DD ^ e ≤ A) (hq : q = x / (dg DD m (dl m - 1) + 1)) (he : dl m - 1 ≤ e) : q * (m * DD ^ (e - (dl m - 1))) ≤ A := by
 have h1 := top_lt m hm
 have h2 : q * (dg DD m (dl m - 1) + 1) ≤ x := by rw [hq]; exact Nat.div_mul_le_self _ _
 have h3 : DD ^ e = DD ^ (dl m - 1) * DD ^ (e - (dl m - 1)) := by rw [← Nat.pow_add]; congr 1; omega
 generalize dg DD m (dl m - 1) + 1 = t at *
 generalize DD ^ (dl m - 1) = P at *
 generalize DD ^ (e - (dl m - 1)) = S at *
 calc q * (m * S) ≤ q * (t * P * S) := Nat.mul_le_mul_left _ (Nat.mul_le_mul_right _ (Nat.le_of_lt h1))
  _ = q * t * (P * S) := by rw [Nat.mul_assoc t, Nat.mul_assoc q]
  _ ≤ x * (P * S) := Nat.mul_le_mul_right _ h2
  _ = x * DD ^ e := by rw [h3]
  _ ≤ A := hx
theorem mod_one (A m : Nat) (hA : A ≠ 0) (hm : m ≠ 0) (hle : dl m ≤ dl A) : dg DD A (dl A - 1) / (dg DD m (dl m - 1) + 1) * (m * DD ^ (dl A - dl m)) ≤ A := by
 have h := quo_step A m (dg DD A (dl A - 1)) _ (dl A - 1) hm (by rw [← top_div A hA]; exact Nat.div_mul_le_self _ _) rfl (by omega)
 have := dl_pos m hm
 rwa [show dl A - 1 - (dl m - 1) = dl A - dl m by omega] at h
theorem mod_two (A m : Nat) (hA : A ≠ 0) (hm : m ≠ 0) (hle : dl m < dl A) : (dg DD A (dl A - 1) * DD + dg DD A (dl A - 2)) / (dg DD m (dl m - 1) + 1) * (m * DD ^ (dl A - dl m - 1)) ≤ A := by
 have hp := dl_pos m hm
 have h2 := dg_div (B := DD) A (dl A - 2)
 rw [show dl A - 2 + 1 = dl A - 1 by omega, top_div A hA, Nat.mul_comm] at h2
 have h := quo_step A m (dg DD A (dl A - 1) * DD + dg DD A (dl A - 2)) _ (dl A - 2) hm (by rw [← h2]; exact Nat.div_mul_le_self _ _) rfl (by omega)
 rwa [show dl A - 2 - (dl m - 1) = dl A - dl m - 1 by omega] at h
theorem take_mod (A m n s : Nat) (h : n * (m * s) ≤ A) : (A - n * (m * s)) % m = A % m := by
 have e : A = (A - n * (m * s)) + m * (n * s) := by rw [show m * (n * s) = n * (m * s) by rw [Nat.mul_left_comm]]; omega
 rw [← Nat.add_mul_mod_self_left (A - n * (m * s)) m (n * s), ← e]
def NumM (w : World) (aa : Option Addr) (e : Ending) (w' : World) (n : Nat) : Prop := ∃ a cap, e = .returned (.slice a (dl n) cap) ∧ NumAt w' a n ∧ (a = aa ∨ ∀ q o, a = some ⟨q, o, none⟩ → w.heap.size ≤ q) ∧ Below w.heap.size w w'
theorem NumM.r {w w' : World} {aa : Option Addr} {e : Ending} {n : Nat} (h : NumM w aa e w' n) : NumR w e w' n := let ⟨a, c, h1, h2, _, h4⟩ := h; ⟨a, c, h1, h2, h4⟩
theorem refMod_new (a m : Nat) (aa am : Option Addr) (ca cm : Nat) (hla : dl a ≤ 1048576) (hm0 : 0 < m) (w : World) (hA : NumAt w aa a) (hM : NumAt w am m) :
  Calls Try.prog 130 #[.slice aa (dl a) ca, .slice am (dl m) cm] w fun e w' => NumM w aa e w' (a % m) := by
 have HA := Lib.hid hA
 have HMM := Lib.hid hM
 clear hA hM
 go_enter Try.func130, Try.ntmps130
 go_wp2_with fail
 go_loopg [0, 5, 6] a (fun g v _ _ wr => ∃ (A : Nat) (a1 : Option Addr) (c1 : Nat), g = A ∧ v = .slice a1 (dl A) c1 ∧ Hid (A % m = a % m) ∧ A ≤ a ∧ Hid (NumAt wr a1 A) ∧ Hid (a1 = aa ∨ ∀ q o, a1 = some ⟨q, o, none⟩ → w.heap.size ≤ q) ∧ Hid (Below w.heap.size w wr))
 case atStart => exact ⟨a, aa, ca, rfl, rfl, rfl, Nat.le_refl _, HA.out, Or.inl rfl, Below.refl _ _⟩
 case round =>
  obtain ⟨A, a1, c1, hg, rfl, HM, hAa, HN, HFA, HB⟩ := hrel
  obtain ⟨G9, hG9⟩ : ∃ G9, gk = G9 := ⟨_, rfl⟩
  rw [hG9] at hg
  subst hg
  subst hG9
  obtain ⟨A, rfl⟩ : ∃ A, A = gk := ⟨_, rfl⟩
  clear HA
  have hdA := dl_mono _ _ hAa
  go_wp2_with fail
  refine (refCompare_any A m a1 am c1 cm (by omega) wr HN.out (HMM.out.up HB.out)).mono ?_
  rintro e w2 ⟨rfl, hb2⟩
  have HB2 := Lib.hid (below_up HB.out hb2)
  have HN2 := Lib.hid (HN.out.up hb2)
  have HMM2 := Lib.hid (HMM.out.up HB2.out)
  clear hb2 HN HB
  by_cases hlt : A < m
  ·have hc : cmpI A m = -1 := by unfold cmpI; rw [if_pos hlt]
   rw [hc]
   clear hc
   have HRES : Hid (A = a % m) := by show _ = _; rw [← HM.out, Nat.mod_eq_of_lt hlt]
   go_wp2_with fail
   go_ret
   exact ⟨a1, c1, by rw [← HRES.out]; rfl, by rw [← HRES.out]; exact HN2.out, HFA.out, HB2.out⟩
  ·have hle : m ≤ A := by omega
   have HLEM := Lib.hid hle
   obtain ⟨c, hc, hc0⟩ : ∃ c, cmpI A m = c ∧ 0 ≤ c := ⟨_, rfl, by unfold cmpI; rw [if_neg hlt]; split <;> omega⟩
   rw [hc]
   clear hc hlt hle
   have hA0 : A ≠ 0 := by have := HLEM.out; omega
   have hm1 : m ≠ 0 := by omega
   have hlm := dl_mono _ _ HLEM.out
   have hpA := dl_pos A hA0
   have hpm := dl_pos m hm1
   have htA := dl_top A hA0
   have h1 := mod_one A m hA0 hm1 hlm
   have hdA : dg DD A (dl A - 1) < 65536 := dg_lt (B := DD) (by decide) _ _
   have hdA2 : dg DD A (dl A - 2) < 65536 := dg_lt (B := DD) (by decide) _ _
   have hdm : dg DD m (dl m - 1) < 65536 := dg_lt (B := DD) (by decide) _ _
   have H2 : Hid (dl m < dl A → (dg DD A (dl A - 1) * DD + dg DD A (dl A - 2)) / (dg DD m (dl m - 1) + 1) * (m * DD ^ (dl A - dl m - 1)) ≤ A) := fun h => mod_two A m hA0 hm1 h
   obtain ⟨b1, o1, rfl, hb1, hcell1⟩ := HN2.out.all hpA
   obtain ⟨b2, o2, rfl, hb2, hcell2⟩ := HMM2.out.all hpm
   have hx1 := hcell1 (dl A - 1) (by omega)
   have hx2 := hcell2 (dl m - 1) (by omega)
   have hx3 : dl m < dl A → w2.cell? ⟨b1, o1 + (dl A - 2), none⟩ = some (.int .i64 (dg DD A (dl A - 2) : Int)) := fun h => hcell1 (dl A - 2) (by omega)
   have HX3 := Lib.hid hx3
   have hi1 : (dl A : Int) - 1 = ((dl A - 1 : Nat) : Int) := by omega
   have hi2 : (dl m : Int) - 1 = ((dl m - 1 : Nat) : Int) := by omega
   have hi3 : (dl A : Int) - (dl m : Int) = ((dl A - dl m : Nat) : Int) := by omega
   have H1 := Lib.hid h1
   clear hcell1 hcell2 hx3 h1
   generalize hat : dg DD A (dl A - 1) = at1 at *
   generalize han : dg DD A (dl A - 2) = an1 at *
   generalize hmt : dg DD m (dl m - 1) = mt1 at *
   have HAT := Lib.hid hat
   have HAN := Lib.hid han
   have HMT := Lib.hid hmt
   clear hat han hmt
   obtain ⟨q, hq⟩ : ∃ q, at1 / (mt1 + 1) = q := ⟨_, rfl⟩
   have hqI : (at1 : Int) / ((mt1 : Int) + 1) = (q : Int) := by rw [← hq]; simp
   have hq9 : q ≤ 65535 := by rw [← hq]; exact Nat.le_trans (Nat.div_le_self _ _) (by omega)
   have H1' := H1.out
   rw [hq] at H1'
   have HLE1 := Lib.hid H1'
   clear H1' H1 hq
   go_wp2_with fail
   go_quiet (fail)
   have HN3 := Lib.hid (HN2.out.up (below_drewN (Below.refl _ w2) nq))
   have HMM3 := Lib.hid (HMM2.out.up (below_drewN (Below.refl _ w2) nq))
   have HB3 := Lib.hid (below_drewN HB2.out nq)
   by_cases hq0 : q = 0
   ·subst hq0
    by_cases hk0 : dl m < dl A
    ·have hx3 := HX3.out hk0
     have h2 := H2.out hk0
     have hkp : 0 < dl A - dl m := by omega
     have hi4 : (dl A : Int) - 2 = ((dl A - 2 : Nat) : Int) := by omega
     have hi5 : ((dl A - dl m : Nat) : Int) - 1 = ((dl A - dl m - 1 : Nat) : Int) := by omega
     obtain ⟨q2, hq2⟩ : ∃ q2, (at1 * DD + an1) / (mt1 + 1) = q2 := ⟨_, rfl⟩
     rw [hq2] at h2
     have hqI2 : ((at1 : Int) * 65536 + (an1 : Int)) / ((mt1 : Int) + 1) = (q2 : Int) := by rw [← hq2]; simp
     have hq29 : q2 ≤ 4294967295 := by rw [← hq2]; exact Nat.le_trans (Nat.div_le_self _ _) (by show at1 * 65536 + an1 ≤ _; omega)
     have hq21 : 1 ≤ q2 := by rw [← hq2]; exact (Nat.le_div_iff_mul_le (by omega)).2 (by show 1 * (mt1 + 1) ≤ at1 * 65536 + an1; omega)
     have hq20 : ((q2 : Int) == 0) = false := by simp; omega
     have HLE := Lib.hid h2
     clear h2 hq2 HLE1
     go_wp2_with fail
     go_quiet (fail)
     have hsub : A - q2 * (m * DD ^ (dl A - dl m - 1)) < A := by
      have h1 : 0 < q2 * (m * DD ^ (dl A - dl m - 1)) := Nat.mul_pos (by omega) (Nat.mul_pos (by omega) (Nat.pow_pos (by decide)))
      omega
     have HSUB := Lib.hid hsub
     have HTM := Lib.hid (take_mod A m (q2) (DD ^ (dl A - dl m - 1)) HLE.out)
     clear hsub
     go_wp2_with fail
     refine (refTake_new A m (q2) (dl A - dl m - 1) (A - q2 * (m * DD ^ (dl A - dl m - 1))) _ _ _ _ (by omega) (by omega) (by omega) (by omega) (by have := HLE.out; omega) _ (NumAt.up HN2.out (below_drewN (Below.refl _ w2) _)) (NumAt.up HMM2.out (below_drewN (Below.refl _ w2) _))).mono ?_
     rintro e w4 ⟨a4, c4, rfl, hn4, hf4, hb4⟩
     have HN4 := Lib.hid hn4
     have HB4 := Lib.hid (below_up (below_drewN HB2.out _) hb4)
     have HF4 := Lib.hid (show ∀ q o, a4 = some ⟨q, o, none⟩ → w.heap.size ≤ q from fun q o h => Nat.le_trans (Below.size (below_drewN HB2.out _)) (hf4 q o h))
     clear hn4 hb4 hf4
     go_wp2_with fail
     go_roundg (A - q2 * (m * DD ^ (dl A - dl m - 1)))
     case measure => exact HSUB.out
     case rel => exact ⟨_, a4, c4, rfl, by first | rfl | rw [Nat.one_mul], by rw [HTM.out]; exact HM.out, Nat.le_trans (Nat.le_of_lt HSUB.out) hAa, HN4.out, Or.inr HF4.out, HB4.out⟩
    ·have hk00 : dl A - dl m = 0 := by omega
     have hkp : ¬ 0 < dl A - dl m := by omega
     have HLE : Hid (1 * (m * DD ^ (dl A - dl m)) ≤ A) := by
      show _ ≤ _
      rw [hk00, Nat.pow_zero, Nat.mul_one, Nat.one_mul]
      exact HLEM.out
     have hkI : ¬ (0 : Int) < ((dl A - dl m : Nat) : Int) := by omega
     clear hk00 HLE1
     have hsub : A - 1 * (m * DD ^ (dl A - dl m)) < A := by
      have h1 : 0 < 1 * (m * DD ^ (dl A - dl m)) := Nat.mul_pos (by omega) (Nat.mul_pos (by omega) (Nat.pow_pos (by decide)))
      omega
     have HSUB := Lib.hid hsub
     have HTM := Lib.hid (take_mod A m (1) (DD ^ (dl A - dl m)) HLE.out)
     clear hsub
     go_wp2_with fail
     refine (refTake_new A m (1) (dl A - dl m) (A - 1 * (m * DD ^ (dl A - dl m))) _ _ _ _ (by omega) (by omega) (by omega) (by omega) (by have := HLE.out; omega) _ HN3.out HMM3.out).mono ?_
     rintro e w4 ⟨a4, c4, rfl, hn4, hf4, hb4⟩
     have HN4 := Lib.hid hn4
     have HB4 := Lib.hid (below_up HB3.out hb4)
     have HF4 := Lib.hid (show ∀ q o, a4 = some ⟨q, o, none⟩ → w.heap.size ≤ q from fun q o h => Nat.le_trans (Below.size HB3.out) (hf4 q o h))
     clear hn4 hb4 hf4
     go_wp2_with fail
     go_roundg (A - 1 * (m * DD ^ (dl A - dl m)))
     case measure => exact HSUB.out
     case rel => exact ⟨_, a4, c4, rfl, by first | rfl | rw [Nat.one_mul], by rw [HTM.out]; exact HM.out, Nat.le_trans (Nat.le_of_lt HSUB.out) hAa, HN4.out, Or.inr HF4.out, HB4.out⟩
   ·have hq1 : ((q : Int) == 0) = false := by simp; omega
    have HLE := HLE1
    clear HLE1
    have hsub : A - q * (m * DD ^ (dl A - dl m)) < A := by
     have h1 : 0 < q * (m * DD ^ (dl A - dl m)) := Nat.mul_pos (by omega) (Nat.mul_pos (by omega) (Nat.pow_pos (by decide)))
     omega
    have HSUB := Lib.hid hsub
    have HTM := Lib.hid (take_mod A m (q) (DD ^ (dl A - dl m)) HLE.out)
    clear hsub
    go_wp2_with fail
    refine (refTake_new A m (q) (dl A - dl m) (A - q * (m * DD ^ (dl A - dl m))) _ _ _ _ (by omega) (by omega) (by omega) (by omega) (by have := HLE.out; omega) _ HN3.out HMM3.out).mono ?_
    rintro e w4 ⟨a4, c4, rfl, hn4, hf4, hb4⟩
    have HN4 := Lib.hid hn4
    have HB4 := Lib.hid (below_up HB3.out hb4)
    have HF4 := Lib.hid (show ∀ q o, a4 = some ⟨q, o, none⟩ → w.heap.size ≤ q from fun q o h => Nat.le_trans (Below.size HB3.out) (hf4 q o h))
    clear hn4 hb4 hf4
    go_wp2_with fail
    go_roundg (A - q * (m * DD ^ (dl A - dl m)))
    case measure => exact HSUB.out
    case rel => exact ⟨_, a4, c4, rfl, by first | rfl | rw [Nat.one_mul], by rw [HTM.out]; exact HM.out, Nat.le_trans (Nat.le_of_lt HSUB.out) hAa, HN4.out, Or.inr HF4.out, HB4.out⟩
theorem refMod_any (a m : Nat) (aa am : Option Addr) (ca cm : Nat) (hla : dl a ≤ 1048576) (hm0 : 0 < m) (w : World) (hA : NumAt w aa a) (hM : NumAt w am m) :
  Calls Try.prog 130 #[.slice aa (dl a) ca, .slice am (dl m) cm] w fun e w' => NumR w e w' (a % m) :=
 (refMod_new a m aa am ca cm hla hm0 w hA hM).mono fun _ _ h => h.r
end Go.Proofs.Ytjmeakfjfpnciaa
namespace Go.Proofs.Ytjmeakfjfpnciaa
open Go.RowKit
def bitAt (n k : Nat) : Nat := n / 2 ^ k % 2
def bitsTo (n L t : Nat) : List Nat := (List.range t).map fun s => bitAt n (L - 1 - s)
theorem bitsTo_succ (n L t : Nat) : bitsTo n L (t + 1) = bitsTo n L t ++ [bitAt n (L - 1 - t)] := by simp [bitsTo, List.range_succ]
theorem bit_dg (n i j : Nat) (hj : j ≤ 15) : dg DD n i / 2 ^ (15 - j) % 2 = bitAt n (16 * i + (15 - j)) := by
 unfold dg bitAt
 have hb : DD = 2 ^ 16 := rfl
 rw [hb, ← Nat.pow_mul]
 have e : (2 : Nat) ^ 16 = 2 ^ (15 - j) * (2 * 2 ^ j) := by
  rw [← Nat.pow_succ', ← Nat.pow_add]; congr 1; omega
 rw [e, Nat.mod_mul_right_div_self, Nat.mod_mul_right_mod, Nat.div_div_eq_div_mul, ← Nat.pow_add]
structure OwnB (W w : World) (v : Value) (n L t : Nat) : Prop where
 own : w.ownsRow 0 3 1 v t ((bitsTo n L t).map dV)
 new_ : ∀ q, v.ownBlock = some q → W.heap.size ≤ q
 below : Below W.heap.size W w
theorem OwnB.nil (W : World) (n L : Nat) : OwnB W W (.slice none 0 0) n L 0 := ⟨World.ownsRow_nil _ _ _ _, fun q h => by simp [Value.ownBlock] at h, Below.refl _ _⟩
theorem OwnB.push {W w w1 : World} {v : Value} {n L k g c : Nat} (h : OwnB W w v n L k) (hown : w1.ownsRow 0 3 1 (.slice (some ⟨g, 0, none⟩) (k + 1) c) (k + 1) ((bitsTo n L k).map dV ++ [.int .i64 (bitAt n (L - 1 - k) : Int)])) (hp : Pushed w w1 v g) : OwnB W w1 (.slice (some ⟨g, 0, none⟩) (k + 1) c) n L (k + 1) :=
 ⟨by rw [bitsTo_succ, List.map_append]; exact hown, hp.from_ h.below.size h.new_, hp.below h.below h.below.size h.new_⟩
def BitsR (n : Nat) (w : World) (e : Ending) (w' : World) : Prop := ∃ a cap, e = .returned (.slice a (16 * dl n) cap) ∧ Sl w' w'.heap.size a ((bitsTo n (16 * dl n) (16 * dl n)).map dV) ∧ Below w.heap.size w w'
theorem refBits_any (n : Nat) (an : Option Addr) (cn : Nat) (hln : dl n ≤ 65536) (w : World) (hA : NumAt w an n) :
  Calls Try.prog 172 #[.slice an (dl n) cn] w (BitsR n w) := by
 obtain ⟨i0, hi, hz0, hz1, hz2⟩ := info_parts infoInt3
 have HA := Lib.hid hA
 clear hA
 go_enter Try.func172, Try.ntmps172
 go_wp2_with fail
 go_loopw [3, 4, 5] (fun u x _ wr => ∃ i : Nat, i ≤ dl n ∧ x = .int .i64 ((i : Int) - 1) ∧ Hid (OwnB w wr u n (16 * dl n) (16 * (dl n - i)))) (fun _ x _ _ => (intOf x + 1).toNat)
 case atStart => exact ⟨dl n, Nat.le_refl _, rfl, by rw [Nat.sub_self]; exact OwnB.nil w _ _⟩
 case round =>
  obtain ⟨i, hin, hxi, HO⟩ := hrel
  rcases Nat.eq_zero_or_pos i with rfl | hip
  ·subst hxi
   rw [Nat.sub_zero] at HO
   go_wp2_with fail
   go_ret
   obtain ⟨a, c, rfl, _⟩ := own_form3 HO.out.own
   exact ⟨a, c, rfl, sl_of_own HO.out.own, HO.out.below⟩
  ·obtain ⟨p, rfl⟩ : ∃ p, i = p + 1 := ⟨i - 1, by omega⟩
   have ei : ((p + 1 : Nat) : Int) - 1 = (p : Int) := by omega
   rw [ei] at hxi
   subst hxi
   clear ei hip
   obtain ⟨b1, o1, rfl, hb1, hcell1⟩ := HA.out.all (by omega)
   have hx1 := hcell1 p (by omega)
   have HX1 := Lib.hid hx1
   have hdp : dg DD n p < 65536 := dg_lt (B := DD) (by decide) _ _
   clear hcell1 hx1
   obtain ⟨W2, rfl⟩ : ∃ W2 : World, W2 = wr := ⟨_, rfl⟩
   go_wp2_with fail
   go_loopw [3, 5] (fun u x wr => ∃ j : Nat, j ≤ 16 ∧ x = .int .i64 (32768 / 2 ^ j : Nat) ∧ Hid (OwnB w wr u n (16 * dl n) (16 * (dl n - (p + 1)) + j))) (fun _ x _ => (intOf x).toNat)
   case atStart => exact ⟨0, Nat.zero_le _, rfl, HO.out⟩
   case round =>
    clear HO
    obtain ⟨j, hj, rfl, HO⟩ := hrel
    by_cases hjl : j < 16
    ·have hP : 32768 / 2 ^ j = 2 ^ (15 - j) := by
      show 2 ^ 15 / 2 ^ j = _
      exact Nat.pow_div (by omega) (by omega)
     have hP2 : ((32768 / 2 ^ j : Nat) : Int) / 2 = ((32768 / 2 ^ (j + 1) : Nat) : Int) := by
      rw [Nat.pow_succ, ← Nat.div_div_eq_div_mul]; omega
     have hbit := bit_dg n p j (by omega)
     have hpos : 0 < 32768 / 2 ^ j := by rw [hP]; exact Nat.pow_pos (by omega)
     have hle : 32768 / 2 ^ j ≤ 32768 := Nat.div_le_self _ _
     have hdec : 32768 / 2 ^ (j + 1) < 32768 / 2 ^ j := by
      rw [Nat.pow_succ, ← Nat.div_div_eq_div_mul]; exact Nat.div_lt_self hpos (by decide)
     rw [← hP, show 16 * p + (15 - j) = 16 * dl n - 1 - (16 * (dl n - (p + 1)) + j) by omega] at hbit
     have hx1 : wr.cell? ⟨b1, o1 + p, none⟩ = some (.int .i64 (dg DD n p : Int)) := by rw [HO.out.below.cell (p := ⟨b1, o1 + p, none⟩) hb1]; exact HX1.out
     generalize dg DD n p = d at *
     generalize 32768 / 2 ^ j = P at *
     generalize hP1 : 32768 / 2 ^ (j + 1) = P1 at *
     have hq9 : (d : Int) / (P : Int) = ((d / P : Nat) : Int) := by simp
     have hx9l : d / P ≤ d := Nat.div_le_self _ _
     generalize hx9 : d / P = x9 at *
     have HX9 := Lib.hid hx9
     have hbI : (x9 : Int) % 2 = (bitAt n (16 * dl n - 1 - (16 * (dl n - (p + 1)) + j)) : Int) := by omega
     clear hx9
     have hHP := Lib.hid hP
     have HP1 := Lib.hid hP1
     generalize hT : 16 * (dl n - (p + 1)) + j = T at *
     have hTl : T ≤ 1048576 := by omega
     have HT := Lib.hid hT
     generalize hB : bitAt n (16 * dl n - 1 - T) = bb at *
     have HBB := Lib.hid hB
     clear hP hP1 hbit hT hB
     go_wp2_with (at_builtin; refine wpList_push wr rfl _ _ 32 rfl 3 i0 _ 1 8 Try.underlying32 hi hz0 hz1 hz2 rfl (by omega) u3 T ((bitsTo n (16 * dl n) T).map dV) rfl HO.out.own _ _ _ rfl rfl rfl (by simp [Value.oneCell']) (by omega) (by unfold maxLen; omega) ?_)
     intro g gc w1 hown hp
     have HO1 := Lib.hid (HO.out.push (by rw [HBB.out]; exact hown) hp)
     clear hown hp
     go_wp2_with fail
     go_roundw
     case rel => exact ⟨j + 1, by omega, by first | rw [hP2, HP1.out] | rw [HP1.out], by rw [← Nat.add_assoc, HT.out]; exact HO1.out⟩
     case measure => simp [intOf]; omega
    ·have hj16 : j = 16 := by omega
     subst hj16
     have h0 : ((32768 / 2 ^ 16 : Nat) : Int) = 0 := by decide
     rw [h0]
     clear h0
     go_wp2_with fail
     go_roundw
     case rel => exact ⟨p, by omega, rfl, by rw [show 16 * (dl n - p) = 16 * (dl n - (p + 1)) + 16 by omega]; exact HO.out⟩
     case measure => first | (simp [intOf]; done) | (simp [intOf]; omega)
theorem lt32 (x y : Nat) (hx : x < DD ^ 16) (hy : y < DD ^ 16) : dl (x * y) ≤ 1048576 := by
 refine Nat.le_trans (dl_of_lt (x * y) 32 ?_) (by decide)
 have e : DD ^ 32 = DD ^ 16 * DD ^ 16 := by rw [← Nat.pow_add]
 rw [e]
 exact Nat.lt_of_le_of_lt (Nat.mul_le_mul_left _ (Nat.le_of_lt hy)) (Nat.mul_lt_mul_of_pos_right hx (Nat.pow_pos (by decide)))
theorem lt16 (x : Nat) (hx : x < DD ^ 16) : dl x ≤ 1048576 := small_dl x hx
theorem pow_sq (a e m : Nat) : (a ^ e % m * (a ^ e % m)) % m = a ^ (2 * e) % m := by
 rw [← Nat.mul_mod, ← Nat.pow_add, Nat.two_mul]
theorem pow_one_more (a e m : Nat) : (a ^ (2 * e) % m * a) % m = a ^ (2 * e + 1) % m := by
 rw [Nat.mod_mul_mod, ← Nat.pow_succ]
theorem dl_one_of (v : Nat) (h : dl v = 1) : dg DD v 0 = v := by
 have := lt_dl v
 rw [h, Nat.pow_one] at this
 unfold dg
 rw [Nat.pow_zero, Nat.div_one, Nat.mod_eq_of_lt this]
theorem refPower_any (a n m : Nat) (aa an am : Option Addr) (ca cn cm : Nat) (ha : a < DD ^ 16) (hn : dl n ≤ 65536) (hm1 : 1 < m) (hm2 : m < DD ^ 16) (w : World) (hA : NumAt w aa a) (hN : NumAt w an n) (hM : NumAt w am m) :
  Calls Try.prog 131 #[.slice aa (dl a) ca, .slice an (dl n) cn, .slice am (dl m) cm] w fun e w' => NumR w e w' (a ^ n % m) := by
 have HA := Lib.hid hA
 have HNN := Lib.hid hN
 have HMM := Lib.hid hM
 have HA16 := Lib.hid ha
 have HM16 := Lib.hid hm2
 have hmp : 0 < m := by omega
 clear hA hN hM ha hm2
 go_enter Try.func131, Try.ntmps131
 go_wp2_with fail
 refine (refOf_any 1 (by omega) w).mono ?_
 rintro e9 w1 ⟨a1, c1, rfl, hn1, hb1⟩
 have HN1 := Lib.hid hn1
 have HB1 := Lib.hid hb1
 clear hn1 hb1
 go_wp2_with fail
 refine (refBits_any n an cn hn w1 (HNN.out.up HB1.out)).mono ?_
 rintro e9 w2 ⟨ab, cb, rfl, hs2, hb2⟩
 have HS := Lib.hid hs2
 have HBS := Lib.hid hb2
 have HN2 := Lib.hid (HN1.out.up hb2)
 have HB2 := Lib.hid (below_up HB1.out hb2)
 have hL : 16 * dl n ≤ 1048576 := by omega
 have HL0 : Hid (n / 2 ^ (16 * dl n) = 0) := by
  have h := lt_dl n
  have hb : DD = 2 ^ 16 := rfl
  rw [hb, ← Nat.pow_mul] at h
  exact Nat.div_eq_of_lt h
 clear hs2 hb2 HN1 HB1
 have HA := Lib.hid (HA.out.up HB2.out)
 have HMM := Lib.hid (HMM.out.up HB2.out)
 generalize hLL : 16 * dl n = L at *
 clear hLL
 have hzw2 := HB2.out.size
 go_wp2_with fail
 go_loopw [7, 9, 14] (fun u _ x wr => ∃ (t v : Nat) (a1 : Option Addr) (c1 : Nat), t ≤ L ∧ x = .int .i64 t ∧ u = .slice a1 (dl v) c1 ∧ Hid (v = a ^ (n / 2 ^ (L - t)) % m) ∧ Hid (NumAt wr a1 v) ∧ Hid (Below w2.heap.size w2 wr)) (fun _ _ x _ => L - (intOf x).toNat)
 case atStart => exact ⟨0, 1, a1, c1, Nat.zero_le _, rfl, rfl, by show _ = _; rw [Nat.sub_zero, HL0.out, Nat.pow_zero, Nat.mod_eq_of_lt hm1], HN2.out, Below.refl _ _⟩
 case round =>
  clear HN2
  obtain ⟨t, v, a1, c1, ht, rfl, rfl, HV, HN, HBW⟩ := hrel
  have HB := HBW
  by_cases htl : t < L
  ·obtain ⟨b3, o3, rfl, hb3, hc3⟩ := (HS.out.up HBW.out).at t (by simp [bitsTo]; omega)
   have hcell : wr.cell? ⟨b3, o3 + t, none⟩ = some (.int .i64 (bitAt n (L - 1 - t) : Int)) := by
    rw [hc3]
    simp [bitsTo, dV]
   have hbb : bitAt n (L - 1 - t) = 0 ∨ bitAt n (L - 1 - t) = 1 := by unfold bitAt; omega
   have he1 : n / 2 ^ (L - (t + 1)) = 2 * (n / 2 ^ (L - t)) + bitAt n (L - 1 - t) := by
    unfold bitAt
    rw [show L - t = L - 1 - t + 1 by omega, show L - (t + 1) = L - 1 - t by omega, Nat.pow_succ, ← Nat.div_div_eq_div_mul]
    omega
   have HE1 := Lib.hid he1
   clear hc3 he1
   generalize bitAt n (L - 1 - t) = bb at *
   generalize n / 2 ^ (L - t) = e at *
   obtain rfl := HV.out
   clear HV
   by_cases hv1 : a ^ e % m = 1
   ·have hd1 : dl (a ^ e % m) = 1 := by rw [hv1]; rfl
    obtain ⟨b4, o4, rfl, hb4, hcell4⟩ := HN.out.all (by omega)
    have hx4 := hcell4 0 (by omega)
    rw [dl_one_of _ hd1, hv1, Nat.add_zero] at hx4
    have hne : ((dl (a ^ e % m) : Int) != 1) = false := by rw [hd1]; rfl
    have hdpos : (0 : Int) < (dl (a ^ e % m) : Int) := by omega
    have HNq : Hid (NumAt wr (some ⟨b4, o4, none⟩) (a ^ (2 * e) % m)) := by
     show NumAt _ _ _
     rw [← pow_sq, hv1, Nat.mul_one, Nat.mod_eq_of_lt hm1, ← hv1]
     exact HN.out
    have HDq : Hid (dl (a ^ e % m) = dl (a ^ (2 * e) % m)) := by
     show _ = _
     rw [← pow_sq, hv1, Nat.mul_one, Nat.mod_eq_of_lt hm1]
    clear hv1 hd1 hcell4
    rw [HDq.out] at hne hdpos ⊢
    clear HDq HN
    have HN := HNq
    clear HNq
    rcases hbb with hb0 | hb0
    ·have hbf : ((bb : Int) == 1) = false := by rw [hb0]; rfl
     have HRES : Hid (a ^ (2 * e) % m = a ^ (2 * e + bb) % m) := by show _ = _; rw [hb0]; rfl
     clear hb0
     go_wp2_with fail
     go_roundw
     case rel => exact ⟨t + 1, a ^ (2 * e) % m, (some ⟨b4, o4, none⟩), c1, by omega, by go_num, rfl, by rw [HE1.out]; exact HRES.out, HN.out, HB.out⟩
     case measure => simp [intOf]; omega
    ·have hbf : ((bb : Int) == 1) = true := by rw [hb0]; rfl
     have HRES : Hid (a ^ (2 * e + 1) % m = a ^ (2 * e + bb) % m) := by show _ = _; rw [hb0]
     clear hb0
     go_wp2_with fail
     refine (refTimes_any (a ^ (2 * e) % m) a (some ⟨b4, o4, none⟩) aa c1 ca (lt16 _ (Nat.lt_trans (Nat.mod_lt _ hmp) HM16.out)) (lt16 _ HA16.out) wr HN.out (HA.out.up HB.out)).mono ?_
     rintro e9 w7 ⟨a7, c7, rfl, hn7, hb7⟩
     have HN7 := Lib.hid hn7
     have HB7 := Lib.hid (below_up HB.out hb7)
     clear hn7 hb7
     go_wp2_with fail
     refine (refMod_any (a ^ (2 * e) % m * a) m a7 am c7 cm (lt32 _ _ (Nat.lt_trans (Nat.mod_lt _ hmp) HM16.out) HA16.out) hmp w7 HN7.out (HMM.out.up HB7.out)).mono ?_
     rintro e9 w8 ⟨a8, c8, rfl, hn8, hb8⟩
     rw [pow_one_more] at hn8 ⊢
     have HN8 := Lib.hid hn8
     have HB8 := Lib.hid (below_up HB7.out hb8)
     clear hn8 hb8
     go_wp2_with fail
     go_roundw
     case rel => exact ⟨t + 1, _, a8, c8, by omega, by go_num, rfl, by rw [HE1.out]; exact HRES.out, HN8.out, HB8.out⟩
     case measure => simp [intOf]; omega
   ·by_cases hd1 : dl (a ^ e % m) = 1
    ·obtain ⟨b4, o4, rfl, hb4, hcell4⟩ := HN.out.all (by omega)
     have hx4 := hcell4 0 (by omega)
     rw [dl_one_of _ hd1, Nat.add_zero] at hx4
     have hne : ((dl (a ^ e % m) : Int) != 1) = false := by rw [hd1]; rfl
     have hdpos : (0 : Int) < (dl (a ^ e % m) : Int) := by omega
     have hv2 : ((a : Int) ^ e % (m : Int) != 1) = true := by rw [bne_iff_ne]; intro h; apply hv1; exact_mod_cast h
     clear hcell4 hv1 hd1
     go_wp2_with fail
     refine (refTimes_any (a ^ e % m) (a ^ e % m) (some ⟨b4, o4, none⟩) (some ⟨b4, o4, none⟩) c1 c1 (lt16 _ (Nat.lt_trans (Nat.mod_lt _ hmp) HM16.out)) (lt16 _ (Nat.lt_trans (Nat.mod_lt _ hmp) HM16.out)) wr HN.out HN.out).mono ?_
     rintro e9 w4 ⟨a4, c4, rfl, hn4, hb4⟩
     have HN4 := Lib.hid hn4
     have HB4 := Lib.hid (below_up HB.out hb4)
     clear hn4 hb4
     go_wp2_with fail
     refine (refMod_any (a ^ e % m * (a ^ e % m)) m a4 am c4 cm (lt32 _ _ (Nat.lt_trans (Nat.mod_lt _ hmp) HM16.out) (Nat.lt_trans (Nat.mod_lt _ hmp) HM16.out)) hmp w4 HN4.out (HMM.out.up HB4.out)).mono ?_
     rintro e9 w5 ⟨a5, c5, rfl, hn5, hb5⟩
     rw [pow_sq] at hn5 ⊢
     have HN5 := Lib.hid hn5
     have HB5 := Lib.hid (below_up HB4.out hb5)
     clear hn5 hb5
     rcases hbb with hb0 | hb0
     ·have hbf : ((bb : Int) == 1) = false := by rw [hb0]; rfl
      have HRES : Hid (a ^ (2 * e) % m = a ^ (2 * e + bb) % m) := by show _ = _; rw [hb0]; rfl
      clear hb0
      go_wp2_with fail
      go_roundw
      case rel => exact ⟨t + 1, a ^ (2 * e) % m, a5, c5, by omega, by go_num, rfl, by rw [HE1.out]; exact HRES.out, HN5.out, HB5.out⟩
      case measure => simp [intOf]; omega
     ·have hbf : ((bb : Int) == 1) = true := by rw [hb0]; rfl
      have HRES : Hid (a ^ (2 * e + 1) % m = a ^ (2 * e + bb) % m) := by show _ = _; rw [hb0]
      clear hb0
      go_wp2_with fail
      refine (refTimes_any (a ^ (2 * e) % m) a a5 aa c5 ca (lt16 _ (Nat.lt_trans (Nat.mod_lt _ hmp) HM16.out)) (lt16 _ HA16.out) w5 HN5.out (HA.out.up HB5.out)).mono ?_
      rintro e9 w7 ⟨a7, c7, rfl, hn7, hb7⟩
      have HN7 := Lib.hid hn7
      have HB7 := Lib.hid (below_up HB5.out hb7)
      clear hn7 hb7
      go_wp2_with fail
      refine (refMod_any (a ^ (2 * e) % m * a) m a7 am c7 cm (lt32 _ _ (Nat.lt_trans (Nat.mod_lt _ hmp) HM16.out) HA16.out) hmp w7 HN7.out (HMM.out.up HB7.out)).mono ?_
      rintro e9 w8 ⟨a8, c8, rfl, hn8, hb8⟩
      rw [pow_one_more] at hn8 ⊢
      have HN8 := Lib.hid hn8
      have HB8 := Lib.hid (below_up HB7.out hb8)
      clear hn8 hb8
      go_wp2_with fail
      go_roundw
      case rel => exact ⟨t + 1, _, a8, c8, by omega, by go_num, rfl, by rw [HE1.out]; exact HRES.out, HN8.out, HB8.out⟩
      case measure => simp [intOf]; omega
    ·have hne : ((dl (a ^ e % m) : Int) != 1) = true := by simp; omega
     clear hd1 hv1
     go_wp2_with fail
     refine (refTimes_any (a ^ e % m) (a ^ e % m) a1 a1 c1 c1 (lt16 _ (Nat.lt_trans (Nat.mod_lt _ hmp) HM16.out)) (lt16 _ (Nat.lt_trans (Nat.mod_lt _ hmp) HM16.out)) wr HN.out HN.out).mono ?_
     rintro e9 w4 ⟨a4, c4, rfl, hn4, hb4⟩
     have HN4 := Lib.hid hn4
     have HB4 := Lib.hid (below_up HB.out hb4)
     clear hn4 hb4
     go_wp2_with fail
     refine (refMod_any (a ^ e % m * (a ^ e % m)) m a4 am c4 cm (lt32 _ _ (Nat.lt_trans (Nat.mod_lt _ hmp) HM16.out) (Nat.lt_trans (Nat.mod_lt _ hmp) HM16.out)) hmp w4 HN4.out (HMM.out.up HB4.out)).mono ?_
     rintro e9 w5 ⟨a5, c5, rfl, hn5, hb5⟩
     rw [pow_sq] at hn5 ⊢
     have HN5 := Lib.hid hn5
     have HB5 := Lib.hid (below_up HB4.out hb5)
     clear hn5 hb5
     rcases hbb with hb0 | hb0
     ·have hbf : ((bb : Int) == 1) = false := by rw [hb0]; rfl
      have HRES : Hid (a ^ (2 * e) % m = a ^ (2 * e + bb) % m) := by show _ = _; rw [hb0]; rfl
      clear hb0
      go_wp2_with fail
      go_roundw
      case rel => exact ⟨t + 1, a ^ (2 * e) % m, a5, c5, by omega, by go_num, rfl, by rw [HE1.out]; exact HRES.out, HN5.out, HB5.out⟩
      case measure => simp [intOf]; omega
     ·have hbf : ((bb : Int) == 1) = true := by rw [hb0]; rfl
      have HRES : Hid (a ^ (2 * e + 1) % m = a ^ (2 * e + bb) % m) := by show _ = _; rw [hb0]
      clear hb0
      go_wp2_with fail
      refine (refTimes_any (a ^ (2 * e) % m) a a5 aa c5 ca (lt16 _ (Nat.lt_trans (Nat.mod_lt _ hmp) HM16.out)) (lt16 _ HA16.out) w5 HN5.out (HA.out.up HB5.out)).mono ?_
      rintro e9 w7 ⟨a7, c7, rfl, hn7, hb7⟩
      have HN7 := Lib.hid hn7
      have HB7 := Lib.hid (below_up HB5.out hb7)
      clear hn7 hb7
      go_wp2_with fail
      refine (refMod_any (a ^ (2 * e) % m * a) m a7 am c7 cm (lt32 _ _ (Nat.lt_trans (Nat.mod_lt _ hmp) HM16.out) HA16.out) hmp w7 HN7.out (HMM.out.up HB7.out)).mono ?_
      rintro e9 w8 ⟨a8, c8, rfl, hn8, hb8⟩
      rw [pow_one_more] at hn8 ⊢
      have HN8 := Lib.hid hn8
      have HB8 := Lib.hid (below_up HB7.out hb8)
      clear hn8 hb8
      go_wp2_with fail
      go_roundw
      case rel => exact ⟨t + 1, _, a8, c8, by omega, by go_num, rfl, by rw [HE1.out]; exact HRES.out, HN8.out, HB8.out⟩
      case measure => simp [intOf]; omega
  ·have htL : t = L := by omega
   subst htL
   rw [Nat.sub_self, Nat.pow_zero, Nat.div_one] at HV
   obtain rfl := HV.out
   go_wp2_with fail
   go_ret
   exact ⟨a1, c1, rfl, HN.out, below_up HB2.out HBW.out⟩
end Go.Proofs.Ytjmeakfjfpnciaa
namespace Go.Proofs.Ytjmeakfjfpnciaa
open Go.RowKit
def gR (sz q p : Nat) (aq ap : Option Addr) (cq cp : Nat) : List Value := [.int .i64 (sz : Int), .slice aq (dl q) cq, .slice ap (dl p) cp]
theorem take_minus (a b R : Nat) (h : a = R + b) : a = R + 1 * (b * DD ^ 0) := by rw [Nat.pow_zero, Nat.mul_one, Nat.one_mul]; exact h
theorem refMinus_any (a b R : Nat) (aa ab : Option Addr) (ca cb : Nat) (hla : dl a ≤ 1048576) (hlb : dl b ≤ 1048576) (hR : a = R + b) (w : World) (hA : NumAt w aa a) (hB : NumAt w ab b) :
  Calls Try.prog 169 #[.slice aa (dl a) ca, .slice ab (dl b) cb] w fun e w' => NumR w e w' R := by
 have hT : Calls Try.prog 171 #[.slice aa (dl a) ca, .slice ab (dl b) cb, .int .i64 1, .int .i64 0] w fun e w' => NumR w e w' R := refTake_any a b 1 0 R aa ab ca cb hla hlb (by omega) (by omega) (take_minus a b R hR) w hA hB
 have HT := Lib.hid hT
 clear hT hR hA hB
 go_enter Try.func169, Try.ntmps169
 go_wp2_with fail
 refine HT.out.mono ?_
 rintro e w1 ⟨a1, c1, rfl, hn1, hb1⟩
 have HN1 := Lib.hid hn1
 have HB1 := Lib.hid hb1
 clear hn1 hb1
 go_wp2_with fail
 go_ret
 exact ⟨a1, c1, rfl, HN1.out, HB1.out⟩
theorem plus_dl (a b : Nat) (ha : a < DD ^ 16) (hb : b < DD ^ 16) : dl (a + b) ≤ 1048576 := by
 refine Nat.le_trans (dl_of_lt (a + b) 17 ?_) (by decide)
 have : DD ^ 17 = DD ^ 16 * 65536 := Nat.pow_succ ..
 omega
theorem refAdd_new (a b sz q p : Nat) (aa ab aq ap : Option Addr) (ca cb cq cp : Nat) (ha : a < DD ^ 16) (hb : b < DD ^ 16) (hq : 0 < q) (w : World) (hA : NumAt w aa a) (hB : NumAt w ab b) (hQ : NumAt w aq q) :
  Calls Try.prog 125 #[.agg #[.int .i64 (sz : Int), .slice aq (dl q) cq, .slice ap (dl p) cp], .slice aa (dl a) ca, .slice ab (dl b) cb] w fun e w' => NumN w e w' ((a + b) % q) := by
 have HA := Lib.hid hA
 have HBB := Lib.hid hB
 have HQ := Lib.hid hQ
 clear hA hB hQ
 go_enter Try.func125, Try.ntmps125
 have hzz : Bx (w.alloc (.cells #[.int .i64 (sz : Int), .slice aq (dl q) cq, .slice ap (dl p) cp] 108)) w.heap.size 108 (gR sz q p aq ap cq cp) := Bx.new w _ _ _ rfl
 have hbz : Below w.heap.size w (w.alloc (.cells #[.int .i64 (sz : Int), .slice aq (dl q) cq, .slice ap (dl p) cp] 108)) := (Below.refl w.heap.size w).alloc (Nat.le_refl _) _
 obtain ⟨W2, hW2⟩ : ∃ W9 : World, (w.alloc (.cells #[.int .i64 (sz : Int), .slice aq (dl q) cq, .slice ap (dl p) cp] 108)) = W9 := ⟨_, rfl⟩
 rw [hW2] at hzz hbz
 have HZ := Lib.hid hzz
 have HBZ := Lib.hid hbz
 have hz_0 := HZ.out.cell (i := 0) rfl
 have hz_1 := HZ.out.cell (i := 1) rfl
 have hz_2 := HZ.out.cell (i := 2) rfl
 have hzl := HZ.out.lt
 clear hzz hbz
 go_wp2_with fail
 have HW0 : Hid (Below W2.heap.size W2 W2.drew) := (Below.refl _ _).drew
 refine wp_region_tree (fun w' => ∃ E : Over W2, w' = E.w) (.qs [0, 1, 3, 4] (.a 2 (.a 5 (.q 6 .done)))) (by kernel_rfl) (by kernel_rfl) (fun _ _ d _ _ h => by cases d <;> exact h) ⟨⟨_, HW0.out⟩, rfl⟩ ?_
 have hov := fun (E : Over W2) o => E.cell (b := w.heap.size) o hzl
 simp only [Tree.qs]
 repeat (refine tree_q rfl rfl ?_; go_big_quiet_step (fail); refine wpQuiet_nil ?_)
 refine tree_a rfl (fun K hK => ?_)
 go_simp
 refine (refPlus_new a b aa ab ca cb (small_dl a ha) (small_dl b hb) _ (HA.out.up (below_up HBZ.out HW0.out)) (HBB.out.up (below_up HBZ.out HW0.out))).mono ?_
 rintro e w4 ⟨a4, c4, rfl, hn9, hf9, hb9⟩
 have HN4 := Lib.hid hn9
 have HFR4 := Lib.hid hf9
 have HW4 := Lib.hid (below_up HW0.out hb9)
 clear hn9 hf9 hb9
 refine hK _ _ ⟨⟨⟨w4, HW4.out⟩, rfl⟩, ?_⟩
 clear hK K
 refine tree_a rfl (fun K hK => ?_)
 go_simp
 refine (refMod_new (a + b) q a4 aq c4 cq (plus_dl a b ha hb) hq w4 HN4.out (HQ.out.up (below_up HBZ.out HW4.out))).mono ?_
 rintro e w5 ⟨a5, c5, rfl, hn9, hf9, hb9⟩
 have HN5 := Lib.hid hn9
 have HFR5 := Lib.hid hf9
 have HW5 := Lib.hid (below_up HW4.out hb9)
 clear hn9 hf9 hb9
 refine hK _ _ ⟨⟨⟨w5, HW5.out⟩, rfl⟩, ?_⟩
 clear hK K
 refine tree_q rfl rfl ?_
 go_big_quiet_step (fail)
 refine wpQuiet_nil ?_
 refine tree_end ?_
 have HF := Lib.hid (below_up HBZ.out HW5.out)
 clear hov
 go_wp2_with fail
 go_ret
 exact ⟨a5, c5, rfl, HN5.out, fun x o h => by
  have h1 := HBZ.out.size
  have h2 := HW4.out.size
  rcases HFR5.out with h9 | h9
  ·exact Nat.le_trans h1 (HFR4.out x o (h9 ▸ h))
  ·exact Nat.le_trans h1 (Nat.le_trans h2 (h9 x o h)), HF.out⟩
theorem refAdd_any (a b sz q p : Nat) (aa ab aq ap : Option Addr) (ca cb cq cp : Nat) (ha : a < DD ^ 16) (hb : b < DD ^ 16) (hq : 0 < q) (w : World) (hA : NumAt w aa a) (hB : NumAt w ab b) (hQ : NumAt w aq q) :
  Calls Try.prog 125 #[.agg #[.int .i64 (sz : Int), .slice aq (dl q) cq, .slice ap (dl p) cp], .slice aa (dl a) ca, .slice ab (dl b) cb] w fun e w' => NumR w e w' ((a + b) % q) :=
 (refAdd_new a b sz q p aa ab aq ap ca cb cq cp ha hb hq w hA hB hQ).mono fun _ _ h => h.r
theorem refMul_any (a b sz q p : Nat) (aa ab aq ap : Option Addr) (ca cb cq cp : Nat) (ha : a < DD ^ 16) (hb : b < DD ^ 16) (hq : 0 < q) (w : World) (hA : NumAt w aa a) (hB : NumAt w ab b) (hQ : NumAt w aq q) :
  Calls Try.prog 121 #[.agg #[.int .i64 (sz : Int), .slice aq (dl q) cq, .slice ap (dl p) cp], .slice aa (dl a) ca, .slice ab (dl b) cb] w fun e w' => NumR w e w' (a * b % q) := by
 have HA := Lib.hid hA
 have HBB := Lib.hid hB
 have HQ := Lib.hid hQ
 clear hA hB hQ
 go_enter Try.func121, Try.ntmps121
 have hzz : Bx (w.alloc (.cells #[.int .i64 (sz : Int), .slice aq (dl q) cq, .slice ap (dl p) cp] 108)) w.heap.size 108 (gR sz q p aq ap cq cp) := Bx.new w _ _ _ rfl
 have hbz : Below w.heap.size w (w.alloc (.cells #[.int .i64 (sz : Int), .slice aq (dl q) cq, .slice ap (dl p) cp] 108)) := (Below.refl w.heap.size w).alloc (Nat.le_refl _) _
 obtain ⟨W2, hW2⟩ : ∃ W9 : World, (w.alloc (.cells #[.int .i64 (sz : Int), .slice aq (dl q) cq, .slice ap (dl p) cp] 108)) = W9 := ⟨_, rfl⟩
 rw [hW2] at hzz hbz
 have HZ := Lib.hid hzz
 have HBZ := Lib.hid hbz
 have hz_0 := HZ.out.cell (i := 0) rfl
 have hz_1 := HZ.out.cell (i := 1) rfl
 have hz_2 := HZ.out.cell (i := 2) rfl
 have hzl := HZ.out.lt
 clear hzz hbz
 go_wp2_with fail
 have HW0 : Hid (Below W2.heap.size W2 W2.drew) := (Below.refl _ _).drew
 refine wp_region_tree (fun w' => ∃ E : Over W2, w' = E.w) (.qs [0, 1, 3, 4] (.a 2 (.a 5 (.q 6 .done)))) (by kernel_rfl) (by kernel_rfl) (fun _ _ d _ _ h => by cases d <;> exact h) ⟨⟨_, HW0.out⟩, rfl⟩ ?_
 have hov := fun (E : Over W2) o => E.cell (b := w.heap.size) o hzl
 simp only [Tree.qs]
 repeat (refine tree_q rfl rfl ?_; go_big_quiet_step (fail); refine wpQuiet_nil ?_)
 refine tree_a rfl (fun K hK => ?_)
 go_simp
 refine (refTimes_any a b aa ab ca cb (small_dl a ha) (small_dl b hb) _ (HA.out.up (below_up HBZ.out HW0.out)) (HBB.out.up (below_up HBZ.out HW0.out))).mono ?_
 rintro e w4 ⟨a4, c4, rfl, hn9, hb9⟩
 have HN4 := Lib.hid hn9
 have HW4 := Lib.hid (below_up HW0.out hb9)
 clear hn9 hb9
 refine hK _ _ ⟨⟨⟨w4, HW4.out⟩, rfl⟩, ?_⟩
 clear hK K
 refine tree_a rfl (fun K hK => ?_)
 go_simp
 refine (refMod_any (a * b) q a4 aq c4 cq (lt32 a b ha hb) hq w4 HN4.out (HQ.out.up (below_up HBZ.out HW4.out))).mono ?_
 rintro e w5 ⟨a5, c5, rfl, hn9, hb9⟩
 have HN5 := Lib.hid hn9
 have HW5 := Lib.hid (below_up HW4.out hb9)
 clear hn9 hb9
 refine hK _ _ ⟨⟨⟨w5, HW5.out⟩, rfl⟩, ?_⟩
 clear hK K
 refine tree_q rfl rfl ?_
 go_big_quiet_step (fail)
 refine wpQuiet_nil ?_
 refine tree_end ?_
 have HF := Lib.hid (below_up HBZ.out HW5.out)
 clear hov
 go_wp2_with fail
 go_ret
 exact ⟨a5, c5, rfl, HN5.out, HF.out⟩
theorem refSub_any (a b sz q p : Nat) (aa ab aq ap : Option Addr) (ca cb cq cp : Nat) (ha : a < DD ^ 16) (hb : b ≤ q) (hq : 0 < q) (hq2 : q < DD ^ 16) (w : World) (hA : NumAt w aa a) (hB : NumAt w ab b) (hQ : NumAt w aq q) :
  Calls Try.prog 122 #[.agg #[.int .i64 (sz : Int), .slice aq (dl q) cq, .slice ap (dl p) cp], .slice aa (dl a) ca, .slice ab (dl b) cb] w fun e w' => NumR w e w' ((a + q - b) % q) := by
 have hb2 : b < DD ^ 16 := Nat.lt_of_le_of_lt hb hq2
 have HA := Lib.hid hA
 have HBB := Lib.hid hB
 have HQ := Lib.hid hQ
 clear hA hB hQ
 go_enter Try.func122, Try.ntmps122
 have hzz : Bx (w.alloc (.cells #[.int .i64 (sz : Int), .slice aq (dl q) cq, .slice ap (dl p) cp] 108)) w.heap.size 108 (gR sz q p aq ap cq cp) := Bx.new w _ _ _ rfl
 have hbz : Below w.heap.size w (w.alloc (.cells #[.int .i64 (sz : Int), .slice aq (dl q) cq, .slice ap (dl p) cp] 108)) := (Below.refl w.heap.size w).alloc (Nat.le_refl _) _
 obtain ⟨W2, hW2⟩ : ∃ W9 : World, (w.alloc (.cells #[.int .i64 (sz : Int), .slice aq (dl q) cq, .slice ap (dl p) cp] 108)) = W9 := ⟨_, rfl⟩
 rw [hW2] at hzz hbz
 have HZ := Lib.hid hzz
 have HBZ := Lib.hid hbz
 have hz_0 := HZ.out.cell (i := 0) rfl
 have hz_1 := HZ.out.cell (i := 1) rfl
 have hz_2 := HZ.out.cell (i := 2) rfl
 have hzl := HZ.out.lt
 clear hzz hbz
 go_wp2_with fail
 have HW0 : Hid (Below W2.heap.size W2 W2.drew) := (Below.refl _ _).drew
 refine wp_region_tree (fun w' => ∃ E : Over W2, w' = E.w) (.qs [0, 1, 2, 4, 6, 7] (.a 3 (.a 5 (.a 8 (.q 9 .done))))) (by kernel_rfl) (by kernel_rfl) (fun _ _ d _ _ h => by cases d <;> exact h) ⟨⟨_, HW0.out⟩, rfl⟩ ?_
 have hov := fun (E : Over W2) o => E.cell (b := w.heap.size) o hzl
 simp only [Tree.qs]
 repeat (refine tree_q rfl rfl ?_; go_big_quiet_step (fail); refine wpQuiet_nil ?_)
 refine tree_a rfl (fun K hK => ?_)
 go_simp
 refine (refPlus_any a q aa aq ca cq (small_dl a ha) (small_dl q hq2) _ (HA.out.up (below_up HBZ.out HW0.out)) (HQ.out.up (below_up HBZ.out HW0.out))).mono ?_
 rintro e w4 ⟨a4, c4, rfl, hn9, hb9⟩
 have HN4 := Lib.hid hn9
 have HW4 := Lib.hid (below_up HW0.out hb9)
 clear hn9 hb9
 refine hK _ _ ⟨⟨⟨w4, HW4.out⟩, rfl⟩, ?_⟩
 clear hK K
 refine tree_a rfl (fun K hK => ?_)
 go_simp
 refine (refMinus_any (a + q) b (a + q - b) a4 ab c4 cb (plus_dl a q ha hq2) (small_dl b hb2) (by omega) w4 HN4.out (HBB.out.up (below_up HBZ.out HW4.out))).mono ?_
 rintro e w5 ⟨a5, c5, rfl, hn9, hb9⟩
 have HN5 := Lib.hid hn9
 have HW5 := Lib.hid (below_up HW4.out hb9)
 clear hn9 hb9
 refine hK _ _ ⟨⟨⟨w5, HW5.out⟩, rfl⟩, ?_⟩
 clear hK K
 refine tree_a rfl (fun K hK => ?_)
 go_simp
 refine (refMod_any (a + q - b) q a5 aq c5 cq (Nat.le_trans (dl_mono _ _ (Nat.sub_le _ _)) (plus_dl a q ha hq2)) hq w5 HN5.out (HQ.out.up (below_up HBZ.out HW5.out))).mono ?_
 rintro e w6 ⟨a6, c6, rfl, hn9, hb9⟩
 have HN6 := Lib.hid hn9
 have HW6 := Lib.hid (below_up HW5.out hb9)
 clear hn9 hb9
 refine hK _ _ ⟨⟨⟨w6, HW6.out⟩, rfl⟩, ?_⟩
 clear hK K
 refine tree_q rfl rfl ?_
 go_big_quiet_step (fail)
 refine wpQuiet_nil ?_
 refine tree_end ?_
 have HF := Lib.hid (below_up HBZ.out HW6.out)
 clear hov
 go_wp2_with fail
 go_ret
 exact ⟨a6, c6, rfl, HN6.out, HF.out⟩
end Go.Proofs.Ytjmeakfjfpnciaa
namespace Go.Proofs.Ytjmeakfjfpnciaa
open Go.RowKit
def lowR (q p x : Nat) : Nat := if q < x then p - x else x
theorem refLow_any (x sz q p : Nat) (ax aq ap : Option Addr) (cx cq cp : Nat) (hx : x ≤ p) (hp : p < DD ^ 16) (w : World) (hX : NumAt w ax x) (hQ : NumAt w aq q) (hP : NumAt w ap p) :
  Calls Try.prog 129 #[.agg #[.int .i64 (sz : Int), .slice aq (dl q) cq, .slice ap (dl p) cp], .slice ax (dl x) cx] w fun e w' => NumR w e w' (lowR q p x) := by
 have hx2 : x < DD ^ 16 := Nat.lt_of_le_of_lt hx hp
 have HX := Lib.hid hX
 have HQ := Lib.hid hQ
 have HP := Lib.hid hP
 clear hX hQ hP
 go_enter Try.func129, Try.ntmps129
 have hzz : Bx (w.alloc (.cells #[.int .i64 (sz : Int), .slice aq (dl q) cq, .slice ap (dl p) cp] 108)) w.heap.size 108 (gR sz q p aq ap cq cp) := Bx.new w _ _ _ rfl
 have hbz : Below w.heap.size w (w.alloc (.cells #[.int .i64 (sz : Int), .slice aq (dl q) cq, .slice ap (dl p) cp] 108)) := (Below.refl w.heap.size w).alloc (Nat.le_refl _) _
 obtain ⟨W2, hW2⟩ : ∃ W9 : World, (w.alloc (.cells #[.int .i64 (sz : Int), .slice aq (dl q) cq, .slice ap (dl p) cp] 108)) = W9 := ⟨_, rfl⟩
 rw [hW2] at hzz hbz
 have HZ := Lib.hid hzz
 have HBZ := Lib.hid hbz
 have hz_0 := HZ.out.cell (i := 0) rfl
 have hz_1 := HZ.out.cell (i := 1) rfl
 have hz_2 := HZ.out.cell (i := 2) rfl
 have hzl := HZ.out.lt
 clear hzz hbz
 go_wp2_with fail
 refine (refCompare_any x q ax aq cx cq (small_dl x hx2) W2 (HX.out.up HBZ.out) (HQ.out.up HBZ.out)).mono ?_
 rintro e w3 ⟨rfl, hb3⟩
 have HB3 := Lib.hid (below_up HBZ.out hb3)
 have HZ3 := Lib.hid (HZ.out.up hb3)
 clear hb3 hz_0 hz_1 hz_2 hzl HZ
 have hz_2 := HZ3.out.cell (i := 2) rfl
 by_cases hlow : q < x
 ·have HCI : Hid (cmpI x q = 1) := by show _ = _; unfold cmpI; rw [if_neg (by omega), if_pos hlow]
  have HL : Hid (p - x = lowR q p x) := by show _ = _; unfold lowR; rw [if_pos hlow]
  rw [HCI.out]
  go_wp2_with fail
  refine (refMinus_any p x (p - x) ap ax cp cx (small_dl p hp) (small_dl x hx2) (by omega) w3 (HP.out.up HB3.out) (HX.out.up HB3.out)).mono ?_
  rintro e w4 ⟨a4, c4, rfl, hn4, hb4⟩
  rw [HL.out] at hn4 ⊢
  have HN4 := Lib.hid hn4
  have HB4 := Lib.hid (below_up HB3.out hb4)
  clear hn4 hb4
  go_wp2_with fail
  go_ret
  exact ⟨a4, c4, rfl, HN4.out, HB4.out⟩
 ·have HL : Hid (x = lowR q p x) := by show _ = _; unfold lowR; rw [if_neg hlow]
  have hci : (decide (cmpI x q > 0)) = false := by unfold cmpI; simp only [decide_eq_false_iff_not]; split <;> simp <;> omega
  generalize cmpI x q = ci at *
  go_wp2_with fail
  go_ret
  exact ⟨ax, cx, by rw [← HL.out]; rfl, by rw [← HL.out]; exact HX.out.up HB3.out, HB3.out⟩
theorem refProduct_any (a b sz q p : Nat) (aa ab aq ap : Option Addr) (ca cb cq cp : Nat) (ha : a < DD ^ 16) (hb : b < DD ^ 16) (hp0 : 0 < p) (hp : p < DD ^ 16) (w : World) (hA : NumAt w aa a) (hB : NumAt w ab b) (hQ : NumAt w aq q) (hP : NumAt w ap p) :
  Calls Try.prog 73 #[.agg #[.int .i64 (sz : Int), .slice aq (dl q) cq, .slice ap (dl p) cp], .slice aa (dl a) ca, .slice ab (dl b) cb] w fun e w' => NumR w e w' (lowR q p (a * b % p)) := by
 have HA := Lib.hid hA
 have HBB := Lib.hid hB
 have HQ := Lib.hid hQ
 have HP := Lib.hid hP
 clear hA hB hQ hP
 go_enter Try.func73, Try.ntmps73
 have hzz : Bx (w.alloc (.cells #[.int .i64 (sz : Int), .slice aq (dl q) cq, .slice ap (dl p) cp] 108)) w.heap.size 108 (gR sz q p aq ap cq cp) := Bx.new w _ _ _ rfl
 have hbz : Below w.heap.size w (w.alloc (.cells #[.int .i64 (sz : Int), .slice aq (dl q) cq, .slice ap (dl p) cp] 108)) := (Below.refl w.heap.size w).alloc (Nat.le_refl _) _
 obtain ⟨W2, hW2⟩ : ∃ W9 : World, (w.alloc (.cells #[.int .i64 (sz : Int), .slice aq (dl q) cq, .slice ap (dl p) cp] 108)) = W9 := ⟨_, rfl⟩
 rw [hW2] at hzz hbz
 have HZ := Lib.hid hzz
 have HBZ := Lib.hid hbz
 have hz_0 := HZ.out.cell (i := 0) rfl
 have hz_1 := HZ.out.cell (i := 1) rfl
 have hz_2 := HZ.out.cell (i := 2) rfl
 have hzl := HZ.out.lt
 clear hzz hbz
 go_wp2_with fail
 have HW0 : Hid (Below W2.heap.size W2 W2.drew) := (Below.refl _ _).drew
 refine wp_region_tree (fun w' => ∃ E : Over W2, w' = E.w) (.qs [0, 1, 2, 4, 5] (.a 3 (.a 6 (.a 7 (.q 8 .done))))) (by kernel_rfl) (by kernel_rfl) (fun _ _ d _ _ h => by cases d <;> exact h) ⟨⟨_, HW0.out⟩, rfl⟩ ?_
 have hov := fun (E : Over W2) o => E.cell (b := w.heap.size) o hzl
 simp only [Tree.qs]
 repeat (refine tree_q rfl rfl ?_; go_big_quiet_step (fail); refine wpQuiet_nil ?_)
 refine tree_a rfl (fun K hK => ?_)
 go_simp
 refine (refTimes_any a b aa ab ca cb (small_dl a ha) (small_dl b hb) _ (HA.out.up (below_up HBZ.out HW0.out)) (HBB.out.up (below_up HBZ.out HW0.out))).mono ?_
 rintro e w4 ⟨a4, c4, rfl, hn9, hb9⟩
 have HN4 := Lib.hid hn9
 have HW4 := Lib.hid (below_up HW0.out hb9)
 clear hn9 hb9
 refine hK _ _ ⟨⟨⟨w4, HW4.out⟩, rfl⟩, ?_⟩
 clear hK K
 refine tree_a rfl (fun K hK => ?_)
 go_simp
 refine (refMod_any (a * b) p a4 ap c4 cp (lt32 a b ha hb) hp0 w4 HN4.out (HP.out.up (below_up HBZ.out HW4.out))).mono ?_
 rintro e w5 ⟨a5, c5, rfl, hn9, hb9⟩
 have HN5 := Lib.hid hn9
 have HW5 := Lib.hid (below_up HW4.out hb9)
 clear hn9 hb9
 refine hK _ _ ⟨⟨⟨w5, HW5.out⟩, rfl⟩, ?_⟩
 clear hK K
 refine tree_a rfl (fun K hK => ?_)
 go_simp
 refine (refLow_any (a * b % p) sz q p a5 aq ap c5 cq cp (Nat.le_of_lt (Nat.mod_lt _ hp0)) hp w5 HN5.out (HQ.out.up (below_up HBZ.out HW5.out)) (HP.out.up (below_up HBZ.out HW5.out))).mono ?_
 rintro e w6 ⟨a6, c6, rfl, hn9, hb9⟩
 have HN6 := Lib.hid hn9
 have HW6 := Lib.hid (below_up HW5.out hb9)
 clear hn9 hb9
 refine hK _ _ ⟨⟨⟨w6, HW6.out⟩, rfl⟩, ?_⟩
 clear hK K
 refine tree_q rfl rfl ?_
 go_big_quiet_step (fail)
 refine wpQuiet_nil ?_
 refine tree_end ?_
 have HF := Lib.hid (below_up HBZ.out HW6.out)
 clear hov
 go_wp2_with fail
 go_ret
 exact ⟨a6, c6, rfl, HN6.out, HF.out⟩
theorem refPow_any (a n sz q p : Nat) (aa an aq ap : Option Addr) (ca cn cq cp : Nat) (ha : a < DD ^ 16) (hn : dl n ≤ 65536) (hp0 : 1 < p) (hp : p < DD ^ 16) (w : World) (hA : NumAt w aa a) (hN : NumAt w an n) (hQ : NumAt w aq q) (hP : NumAt w ap p) :
  Calls Try.prog 74 #[.agg #[.int .i64 (sz : Int), .slice aq (dl q) cq, .slice ap (dl p) cp], .slice aa (dl a) ca, .slice an (dl n) cn] w fun e w' => NumR w e w' (lowR q p (a ^ n % p)) := by
 have HA := Lib.hid hA
 have HNN := Lib.hid hN
 have HQ := Lib.hid hQ
 have HP := Lib.hid hP
 clear hA hN hQ hP
 go_enter Try.func74, Try.ntmps74
 have hzz : Bx (w.alloc (.cells #[.int .i64 (sz : Int), .slice aq (dl q) cq, .slice ap (dl p) cp] 108)) w.heap.size 108 (gR sz q p aq ap cq cp) := Bx.new w _ _ _ rfl
 have hbz : Below w.heap.size w (w.alloc (.cells #[.int .i64 (sz : Int), .slice aq (dl q) cq, .slice ap (dl p) cp] 108)) := (Below.refl w.heap.size w).alloc (Nat.le_refl _) _
 obtain ⟨W2, hW2⟩ : ∃ W9 : World, (w.alloc (.cells #[.int .i64 (sz : Int), .slice aq (dl q) cq, .slice ap (dl p) cp] 108)) = W9 := ⟨_, rfl⟩
 rw [hW2] at hzz hbz
 have HZ := Lib.hid hzz
 have HBZ := Lib.hid hbz
 have hz_0 := HZ.out.cell (i := 0) rfl
 have hz_1 := HZ.out.cell (i := 1) rfl
 have hz_2 := HZ.out.cell (i := 2) rfl
 have hzl := HZ.out.lt
 clear hzz hbz
 go_wp2_with fail
 have HW0 : Hid (Below W2.heap.size W2 W2.drew) := (Below.refl _ _).drew
 refine wp_region_tree (fun w' => ∃ E : Over W2, w' = E.w) (.qs [0, 1, 2, 3, 4] (.a 5 (.a 6 (.q 7 .done)))) (by kernel_rfl) (by kernel_rfl) (fun _ _ d _ _ h => by cases d <;> exact h) ⟨⟨_, HW0.out⟩, rfl⟩ ?_
 have hov := fun (E : Over W2) o => E.cell (b := w.heap.size) o hzl
 simp only [Tree.qs]
 repeat (refine tree_q rfl rfl ?_; go_big_quiet_step (fail); refine wpQuiet_nil ?_)
 refine tree_a rfl (fun K hK => ?_)
 go_simp
 refine (refPower_any a n p aa an ap ca cn cp ha hn hp0 hp _ (HA.out.up (below_up HBZ.out HW0.out)) (HNN.out.up (below_up HBZ.out HW0.out)) (HP.out.up (below_up HBZ.out HW0.out))).mono ?_
 rintro e w4 ⟨a4, c4, rfl, hn9, hb9⟩
 have HN4 := Lib.hid hn9
 have HW4 := Lib.hid (below_up HW0.out hb9)
 clear hn9 hb9
 refine hK _ _ ⟨⟨⟨w4, HW4.out⟩, rfl⟩, ?_⟩
 clear hK K
 refine tree_a rfl (fun K hK => ?_)
 go_simp
 refine (refLow_any (a ^ n % p) sz q p a4 aq ap c4 cq cp (Nat.le_of_lt (Nat.mod_lt _ (by omega))) hp w4 HN4.out (HQ.out.up (below_up HBZ.out HW4.out)) (HP.out.up (below_up HBZ.out HW4.out))).mono ?_
 rintro e w5 ⟨a5, c5, rfl, hn9, hb9⟩
 have HN5 := Lib.hid hn9
 have HW5 := Lib.hid (below_up HW4.out hb9)
 clear hn9 hb9
 refine hK _ _ ⟨⟨⟨w5, HW5.out⟩, rfl⟩, ?_⟩
 clear hK K
 refine tree_q rfl rfl ?_
 go_big_quiet_step (fail)
 refine wpQuiet_nil ?_
 refine tree_end ?_
 have HF := Lib.hid (below_up HBZ.out HW5.out)
 clear hov
 go_wp2_with fail
 go_ret
 exact ⟨a5, c5, rfl, HN5.out, HF.out⟩
theorem refInv_any (a sz q p : Nat) (aa aq ap : Option Addr) (ca cq cp : Nat) (ha : a < DD ^ 16) (hq1 : 2 ≤ q) (hq : q < DD ^ 16) (w : World) (hA : NumAt w aa a) (hQ : NumAt w aq q) :
  Calls Try.prog 123 #[.agg #[.int .i64 (sz : Int), .slice aq (dl q) cq, .slice ap (dl p) cp], .slice aa (dl a) ca] w fun e w' => NumR w e w' (a ^ (q - 2) % q) := by
 have HA := Lib.hid hA
 have HQ := Lib.hid hQ
 clear hA hQ
 go_enter Try.func123, Try.ntmps123
 have hzz : Bx (w.alloc (.cells #[.int .i64 (sz : Int), .slice aq (dl q) cq, .slice ap (dl p) cp] 108)) w.heap.size 108 (gR sz q p aq ap cq cp) := Bx.new w _ _ _ rfl
 have hbz : Below w.heap.size w (w.alloc (.cells #[.int .i64 (sz : Int), .slice aq (dl q) cq, .slice ap (dl p) cp] 108)) := (Below.refl w.heap.size w).alloc (Nat.le_refl _) _
 obtain ⟨W2, hW2⟩ : ∃ W9 : World, (w.alloc (.cells #[.int .i64 (sz : Int), .slice aq (dl q) cq, .slice ap (dl p) cp] 108)) = W9 := ⟨_, rfl⟩
 rw [hW2] at hzz hbz
 have HZ := Lib.hid hzz
 have HBZ := Lib.hid hbz
 have hz_0 := HZ.out.cell (i := 0) rfl
 have hz_1 := HZ.out.cell (i := 1) rfl
 have hz_2 := HZ.out.cell (i := 2) rfl
 have hzl := HZ.out.lt
 clear hzz hbz
 go_wp2_with fail
 have HW0 : Hid (Below W2.heap.size W2 W2.drew) := (Below.refl _ _).drew
 refine wp_region_tree (fun w' => ∃ E : Over W2, w' = E.w) (.qs [0, 1, 2, 5, 6] (.a 3 (.a 4 (.a 7 (.q 8 .done))))) (by kernel_rfl) (by kernel_rfl) (fun _ _ d _ _ h => by cases d <;> exact h) ⟨⟨_, HW0.out⟩, rfl⟩ ?_
 have hov := fun (E : Over W2) o => E.cell (b := w.heap.size) o hzl
 simp only [Tree.qs]
 repeat (refine tree_q rfl rfl ?_; go_big_quiet_step (fail); refine wpQuiet_nil ?_)
 refine tree_a rfl (fun K hK => ?_)
 go_simp
 refine (refOf_any 2 (by omega) _).mono ?_
 rintro e w4 ⟨a4, c4, rfl, hn9, hb9⟩
 have HN4 := Lib.hid hn9
 have HW4 := Lib.hid (below_up HW0.out hb9)
 clear hn9 hb9
 refine hK _ _ ⟨⟨⟨w4, HW4.out⟩, rfl⟩, ?_⟩
 clear hK K
 refine tree_a rfl (fun K hK => ?_)
 go_simp
 refine (refMinus_any q 2 (q - 2) aq a4 cq c4 (small_dl q hq) (by decide) (by omega) w4 (HQ.out.up (below_up HBZ.out HW4.out)) HN4.out).mono ?_
 rintro e w5 ⟨a5, c5, rfl, hn9, hb9⟩
 have HN5 := Lib.hid hn9
 have HW5 := Lib.hid (below_up HW4.out hb9)
 clear hn9 hb9
 refine hK _ _ ⟨⟨⟨w5, HW5.out⟩, rfl⟩, ?_⟩
 clear hK K
 refine tree_a rfl (fun K hK => ?_)
 go_simp
 refine (refPower_any a (q - 2) q aa a5 aq ca c5 cq ha (Nat.le_trans (dl_of_lt (q - 2) 16 (by omega)) (by decide)) (by omega) hq w5 (HA.out.up (below_up HBZ.out HW5.out)) HN5.out (HQ.out.up (below_up HBZ.out HW5.out))).mono ?_
 rintro e w6 ⟨a6, c6, rfl, hn9, hb9⟩
 have HN6 := Lib.hid hn9
 have HW6 := Lib.hid (below_up HW5.out hb9)
 clear hn9 hb9
 refine hK _ _ ⟨⟨⟨w6, HW6.out⟩, rfl⟩, ?_⟩
 clear hK K
 refine tree_q rfl rfl ?_
 go_big_quiet_step (fail)
 refine wpQuiet_nil ?_
 refine tree_end ?_
 have HF := Lib.hid (below_up HBZ.out HW6.out)
 clear hov
 go_wp2_with fail
 go_ret
 exact ⟨a6, c6, rfl, HN6.out, HF.out⟩
end Go.Proofs.Ytjmeakfjfpnciaa
namespace Go.Proofs.Ytjmeakfjfpnciaa
open Go.RowKit
def isSc (q sz : Nat) (s : ByteArray) : Bool := decide (s.size = sz) && decide (numOf s < q)
def isEl (q sz : Nat) (s : ByteArray) : Bool := decide (s.size = sz) && decide (0 < numOf s) && decide (numOf s ≤ q)
theorem cmpI_lt (a b : Nat) : decide (cmpI a b < 0) = decide (a < b) := by unfold cmpI; split; · simp [*]
                                                                           ·split <;> simp <;> omega
theorem cmpI_le (a b : Nat) : decide (cmpI a b ≤ 0) = decide (a ≤ b) := by
 unfold cmpI
 split
 ·simp; omega
 ·split <;> simp <;> omega
theorem numOf_16 (s : ByteArray) (hs : s.size ≤ 32) : numOf s < DD ^ 16 := numOf_lt s hs
theorem refIsScalar_any (s : ByteArray) (sz q p : Nat) (aq ap : Option Addr) (cq cp : Nat) (hsz : sz ≤ 32) (w : World) (hQ : NumAt w aq q) :
  Calls Try.prog 124 #[.agg #[.int .i64 (sz : Int), .slice aq (dl q) cq, .slice ap (dl p) cp], .string s] w fun e w' => e = .returned (.bool (isSc q sz s)) ∧ Below w.heap.size w w' := by
 have HQ := Lib.hid hQ
 clear hQ
 by_cases hl : s.size = sz
 ·have HR : Hid (isSc q sz s = decide (numOf s < q)) := by show _ = _; unfold isSc; simp [hl]
  have hn := numOf_16 s (by omega)
  have hd : ((s.size : Int) == (sz : Int)) = true := by rw [hl]; simp
  have hss : s.size ≤ 1048576 := by omega
  clear hl
  go_enter Try.func124, Try.ntmps124
  have hzz : Bx (w.alloc (.cells #[.int .i64 (sz : Int), .slice aq (dl q) cq, .slice ap (dl p) cp] 108)) w.heap.size 108 (gR sz q p aq ap cq cp) := Bx.new w _ _ _ rfl
  have hbz : Below w.heap.size w (w.alloc (.cells #[.int .i64 (sz : Int), .slice aq (dl q) cq, .slice ap (dl p) cp] 108)) := (Below.refl w.heap.size w).alloc (Nat.le_refl _) _
  obtain ⟨W2, hW2⟩ : ∃ W9 : World, (w.alloc (.cells #[.int .i64 (sz : Int), .slice aq (dl q) cq, .slice ap (dl p) cp] 108)) = W9 := ⟨_, rfl⟩
  rw [hW2] at hzz hbz
  have HZ := Lib.hid hzz
  have HBZ := Lib.hid hbz
  have hz_0 := HZ.out.cell (i := 0) rfl
  have hz_1 := HZ.out.cell (i := 1) rfl
  have hz_2 := HZ.out.cell (i := 2) rfl
  have hzl := HZ.out.lt
  clear hzz hbz
  go_wp2_with fail
  have HW0 : Hid (Below W2.heap.size W2 W2.drew) := (Below.refl _ _).drew
  refine wp_region_tree (fun w' => ∃ E : Over W2, w' = E.w) (.qs [0, 1, 2, 3, 4, 5, 6, 8, 9] (.a 7 (.a 10 (.q 11 (.q 12 (.q 13 .done)))))) (by kernel_rfl) (by kernel_rfl) (fun _ _ d _ _ h => by cases d <;> exact h) ⟨⟨_, HW0.out⟩, rfl⟩ ?_
  have hov := fun (E : Over W2) o => E.cell (b := w.heap.size) o hzl
  simp only [Tree.qs]
  repeat (refine tree_q rfl rfl ?_; go_big_quiet_step (fail); refine wpQuiet_nil ?_)
  refine tree_a rfl (fun K hK => ?_)
  go_simp
  refine (refRead_any s hss _).mono ?_
  rintro e w4 ⟨a4, c4, rfl, hn9, hb9⟩
  have HN4 := Lib.hid hn9
  have HW4 := Lib.hid (below_up HW0.out hb9)
  clear hn9 hb9
  refine hK _ _ ⟨⟨⟨w4, HW4.out⟩, rfl⟩, ?_⟩
  clear hK K
  refine tree_a rfl (fun K hK => ?_)
  go_simp
  refine (refCompare_any (numOf s) q a4 aq c4 cq (small_dl _ hn) w4 HN4.out (HQ.out.up (below_up HBZ.out HW4.out))).mono ?_
  rintro e w5 ⟨rfl, hb9⟩
  have HW5 := Lib.hid (below_up HW4.out hb9)
  clear hb9
  refine hK _ _ ⟨⟨⟨w5, HW5.out⟩, rfl⟩, ?_⟩
  clear hK K
  repeat (refine tree_q rfl rfl ?_; go_big_quiet_step (fail); refine wpQuiet_nil ?_)
  refine tree_end ?_
  have HF := Lib.hid (below_up HBZ.out HW5.out)
  clear hov
  go_wp2_with fail
  go_ret
  exact ⟨by rw [HR.out, ← cmpI_lt]; rfl, HF.out⟩
 ·have HR : Hid (isSc q sz s = false) := by show _ = _; unfold isSc; simp [hl]
  have hd : ((s.size : Int) == (sz : Int)) = false := by simp; omega
  clear hl
  go_enter Try.func124, Try.ntmps124
  have hzz : Bx (w.alloc (.cells #[.int .i64 (sz : Int), .slice aq (dl q) cq, .slice ap (dl p) cp] 108)) w.heap.size 108 (gR sz q p aq ap cq cp) := Bx.new w _ _ _ rfl
  have hbz : Below w.heap.size w (w.alloc (.cells #[.int .i64 (sz : Int), .slice aq (dl q) cq, .slice ap (dl p) cp] 108)) := (Below.refl w.heap.size w).alloc (Nat.le_refl _) _
  obtain ⟨W2, hW2⟩ : ∃ W9 : World, (w.alloc (.cells #[.int .i64 (sz : Int), .slice aq (dl q) cq, .slice ap (dl p) cp] 108)) = W9 := ⟨_, rfl⟩
  rw [hW2] at hzz hbz
  have HZ := Lib.hid hzz
  have HBZ := Lib.hid hbz
  have hz_0 := HZ.out.cell (i := 0) rfl
  have hz_1 := HZ.out.cell (i := 1) rfl
  have hz_2 := HZ.out.cell (i := 2) rfl
  have hzl := HZ.out.lt
  clear hzz hbz
  go_wp2_with fail
  go_quiet (fail)
  go_wp2_with fail
  go_ret
  exact ⟨by rw [HR.out]; rfl, below_up HBZ.out (below_drewN (Below.refl _ _) _)⟩
theorem refIsElem_any (s : ByteArray) (sz q p : Nat) (aq ap : Option Addr) (cq cp : Nat) (hsz : sz ≤ 32) (w : World) (hQ : NumAt w aq q) :
  Calls Try.prog 72 #[.agg #[.int .i64 (sz : Int), .slice aq (dl q) cq, .slice ap (dl p) cp], .string s] w fun e w' => e = .returned (.bool (isEl q sz s)) ∧ Below w.heap.size w w' := by
 have HQ := Lib.hid hQ
 clear hQ
 by_cases hl : s.size = sz
 ·have hn := numOf_16 s (by omega)
  have hd : ((s.size : Int) == (sz : Int)) = true := by rw [hl]; simp
  have hss : s.size ≤ 1048576 := by omega
  by_cases h0 : 0 < numOf s
  ·have HR : Hid (isEl q sz s = decide (numOf s ≤ q)) := by show _ = _; unfold isEl; simp [hl, h0]
   have hdl := dl_pos _ (Nat.ne_of_gt h0)
   have hdd : decide ((dl (numOf s) : Int) > 0) = true := by simp; omega
   clear hl h0
   go_enter Try.func72, Try.ntmps72
   have hzz : Bx (w.alloc (.cells #[.int .i64 (sz : Int), .slice aq (dl q) cq, .slice ap (dl p) cp] 108)) w.heap.size 108 (gR sz q p aq ap cq cp) := Bx.new w _ _ _ rfl
   have hbz : Below w.heap.size w (w.alloc (.cells #[.int .i64 (sz : Int), .slice aq (dl q) cq, .slice ap (dl p) cp] 108)) := (Below.refl w.heap.size w).alloc (Nat.le_refl _) _
   obtain ⟨W2, hW2⟩ : ∃ W9 : World, (w.alloc (.cells #[.int .i64 (sz : Int), .slice aq (dl q) cq, .slice ap (dl p) cp] 108)) = W9 := ⟨_, rfl⟩
   rw [hW2] at hzz hbz
   have HZ := Lib.hid hzz
   have HBZ := Lib.hid hbz
   have hz_0 := HZ.out.cell (i := 0) rfl
   have hz_1 := HZ.out.cell (i := 1) rfl
   have hz_2 := HZ.out.cell (i := 2) rfl
   have hzl := HZ.out.lt
   clear hzz hbz
   go_wp2_with fail
   have HW0 : Hid (Below W2.heap.size W2 W2.drew) := (Below.refl _ _).drew
   refine wp_region_tree (fun w' => ∃ E : Over W2, w' = E.w) (.qs [0, 1, 2, 3, 4, 5, 6] (.a 7 (.q 8 (.q 9 (.q 10 (.q 11 (.q 12 (.q 14 (.q 15 (.a 13 (.a 16 (.q 17 (.q 18 (.q 19 .done)))))))))))))) (by kernel_rfl) (by kernel_rfl) (fun _ _ d _ _ h => by cases d <;> exact h) ⟨⟨_, HW0.out⟩, rfl⟩ ?_
   have hov := fun (E : Over W2) o => E.cell (b := w.heap.size) o hzl
   simp only [Tree.qs]
   repeat (refine tree_q rfl rfl ?_; go_big_quiet_step (fail); refine wpQuiet_nil ?_)
   refine tree_a rfl (fun K hK => ?_)
   go_simp
   refine (refRead_any s hss _).mono ?_
   rintro e w4 ⟨a4, c4, rfl, hn9, hb9⟩
   have HN4 := Lib.hid hn9
   have HW4 := Lib.hid (below_up HW0.out hb9)
   clear hn9 hb9
   refine hK _ _ ⟨⟨⟨w4, HW4.out⟩, rfl⟩, ?_⟩
   clear hK K
   repeat (refine tree_q rfl rfl ?_; go_big_quiet_step (fail); refine wpQuiet_nil ?_)
   refine tree_a rfl (fun K hK => ?_)
   go_simp
   refine (refRead_any s hss _).mono ?_
   rintro e w5 ⟨a5, c5, rfl, hn9, hb9⟩
   have HN5 := Lib.hid hn9
   have HW5 := Lib.hid (below_up HW4.out hb9)
   clear hn9 hb9
   refine hK _ _ ⟨⟨⟨w5, HW5.out⟩, rfl⟩, ?_⟩
   clear hK K
   refine tree_a rfl (fun K hK => ?_)
   go_simp
   refine (refCompare_any (numOf s) q a5 aq c5 cq (small_dl _ hn) w5 HN5.out (HQ.out.up (below_up HBZ.out HW5.out))).mono ?_
   rintro e w6 ⟨rfl, hb9⟩
   have HW6 := Lib.hid (below_up HW5.out hb9)
   clear hb9
   refine hK _ _ ⟨⟨⟨w6, HW6.out⟩, rfl⟩, ?_⟩
   clear hK K
   repeat (refine tree_q rfl rfl ?_; go_big_quiet_step (fail); refine wpQuiet_nil ?_)
   refine tree_end ?_
   have HF := Lib.hid (below_up HBZ.out HW6.out)
   clear hov
   go_wp2_with fail
   go_ret
   exact ⟨by rw [HR.out, ← cmpI_le]; rfl, HF.out⟩
  ·have HR : Hid (isEl q sz s = false) := by show _ = _; unfold isEl; simp [h0]
   have h00 : numOf s = 0 := by omega
   have hdl : dl (numOf s) = 0 := by rw [h00]; rfl
   clear hl h0 h00
   go_enter Try.func72, Try.ntmps72
   have hzz : Bx (w.alloc (.cells #[.int .i64 (sz : Int), .slice aq (dl q) cq, .slice ap (dl p) cp] 108)) w.heap.size 108 (gR sz q p aq ap cq cp) := Bx.new w _ _ _ rfl
   have hbz : Below w.heap.size w (w.alloc (.cells #[.int .i64 (sz : Int), .slice aq (dl q) cq, .slice ap (dl p) cp] 108)) := (Below.refl w.heap.size w).alloc (Nat.le_refl _) _
   obtain ⟨W2, hW2⟩ : ∃ W9 : World, (w.alloc (.cells #[.int .i64 (sz : Int), .slice aq (dl q) cq, .slice ap (dl p) cp] 108)) = W9 := ⟨_, rfl⟩
   rw [hW2] at hzz hbz
   have HZ := Lib.hid hzz
   have HBZ := Lib.hid hbz
   have hz_0 := HZ.out.cell (i := 0) rfl
   have hz_1 := HZ.out.cell (i := 1) rfl
   have hz_2 := HZ.out.cell (i := 2) rfl
   have hzl := HZ.out.lt
   clear hzz hbz
   go_wp2_with fail
   have HW0 : Hid (Below W2.heap.size W2 W2.drew) := (Below.refl _ _).drew
   refine wp_region_tree (fun w' => ∃ E : Over W2, w' = E.w) (.qs [0, 1, 2, 3, 4, 5, 6] (.a 7 (.q 8 (.q 9 (.q 10 (.q 11 (.q 12 (.q 14 (.q 15 (.a 13 (.a 16 (.q 17 (.q 18 (.q 19 .done)))))))))))))) (by kernel_rfl) (by kernel_rfl) (fun _ _ d _ _ h => by cases d <;> exact h) ⟨⟨_, HW0.out⟩, rfl⟩ ?_
   have hov := fun (E : Over W2) o => E.cell (b := w.heap.size) o hzl
   simp only [Tree.qs]
   repeat (refine tree_q rfl rfl ?_; go_big_quiet_step (fail); refine wpQuiet_nil ?_)
   refine tree_a rfl (fun K hK => ?_)
   go_simp
   refine (refRead_any s hss _).mono ?_
   rintro e w4 ⟨a4, c4, rfl, hn9, hb9⟩
   have HN4 := Lib.hid hn9
   have HW4 := Lib.hid (below_up HW0.out hb9)
   clear hn9 hb9
   refine hK _ _ ⟨⟨⟨w4, HW4.out⟩, rfl⟩, ?_⟩
   clear hK K
   repeat (refine tree_q rfl rfl ?_; go_big_quiet_step (fail); refine wpQuiet_nil ?_)
   refine tree_a rfl (fun K hK => ?_)
   go_simp
   refine hK _ _ ⟨⟨⟨w4, HW4.out⟩, rfl⟩, ?_⟩
   clear hK K
   refine tree_a rfl (fun K hK => ?_)
   go_simp
   refine hK _ _ ⟨⟨⟨w4, HW4.out⟩, rfl⟩, ?_⟩
   clear hK K
   repeat (refine tree_q rfl rfl ?_; go_big_quiet_step (fail); refine wpQuiet_nil ?_)
   refine tree_end ?_
   have HF := Lib.hid (below_up HBZ.out HW4.out)
   clear hov
   go_wp2_with fail
   go_ret
   exact ⟨by rw [HR.out]; rfl, HF.out⟩
 ·have HR : Hid (isEl q sz s = false) := by show _ = _; unfold isEl; simp [hl]
  have hd : ((s.size : Int) == (sz : Int)) = false := by simp; omega
  clear hl
  go_enter Try.func72, Try.ntmps72
  have hzz : Bx (w.alloc (.cells #[.int .i64 (sz : Int), .slice aq (dl q) cq, .slice ap (dl p) cp] 108)) w.heap.size 108 (gR sz q p aq ap cq cp) := Bx.new w _ _ _ rfl
  have hbz : Below w.heap.size w (w.alloc (.cells #[.int .i64 (sz : Int), .slice aq (dl q) cq, .slice ap (dl p) cp] 108)) := (Below.refl w.heap.size w).alloc (Nat.le_refl _) _
  obtain ⟨W2, hW2⟩ : ∃ W9 : World, (w.alloc (.cells #[.int .i64 (sz : Int), .slice aq (dl q) cq, .slice ap (dl p) cp] 108)) = W9 := ⟨_, rfl⟩
  rw [hW2] at hzz hbz
  have HZ := Lib.hid hzz
  have HBZ := Lib.hid hbz
  have hz_0 := HZ.out.cell (i := 0) rfl
  have hz_1 := HZ.out.cell (i := 1) rfl
  have hz_2 := HZ.out.cell (i := 2) rfl
  have hzl := HZ.out.lt
  clear hzz hbz
  go_wp2_with fail
  go_quiet (fail)
  go_wp2_with fail
  go_ret
  exact ⟨by rw [HR.out]; rfl, below_up HBZ.out (below_drewN (Below.refl _ _) _)⟩
end Go.Proofs.Ytjmeakfjfpnciaa
namespace Go.Proofs.Ytjmeakfjfpnciaa
open Go.RowKit
def ReadR (ok : Bool) (v : Value) (w : World) (e : Ending) (w' : World) : Prop := ∃ x : Nat, e = .returned (.tuple #[limbV x, .bool ok]) ∧ Below w.heap.size w w' ∧ (ok = true → limbV x = v)
theorem gScalar_any (G : GP) (ok : G.Ok) (gb : Nat) (s : ByteArray) (w : World) (hG : GroupAt w gb G) :
  Calls Try.prog 52 #[.pointer (some ⟨gb, 0, none⟩), .string s] w (ReadR (isSc G.q.m G.size s) (scV G (numOf s)) w) := by
 have no : isSc G.q.m G.size s = false → ∀ e w', (e = .returned (.tuple #[limbV 0, .bool false]) ∧ Below w.heap.size w w') → ReadR (isSc G.q.m G.size s) (scV G (numOf s)) w e w' := fun h e w' ⟨h1, h2⟩ => ⟨0, by rw [h]; exact h1, h2, fun hc => by rw [h] at hc; cases hc⟩
 by_cases h32 : 32 < s.size
 ·exact (gScalar_long G ok gb s h32 w hG).mono (no (by have := ok.size_le; unfold isSc; simp; omega))
 by_cases hl : s.size = G.size
 ·rcases Nat.lt_trichotomy (numOf s) G.q.m with hc | hc | hc
  ·refine (gScalar_yes G ok gb s hl hc w hG).mono ?_
   rintro e w' ⟨h1, h2⟩
   exact ⟨mont G.q.m (numOf s), by rw [show isSc G.q.m G.size s = true by unfold isSc; simp [hl, hc]]; exact h1, h2, fun _ => rfl⟩
  ·exact (gScalar_eq G ok gb s hl hc w hG).mono (no (by unfold isSc; simp; omega))
  ·exact (gScalar_gt G ok gb s hl hc w hG).mono (no (by unfold isSc; simp; omega))
 ·exact (gScalar_len G ok gb s (by omega) hl w hG).mono (no (by unfold isSc; simp [hl]))
theorem gElem_any (G : GP) (ok : G.Ok) (gb : Nat) (s : ByteArray) (w : World) (hG : GroupAt w gb G) :
  Calls Try.prog 66 #[.pointer (some ⟨gb, 0, none⟩), .string s] w (ReadR (isEl G.q.m G.size s) (elV G (numOf s)) w) := by
 have no : isEl G.q.m G.size s = false → ∀ e w', (e = .returned (.tuple #[limbV 0, .bool false]) ∧ Below w.heap.size w w') → ReadR (isEl G.q.m G.size s) (elV G (numOf s)) w e w' := fun h e w' ⟨h1, h2⟩ => ⟨0, by rw [h]; exact h1, h2, fun hc => by rw [h] at hc; cases hc⟩
 by_cases h32 : 32 < s.size
 ·exact (gElem_long G ok gb s h32 w hG).mono (no (by have := ok.size_le; unfold isEl; simp; omega))
 by_cases hl : s.size = G.size
 ·by_cases h0 : numOf s = 0
  ·exact (gElem_zero G ok gb s hl h0 w hG).mono (no (by unfold isEl; simp [h0]))
  rcases Nat.lt_trichotomy (numOf s) G.q.m with hc | hc | hc
  ·refine (gElem_lt G ok gb s hl (by omega) hc w hG).mono ?_
   rintro e w' ⟨h1, h2⟩
   exact ⟨mont G.p.m (numOf s), by rw [show isEl G.q.m G.size s = true by unfold isEl; simp [hl]; omega]; exact h1, h2, fun _ => rfl⟩
  ·refine (gElem_eq G ok gb s hl (by omega) hc w hG).mono ?_
   rintro e w' ⟨h1, h2⟩
   exact ⟨mont G.p.m (numOf s), by rw [show isEl G.q.m G.size s = true by unfold isEl; simp [hl]; omega]; exact h1, h2, fun _ => rfl⟩
  ·exact (gElem_gt G ok gb s hl hc w hG).mono (no (by unfold isEl; simp; omega))
 ·exact (gElem_len G ok gb s (by omega) hl w hG).mono (no (by unfold isEl; simp [hl]))
end Go.Proofs.Ytjmeakfjfpnciaa
namespace Go.Proofs.Ytjmeakfjfpnciaa
open Go.RowKit
def ReadM (b : Bool) (m : Nat) (w : World) (e : Ending) (w' : World) : Prop := ∃ x : Nat, e = .returned (.tuple #[limbV x, .bool b]) ∧ Below w.heap.size w w' ∧ (b = true → x = m)
theorem ReadR.m {b : Bool} {m : Nat} {w w' : World} {e : Ending} (h : ReadR b (limbV m) w e w') : ReadM b m w e w' := by
 obtain ⟨x, h1, h2, h3⟩ := h
 cases b with
 | true => exact ⟨m, by rw [h1, h3 rfl], h2, fun _ => rfl⟩
 | false => exact ⟨x, h1, h2, fun h => by cases h⟩
theorem gScalar_m (G : GP) (ok : G.Ok) (gb : Nat) (s : ByteArray) (b : Bool) (hb : isSc G.q.m G.size s = b) (w : World) (hG : GroupAt w gb G) :
  Calls Try.prog 52 #[.pointer (some ⟨gb, 0, none⟩), .string s] w (ReadM b (mont G.q.m (numOf s)) w) := by
 subst hb
 exact (gScalar_any G ok gb s w hG).mono fun e w' h => ReadR.m h
theorem gElem_m (G : GP) (ok : G.Ok) (gb : Nat) (s : ByteArray) (b : Bool) (hb : isEl G.q.m G.size s = b) (w : World) (hG : GroupAt w gb G) :
  Calls Try.prog 66 #[.pointer (some ⟨gb, 0, none⟩), .string s] w (ReadM b (mont G.p.m (numOf s)) w) := by
 subst hb
 exact (gElem_any G ok gb s w hG).mono fun e w' h => ReadR.m h
end Go.Proofs.Ytjmeakfjfpnciaa
namespace Go.Proofs.Ytjmeakfjfpnciaa
open Go.RowKit
end Go.Proofs.Ytjmeakfjfpnciaa
namespace Go.Proofs.Ytjmeakfjfpnciaa
open Go.RowKit
end Go.Proofs.Ytjmeakfjfpnciaa
namespace Go.Proofs.Ytjmeakfjfpnciaa
open Go.RowKit
end Go.Proofs.Ytjmeakfjfpnciaa
namespace Go.Proofs.Ytjmeakfjfpnciaa
def PM (p x y : Nat) : Prop := (p : Int) ∣ (x : Int) - y ∨ (p : Int) ∣ (x : Int) + y
theorem PM.refl (p x : Nat) : PM p x x := Or.inl ⟨0, by omega⟩
theorem PM.of_mod {p x y : Nat} (h : x % p = y % p) : PM p x y := Or.inl (by
 have h1 := Nat.div_add_mod x p
 have h2 := Nat.div_add_mod y p
 refine ⟨(x / p : Nat) - (y / p : Nat), ?_⟩
 have e1 : (x : Int) = p * (x / p : Nat) + (x % p : Nat) := by exact_mod_cast h1.symm
 have e2 : (y : Int) = p * (y / p : Nat) + (y % p : Nat) := by exact_mod_cast h2.symm
 rw [e1, e2, h]
 generalize ((x / p : Nat) : Int) = a
 generalize ((y / p : Nat) : Int) = b
 grind)
theorem PM.symm {p x y : Nat} (h : PM p x y) : PM p y x := by
 rcases h with ⟨c, h⟩ | ⟨c, h⟩
 ·exact Or.inl ⟨-c, by grind⟩
 ·exact Or.inr ⟨c, by grind⟩
theorem PM.trans {p x y z : Nat} (h : PM p x y) (g : PM p y z) : PM p x z := by
 rcases h with ⟨c, h⟩ | ⟨c, h⟩ <;> rcases g with ⟨d, g⟩ | ⟨d, g⟩
 ·exact Or.inl ⟨c + d, by grind⟩
 ·exact Or.inr ⟨c + d, by grind⟩
 ·exact Or.inr ⟨c - d, by grind⟩
 ·exact Or.inl ⟨c - d, by grind⟩
theorem PM.mul {p x y u v : Nat} (h : PM p x y) (g : PM p u v) : PM p (x * u) (y * v) := by
 have e1 : ((x * u : Nat) : Int) = x * u := by simp
 have e2 : ((y * v : Nat) : Int) = y * v := by simp
 unfold PM
 rw [e1, e2]
 rcases h with ⟨c, h⟩ | ⟨c, h⟩ <;> rcases g with ⟨d, g⟩ | ⟨d, g⟩
 ·exact Or.inl ⟨c * u + y * d, by grind⟩
 ·exact Or.inr ⟨c * u + y * d, by grind⟩
 ·exact Or.inr ⟨c * u - y * d, by grind⟩
 ·exact Or.inl ⟨c * u - y * d, by grind⟩
theorem PM.mod (p x : Nat) : PM p (x % p) x := PM.of_mod (Nat.mod_mod _ _)
theorem lowR_pm (q p x : Nat) (hx : x < p) : PM p (lowR q p x) x := by
 unfold lowR
 split
 ·exact Or.inr ⟨1, by omega⟩
 ·exact PM.refl _ _
theorem lowR_leq {q p x : Nat} (hp : p = 2 * q + 1) (hx : x < p) : lowR q p x ≤ q := by
 unfold lowR
 split <;> omega
theorem lowR_fix {q p x : Nat} (hx : x ≤ q) : lowR q p x = x := by
 unfold lowR
 rw [if_neg (by omega)]
theorem low_unique {q p x y : Nat} (hp : p = 2 * q + 1) (hx : x ≤ q) (hy : y ≤ q) (h : PM p x y) : x = y := by
 rcases h with h | h
 ·have := Int.eq_zero_of_dvd_of_natAbs_lt_natAbs h (by omega)
  omega
 ·have := Int.eq_zero_of_dvd_of_natAbs_lt_natAbs h (by omega)
  omega
theorem low_eq {q p x y : Nat} (_hq : 0 < q) (hp : p = 2 * q + 1) (h : PM p x y) : lowR q p (x % p) = lowR q p (y % p) := by
 have hx := Nat.mod_lt x (show 0 < p by omega)
 have hy := Nat.mod_lt y (show 0 < p by omega)
 exact low_unique hp (lowR_leq hp hx) (lowR_leq hp hy) ((((lowR_pm q p _ hx).trans (PM.mod p x)).trans h).trans (((lowR_pm q p _ hy).trans (PM.mod p y)).symm))
theorem pm_low {q p : Nat} (hp : 0 < p) (x : Nat) : PM p (lowR q p (x % p)) x := (lowR_pm q p _ (Nat.mod_lt x hp)).trans (PM.mod p x)
end Go.Proofs.Ytjmeakfjfpnciaa
namespace Go.Proofs.Ytjmeakfjfpnciaa
open Go.RowKit
def T (G : GP) (n : Nat) : ByteArray := textS n G.size
end Go.Proofs.Ytjmeakfjfpnciaa
namespace Go.Proofs.Ytjmeakfjfpnciaa
open Go.RowKit
def Lw (q p v : Nat) : Nat := lowR q p (v % p)
section
variable {q p : Nat} (hq : 0 < q) (hp : p = 2 * q + 1)
include hq hp
omit hq in
theorem Lw_pm (x : Nat) : PM p (Lw q p x) x := pm_low (by omega) x
omit hq in
theorem Lw_le (x : Nat) : Lw q p x ≤ q := lowR_leq hp (Nat.mod_lt _ (by omega))
omit hq in
theorem Lw_fix {x : Nat} (h : x ≤ q) : Lw q p x = x := by
 unfold Lw
 rw [Nat.mod_eq_of_lt (by omega), lowR_fix h]
omit hq in
end
end Go.Proofs.Ytjmeakfjfpnciaa
namespace Go.Proofs.Ytjmeakfjfpnciaa
open Go.RowKit
section
variable {G : GP}
theorem lowN_eq (ok : G.Ok) {x y : Nat} (h : PM G.p.m x y) : lowN G x = lowN G y := low_eq ok.q.pos ok.twice h
theorem lowN_pm (ok : G.Ok) (x : Nat) : PM G.p.m (lowN G x) x := Lw_pm ok.twice x
theorem lowN_le (ok : G.Ok) (x : Nat) : lowN G x ≤ G.q.m := Lw_le ok.twice x
theorem lowN_16 (ok : G.Ok) (x : Nat) : lowN G x < DD ^ 16 := Nat.lt_of_le_of_lt (lowN_le ok x) ok.q.lt4
theorem lowN_mul (ok : G.Ok) (x y : Nat) : lowN G (lowN G x * lowN G y) = lowN G (x * y) := lowN_eq ok (PM.mul (lowN_pm ok x) (lowN_pm ok y))
theorem lowN_fix (ok : G.Ok) {x : Nat} (h : x ≤ G.q.m) : lowN G x = x := Lw_fix ok.twice h
structure RG (W : World) (G : GP) (aq ap : Option Addr) : Prop where
 q : NumAt W aq G.q.m
 p : NumAt W ap G.p.m
theorem RG.up {W W' : World} {aq ap : Option Addr} (h : RG W G aq ap) (hb : Below W.heap.size W W') : RG W' G aq ap := ⟨h.q.up hb, h.p.up hb⟩
theorem q_dl (ok : G.Ok) {n : Nat} (h : n ≤ G.q.m) : dl n ≤ 65536 := Nat.le_trans (dl_of_lt n 16 (Nat.lt_of_le_of_lt h ok.q.lt4)) (by decide)
variable {aq ap : Option Addr} {cq cp : Nat}
theorem rProd (ok : G.Ok) {a b : Nat} {aa ab : Option Addr} {ca cb : Nat} (ha : a < DD ^ 16) (hb : b < DD ^ 16) (w : World) (hG : RG w G aq ap) (hA : NumAt w aa a) (hB : NumAt w ab b) :
  Calls Try.prog 73 #[.agg #[.int .i64 (G.size : Int), .slice aq (dl G.q.m) cq, .slice ap (dl G.p.m) cp], .slice aa (dl a) ca, .slice ab (dl b) cb] w fun e w' => NumR w e w' (lowN G (a * b)) :=
 refProduct_any a b G.size G.q.m G.p.m aa ab aq ap ca cb cq cp ha hb ok.p.pos ok.p.lt4 w hA hB hG.q hG.p
theorem rPow (ok : G.Ok) {a n : Nat} {aa an : Option Addr} {ca cn : Nat} (ha : a < DD ^ 16) (hn : dl n ≤ 65536) (w : World) (hG : RG w G aq ap) (hA : NumAt w aa a) (hN : NumAt w an n) :
  Calls Try.prog 74 #[.agg #[.int .i64 (G.size : Int), .slice aq (dl G.q.m) cq, .slice ap (dl G.p.m) cp], .slice aa (dl a) ca, .slice an (dl n) cn] w fun e w' => NumR w e w' (lowN G (a ^ n)) :=
 refPow_any a n G.size G.q.m G.p.m aa an aq ap ca cn cq cp ha hn (by have := ok.twice; have := ok.q.pos; omega) ok.p.lt4 w hA hN hG.q hG.p
theorem rIsSc (ok : G.Ok) (s : ByteArray) (w : World) (hG : RG w G aq ap) :
  Calls Try.prog 124 #[.agg #[.int .i64 (G.size : Int), .slice aq (dl G.q.m) cq, .slice ap (dl G.p.m) cp], .string s] w fun e w' => e = .returned (.bool (isSc G.q.m G.size s)) ∧ Below w.heap.size w w' :=
 refIsScalar_any s G.size G.q.m G.p.m aq ap cq cp ok.size_le w hG.q
theorem rIsEl (ok : G.Ok) (s : ByteArray) (w : World) (hG : RG w G aq ap) :
  Calls Try.prog 72 #[.agg #[.int .i64 (G.size : Int), .slice aq (dl G.q.m) cq, .slice ap (dl G.p.m) cp], .string s] w fun e w' => e = .returned (.bool (isEl G.q.m G.size s)) ∧ Below w.heap.size w w' :=
 refIsElem_any s G.size G.q.m G.p.m aq ap cq cp ok.size_le w hG.q
theorem rAdd (ok : G.Ok) {a b : Nat} {aa ab : Option Addr} {ca cb : Nat} (ha : a < DD ^ 16) (hb : b < DD ^ 16) (w : World) (hG : RG w G aq ap) (hA : NumAt w aa a) (hB : NumAt w ab b) :
  Calls Try.prog 125 #[.agg #[.int .i64 (G.size : Int), .slice aq (dl G.q.m) cq, .slice ap (dl G.p.m) cp], .slice aa (dl a) ca, .slice ab (dl b) cb] w fun e w' => NumR w e w' ((a + b) % G.q.m) :=
 refAdd_any a b G.size G.q.m G.p.m aa ab aq ap ca cb cq cp ha hb ok.q.pos w hA hB hG.q
theorem rMul (ok : G.Ok) {a b : Nat} {aa ab : Option Addr} {ca cb : Nat} (ha : a < DD ^ 16) (hb : b < DD ^ 16) (w : World) (hG : RG w G aq ap) (hA : NumAt w aa a) (hB : NumAt w ab b) :
  Calls Try.prog 121 #[.agg #[.int .i64 (G.size : Int), .slice aq (dl G.q.m) cq, .slice ap (dl G.p.m) cp], .slice aa (dl a) ca, .slice ab (dl b) cb] w fun e w' => NumR w e w' (a * b % G.q.m) :=
 refMul_any a b G.size G.q.m G.p.m aa ab aq ap ca cb cq cp ha hb ok.q.pos w hA hB hG.q
theorem rSub (ok : G.Ok) {a b : Nat} {aa ab : Option Addr} {ca cb : Nat} (ha : a < DD ^ 16) (hb : b ≤ G.q.m) (w : World) (hG : RG w G aq ap) (hA : NumAt w aa a) (hB : NumAt w ab b) :
  Calls Try.prog 122 #[.agg #[.int .i64 (G.size : Int), .slice aq (dl G.q.m) cq, .slice ap (dl G.p.m) cp], .slice aa (dl a) ca, .slice ab (dl b) cb] w fun e w' => NumR w e w' ((a + (G.q.m - b)) % G.q.m) :=
 by have h := refSub_any a b G.size G.q.m G.p.m aa ab aq ap ca cb cq cp ha hb ok.q.pos ok.q.lt4 w hA hB hG.q
    rwa [Nat.add_sub_assoc hb] at h
theorem rInv (ok : G.Ok) (h2 : 2 ≤ G.q.m) {a : Nat} {aa : Option Addr} {ca : Nat} (ha : a < DD ^ 16) (w : World) (hG : RG w G aq ap) (hA : NumAt w aa a) :
  Calls Try.prog 123 #[.agg #[.int .i64 (G.size : Int), .slice aq (dl G.q.m) cq, .slice ap (dl G.p.m) cp], .slice aa (dl a) ca] w fun e w' => NumR w e w' (a ^ (G.q.m - 2) % G.q.m) :=
 refInv_any a G.size G.q.m G.p.m aa aq ap ca cq cp ha h2 ok.q.lt4 w hA hG.q
theorem rText (ok : G.Ok) {n : Nat} {an : Option Addr} {cn : Nat} (hn : n < DD ^ 16) (w : World) (hN : NumAt w an n) :
  Calls Try.prog 61 #[.slice an (dl n) cn, .int .i64 (G.size : Int)] w fun e w' => e = .returned (.string (textS n G.size)) ∧ Below w.heap.size w w' :=
 refText_any n G.size an cn (small_dl n hn) (by have := ok.size_le; omega) w hN
end
end Go.Proofs.Ytjmeakfjfpnciaa
namespace Go.Proofs.Ytjmeakfjfpnciaa
open Go.RowKit
def Gives (v : Value) (w : World) (e : Ending) (w' : World) : Prop := e = .returned v ∧ Below w.heap.size w w'
theorem all_take_true {α : Type} {f : α → Bool} {l : List α} (h : (l.take l.length).all f = true) : l.all f = true := by rwa [List.take_length] at h
theorem all_not {α : Type} {f : α → Bool} {l : List α} {i : Nat} (hi : i < l.length) (h : f l[i] = false) : l.all f = false := by
 rw [List.all_eq_false]
 exact ⟨l[i], List.getElem_mem hi, by simp [h]⟩
theorem all_snoc {α : Type} {f : α → Bool} {l : List α} {i : Nat} (hi : i < l.length) (ht : (l.take i).all f = true) (h : f l[i] = true) : (l.take (i + 1)).all f = true := by
 rw [List.take_succ_eq_append_getElem hi, List.all_append, ht]
 simp [h]
section
variable {G : GP}
theorem isEl_size {q n : Nat} {s : ByteArray} (h : isEl q n s = true) : s.size = n := by
 unfold isEl at h
 simp only [Bool.and_eq_true, decide_eq_true_eq] at h
 exact h.1.1
theorem isSc_size {q n : Nat} {s : ByteArray} (h : isSc q n s = true) : s.size = n := by
 unfold isSc at h
 simp only [Bool.and_eq_true, decide_eq_true_eq] at h
 exact h.1
end
end Go.Proofs.Ytjmeakfjfpnciaa
namespace Go.Proofs.Ytjmeakfjfpnciaa
open Go.RowKit
def outP (x : Int) : Bool := decide (x < 0) || decide (255 < x)
def placesE (l : List Int) : Nat := if 16 < l.length then 3 else if l.length = 0 then 2 else if l.any outP = true then 4 else if l.Nodup then 0 else 10
def intV (x : Int) : Value := .int .i64 x
def thereC (s : List Int) : List Value := (List.range 256).map fun k : Nat => .bool (decide (((k : Nat) : Int) ∈ s))
theorem thereC_len (s : List Int) : (thereC s).length = 256 := by unfold thereC; rw [List.length_map, List.length_range]
theorem thereC_nil : thereC [] = List.replicate 256 (.bool false) := by
 unfold thereC
 have e : (fun k : Nat => Value.bool (decide ((k : Int) ∈ ([] : List Int)))) = fun _ => Value.bool false := by funext k; rw [decide_eq_false List.not_mem_nil]
 rw [e]
 exact (List.map_const' ..).trans (by rw [List.length_range])
theorem thereC_at (s : List Int) (k : Nat) (hk : k < 256) : (thereC s)[k]? = some (.bool (decide ((k : Int) ∈ s))) := by
 unfold thereC
 rw [List.getElem?_map, List.getElem?_range hk]
 rfl
theorem thereC_set (s : List Int) (k : Nat) (hk : k < 256) : (thereC s).set k (.bool true) = thereC (s ++ [(k : Int)]) := by
 refine List.ext_getElem? fun i => ?_
 by_cases hi : i < 256
 ·rw [thereC_at _ _ hi]
  by_cases e : k = i
  ·subst e
   rw [List.getElem?_set_self (by rw [thereC_len]; exact hk)]
   simp
  ·rw [List.getElem?_set_ne e, thereC_at _ _ hi]
   have : ((i : Int) ∈ s ++ [(k : Int)]) ↔ ((i : Int) ∈ s) := by simp; omega
   rw [decide_eq_decide.2 this]
 ·rw [List.getElem?_eq_none (by rw [List.length_set, thereC_len]; omega), List.getElem?_eq_none (by rw [thereC_len]; omega)]
theorem nodup_snoc {s : List Int} {x : Int} : (s ++ [x]).Nodup ↔ s.Nodup ∧ x ∉ s := by
 rw [List.nodup_append]
 constructor
 ·rintro ⟨h1, _, h3⟩
  exact ⟨h1, fun h => h3 x h x (List.mem_singleton.2 rfl) rfl⟩
 ·rintro ⟨h1, h2⟩
  refine ⟨h1, by simp, fun a ha b hb e => ?_⟩
  obtain rfl := List.mem_singleton.1 hb
  subst e
  exact h2 ha
theorem pl_out {l : List Int} {j : Nat} (h16 : ¬ 16 < l.length) (hj : j < l.length) (h : outP l[j] = true) : placesE l = 4 := by
 unfold placesE
 rw [if_neg h16, if_neg (by omega), if_pos (List.any_eq_true.2 ⟨_, List.getElem_mem hj, h⟩)]
theorem pl_end {l : List Int} (h16 : ¬ 16 < l.length) (h0 : l.length ≠ 0) (h : (l.take l.length).any outP = false) : placesE l = if l.Nodup then 0 else 10 := by
 unfold placesE
 rw [List.take_length] at h
 rw [if_neg h16, if_neg h0, h]
 rfl
theorem outP_false {x : Int} (h : outP x = false) : 0 ≤ x ∧ x ≤ 255 := by
 unfold outP at h
 simp at h
 exact h
theorem outP_cases (x : Int) : (x < 0 ∧ outP x = true) ∨ (255 < x ∧ ¬ x < 0 ∧ outP x = true) ∨ (∃ k : Nat, x = k ∧ k < 256 ∧ outP x = false) := by
 unfold outP
 by_cases h1 : x < 0
 ·exact Or.inl ⟨h1, by simp [h1]⟩
 ·by_cases h2 : 255 < x
  ·exact Or.inr (Or.inl ⟨h2, h1, by simp [h2]⟩)
  ·exact Or.inr (Or.inr ⟨x.toNat, by omega, by omega, by simp [h1, h2]⟩)
theorem any_snocP {l : List Int} {j : Nat} (hj : j < l.length) (h : (l.take j).any outP = false) (h1 : outP l[j] = false) : (l.take (j + 1)).any outP = false := by
 rw [List.take_succ_eq_append_getElem hj, List.any_append, h]; simp [h1]
theorem places_any (l : List Int) (n : Nat) (hn : l.length = n) (hm : n ≤ 1152921504606846975) (a : Option Addr) (c : Nat) (w : World) (hX : Sl w w.heap.size a (l.map intV)) :
  Calls Try.prog 58 #[.slice a n c] w fun e w' => e = .returned (.int .i64 (placesE l : Int)) ∧ Below w.heap.size w w' := by
 have HN := Lib.hid hn
 have HX := Lib.hid hX
 obtain ⟨z, hz⟩ : ∃ z, placesE l = z := ⟨_, rfl⟩
 rw [hz]
 by_cases h16 : 16 < n
 ·obtain rfl : z = 3 := by rw [← hz]; unfold placesE; rw [if_pos (by omega)]
  have hd : decide ((n : Int) > 16) = true := by simp; omega
  clear hn hX hz h16
  go_enter Try.func58, Try.ntmps58
  go_wp2_with fail
  go_ret
  exact ⟨rfl, Below.refl _ _⟩
 have hd : decide ((n : Int) > 16) = false := by simp; omega
 by_cases h0 : n = 0
 ·obtain rfl : z = 2 := by rw [← hz]; unfold placesE; rw [if_neg (by omega), if_pos (by omega)]
  have hd0 : ((n : Int) == 0) = true := by simp; omega
  clear hn hX hz h16 h0
  go_enter Try.func58, Try.ntmps58
  go_wp2_with fail
  go_ret
  exact ⟨rfl, Below.refl _ _⟩
 have hd0 : ((n : Int) == 0) = false := by simp; omega
 have HP := Lib.hid (fun (j : Nat) (hj : j < l.length) (h : outP l[j] = true) => (show z = 4 from hz ▸ pl_out (by omega) hj h))
 have HE := Lib.hid (fun (h : (l.take l.length).any outP = false) => (show z = if l.Nodup then 0 else 10 from hz ▸ pl_end (by omega) (by omega) h))
 have hn16 : n ≤ 16 := by omega
 clear hn hX hz h16 h0 hm
 have hz0 : Try.zeroCells187 = (thereC []).toArray := by rw [thereC_nil]; kernel_rfl
 go_enter Try.func58, Try.ntmps58
 go_upto_region 6 with (fail)
 obtain ⟨w1, hq1, hb9, hz9, Htb⟩ := new1 w 187 (thereC [])
 rw [hq1]
 clear hq1
 have HB := Lib.hid hb9
 have HZS := hz9
 clear hb9 hz9
 go_wp2_with fail
 clear hd hd0
 go_loopw [17, 4] (fun i b wr => ∃ j : Nat, j ≤ n ∧ i = .int .i64 j ∧ b = .bool (decide (¬ (l.take j).Nodup)) ∧ Hid (Below w.heap.size w wr) ∧ Hid ((l.take j).any outP = false) ∧ Hid (Bx wr w.heap.size 187 (thereC (l.take j)))) (fun i _ _ => n - (intOf i).toNat)
 case atStart => exact ⟨0, Nat.zero_le _, rfl, by simp, HB, rfl, Htb⟩
 case round =>
  clear HB Htb
  obtain ⟨j, hj, rfl, rfl, HB, HAL, Htb⟩ := hrel
  by_cases hjn : j < n
  ·have hjl : j < l.length := by rw [HN.out]; exact hjn
   obtain ⟨bl, ol, rfl, hbl, hc⟩ := (HX.out.up HB.out).at j (by rw [List.length_map]; exact hjl)
   rw [List.getElem_map] at hc
   unfold intV at hc
   have HTK := Lib.hid (List.take_succ_eq_append_getElem hjl)
   have HSN := Lib.hid (any_snocP hjl HAL.out)
   have HPJ := Lib.hid (HP.out j hjl)
   generalize l[j] = x at *
   rcases outP_cases x with ⟨h1, h2⟩ | ⟨h1, h1', h2⟩ | ⟨k, rfl, hk, h2⟩
   ·obtain rfl : z = 4 := HPJ.out h2
    clear h2
    go_wp2_with fail
    go_ret
    exact ⟨rfl, HB.out⟩
   ·obtain rfl : z = 4 := HPJ.out h2
    have h1'' : decide (x < 0) = false := decide_eq_false h1'
    have h1''' : decide (x > 255) = true := decide_eq_true h1
    clear h2 h1 h1'
    go_wp2_with fail
    go_ret
    exact ⟨rfl, HB.out⟩
   ·replace HSN := Lib.hid (HSN.out h2)
    have hcx := Htb.out.cell (thereC_at (l.take j) k hk)
    have HSE := Lib.hid (thereC_set (l.take j) k hk)
    have hd1 : decide ((k : Int) < 0) = false := by simp
    have hd2 : decide ((k : Int) > 255) = false := by simp; omega
    have hkk : k < 256 := hk
    clear h2
    have HND := Lib.hid (show (decide (¬ (l.take j).Nodup) || decide ((k : Int) ∈ l.take j)) = decide (¬ (l.take (j + 1)).Nodup) by
     rw [HTK.out]
     by_cases e1 : (l.take j).Nodup <;> by_cases e2 : (k : Int) ∈ l.take j <;> simp [nodup_snoc, e1, e2])
    obtain ⟨b3, hb3⟩ : ∃ b, decide (¬ (l.take (j + 1)).Nodup) = b := ⟨_, rfl⟩
    have HB3 := Lib.hid hb3
    rw [hb3] at HND
    clear hb3
    have HTW := Lib.hid (fun (W : World) (h : Bx W w.heap.size 187 ((thereC (l.take j)).set k (.bool true))) => show Bx W w.heap.size 187 (thereC (l.take (j + 1))) by rw [HTK.out, ← HSE.out]; exact h)
    clear HTK HSE HAL HPJ
    generalize decide (¬ (l.take j).Nodup) = b1 at *
    generalize decide ((k : Int) ∈ l.take j) = b2 at *
    generalize l.take j = l2 at *
    have HSW := Lib.hid (show w.heap.size < wr.heap.size from Htb.out.lt)
    replace HZS := sz HZS HSW.out
    cases b1
    ·obtain rfl : b2 = b3 := HND.out
     have f2_tb := Htb.out.frozen
     obtain ⟨w2, hq2, hg9, hz9, hx9⟩ := put1 Htb k (.bool true) _ rfl
     replace HB := hbg HB hg9 (by have g0 := HZS.out; omega)
     replace HZS := sz HZS hz9.out
     replace Htb := hx9
     clear hx9 hg9 hz9
     go_wp2_with fail
     go_roundw
     case rel => exact ⟨j + 1, by omega, by go_num, by rw [HB3.out], HB, HSN, Lib.hid (HTW.out _ Htb.out)⟩
     case measure => simp [intOf]; omega
    ·obtain rfl : true = b3 := HND.out
     have f2_tb := Htb.out.frozen
     obtain ⟨w2, hq2, hg9, hz9, hx9⟩ := put1 Htb k (.bool true) _ rfl
     replace HB := hbg HB hg9 (by have g0 := HZS.out; omega)
     replace HZS := sz HZS hz9.out
     replace Htb := hx9
     clear hx9 hg9 hz9
     go_wp2_with fail
     go_roundw
     case rel => exact ⟨j + 1, by omega, by go_num, by rw [HB3.out], HB, HSN, Lib.hid (HTW.out _ Htb.out)⟩
     case measure => simp [intOf]; omega
  ·have hjn' : j = n := by omega
   subst hjn'
   have hz := HE.out (by rw [HN.out]; exact HAL.out)
   rw [List.take_of_length_le (by rw [HN.out]; exact Nat.le_refl _)]
   by_cases hnd : l.Nodup
   ·obtain rfl : z = 0 := by rw [hz, if_pos hnd]
    rw [decide_eq_false (fun h => h hnd)]
    clear hz
    go_wp2_with fail
    go_ret
    exact ⟨rfl, HB.out⟩
   ·obtain rfl : z = 10 := by rw [hz, if_neg hnd]
    rw [decide_eq_true hnd]
    clear hz
    go_wp2_with fail
    go_ret
    exact ⟨rfl, HB.out⟩
end Go.Proofs.Ytjmeakfjfpnciaa
namespace Go.Proofs.Ytjmeakfjfpnciaa
open Go.RowKit
theorem infoScalar : (Try.prog.info? 98).map (fun i => (i.zero, i.size, i.bytes)) = some (some (.agg #[.int .u64 0, .int .u64 0, .int .u64 0, .int .u64 0]), 4, 32) := by kernel_rfl
theorem infoElem : (Try.prog.info? 117).map (fun i => (i.zero, i.size, i.bytes)) = some (some (.agg #[.int .u64 0, .int .u64 0, .int .u64 0, .int .u64 0]), 4, 32) := by kernel_rfl
def limC (m : Nat) (s : ByteArray) : List Value := [.int .u64 (dig (mont m (numOf s)) 0 : Int), .int .u64 (dig (mont m (numOf s)) 1 : Int), .int .u64 (dig (mont m (numOf s)) 2 : Int), .int .u64 (dig (mont m (numOf s)) 3 : Int)]
theorem limC_len (m : Nat) (s : ByteArray) : (limC m s).length = 4 := rfl
end Go.Proofs.Ytjmeakfjfpnciaa
namespace Go.Proofs.Ytjmeakfjfpnciaa
open Go.RowKit
def readE (f : ByteArray → Bool) (bad : Nat) (l : List Int) (xs : List ByteArray) : Nat := if placesE l ≠ 0 then placesE l else if l.length = xs.length then if xs.all f = true then 0 else bad else 2
def ReadOk (G : GP) (m : Nat) (n0 : Nat) (xs : List ByteArray) (w' : World) (p v : Value) : Prop := ∃ gb a c, p = .pointer (some ⟨gb, 0, none⟩) ∧ v = .slice a xs.length c ∧ GroupAt w' gb G ∧ Sl w' w'.heap.size a (xs.flatMap (limC m)) ∧ n0 ≤ gb
def ReadQ (G : GP) (m : Nat) (er : Nat) (xs : List ByteArray) (w : World) (e : Ending) (w' : World) : Prop :=
 Below w.heap.size w w' ∧ ∃ p v, e = .returned (.tuple #[p, v, .int .i64 (er : Int)]) ∧ (er = 0 → ReadOk G m w.heap.size xs w' p v)
theorem readQ_bad (G : GP) (m : Nat) {er : Nat} (h : er ≠ 0) (xs : List ByteArray) {w w' : World} (hb : Below w.heap.size w w') : ReadQ G m er xs w (.returned (.tuple #[.pointer none, .slice none 0 0, .int .i64 (er : Int)])) w' :=
 ⟨hb, _, _, rfl, fun e => absurd e h⟩
theorem readSc_none (k : Int) (hk : ¬ (1 ≤ k ∧ k ≤ 3)) (v1 v2 : Value) (bad : Nat) (G : GP) (m : Nat) (xs : List ByteArray) (w : World) :
  Calls Try.prog 51 #[.int .i64 k, v1, v2, .func (.func 52) #[] #[], .int .i64 (bad : Int)] w (ReadQ G m 1 xs w) := by
 go_enter Try.func51, Try.ntmps51
 go_wp2_with fail
 refine (of_none k hk _).mono ?_
 rintro e w2 ⟨rfl, rfl⟩
 go_wp2_with fail
 simp [bodyPost, results, Try.results51, go_sem]
 exact readQ_bad G m (by decide) xs (Below.refl _ _)
theorem readSc_some (k : Nat) (h1 : 1 ≤ k) (h3 : k ≤ 3) (l : List Int) (n : Nat) (hn : l.length = n) (hnm : n ≤ 1152921504606846975) (xs : List ByteArray) (m : Nat) (hm : xs.length = m) (bad : Nat) (hbad : bad ≠ 0) (al ax : Option Addr) (cl cx : Nat) (w : World) (hL : Sl w w.heap.size al (l.map intV)) (hX : Sl w w.heap.size ax (xs.map Value.string)) :
  Calls Try.prog 51 #[.int .i64 (k : Int), .slice al n cl, .slice ax m cx, .func (.func 52) #[] #[], .int .i64 (bad : Int)] w (ReadQ (grp k) (grp k).q.m (readE (isSc (grp k).q.m (grp k).size) bad l xs) xs w) := by
 have OK := Lib.hid (grp_ok k h1 h3)
 have HL := Lib.hid hL
 have HX := Lib.hid hX
 have HM := Lib.hid hm
 have HBAD := Lib.hid hbad
 have HPC := Lib.hid (fun W h => places_any l n hn hnm al cl W h)
 obtain ⟨er, her⟩ : ∃ er, readE (isSc (grp k).q.m (grp k).size) bad l xs = er := ⟨_, rfl⟩
 rw [her]
 unfold readE at her
 obtain ⟨z, hz⟩ : ∃ z, placesE l = z := ⟨_, rfl⟩
 have HZ16 := Lib.hid (show z = 0 → n ≤ 16 from fun e => by
  rw [e] at hz
  unfold placesE at hz
  by_cases h : 16 < l.length
  ·rw [if_pos h] at hz; cases hz
  ·omega)
 rw [hz] at her HPC
 rw [hn, hm] at her
 clear hL hX hm hz hn hnm hbad
 by_cases hz0 : z = 0
 case neg =>
  rw [if_pos hz0] at her
  subst her
  have hd : ((z : Int) != 0) = true := by simp; omega
  have HZ0 := Lib.hid hz0
  clear hz0
  go_enter Try.func51, Try.ntmps51
  go_wp2_with fail
  refine (of_some k h1 h3 w).mono ?_
  rintro e w1 ⟨rfl, hg9, hb9⟩
  have HB := Lib.hid hb9
  have HZS := Lib.hid hb9.size
  have HG := Lib.hid hg9
  clear hg9 hb9
  have HsG := Lib.hid HG.out.lt
  replace HZS := sz HZS HsG.out
  go_wp2_with fail
  refine (HPC.out w1 (HL.out.up HB.out)).mono ?_
  rintro e w2 ⟨rfl, hb9⟩
  replace HG := Lib.hid (HG.out.up hb9)
  replace HB := hbu HB hb9
  replace HZS := sz HZS hb9.size
  clear hb9
  go_wp2_with fail
  simp [bodyPost, results, Try.results51, go_sem]
  exact readQ_bad _ _ HZ0.out xs HB.out
 subst hz0
 rw [if_neg (by decide)] at her
 have hn16 := HZ16.out rfl
 clear HZ16
 by_cases hnm : n = m
 case neg =>
  rw [if_neg hnm] at her
  subst her
  have hd : ((n : Int) != (m : Int)) = true := by simp; omega
  clear hnm
  go_enter Try.func51, Try.ntmps51
  go_wp2_with fail
  refine (of_some k h1 h3 w).mono ?_
  rintro e w1 ⟨rfl, hg9, hb9⟩
  have HB := Lib.hid hb9
  have HZS := Lib.hid hb9.size
  have HG := Lib.hid hg9
  clear hg9 hb9
  have HsG := Lib.hid HG.out.lt
  replace HZS := sz HZS HsG.out
  go_wp2_with fail
  refine (HPC.out w1 (HL.out.up HB.out)).mono ?_
  rintro e w2 ⟨rfl, hb9⟩
  replace HG := Lib.hid (HG.out.up hb9)
  replace HB := hbu HB hb9
  replace HZS := sz HZS hb9.size
  clear hb9
  go_wp2_with fail
  simp [bodyPost, results, Try.results51, go_sem]
  exact readQ_bad _ _ (by decide) xs HB.out
 subst hnm
 rw [if_pos rfl] at her
 have hd : ((n : Int) != (n : Int)) = false := by simp
 obtain ⟨b, hb⟩ : ∃ b, xs.all (isSc (grp k).q.m (grp k).size) = b := ⟨_, rfl⟩
 have HNO := Lib.hid (fun (h : ¬ xs.all (isSc (grp k).q.m (grp k).size) = true) => show er = bad by rw [← her, hb, if_neg (by rw [← hb]; exact h)])
 have HYES := Lib.hid (fun (h : xs.all (isSc (grp k).q.m (grp k).size) = true) => show er = 0 by rw [← her, hb, if_pos (by rw [← hb]; exact h)])
 clear her hb
 go_enter Try.func51, Try.ntmps51
 go_wp2_with fail
 refine (of_some k h1 h3 w).mono ?_
 rintro e w1 ⟨rfl, hg9, hb9⟩
 have HB := Lib.hid hb9
 have HZS := Lib.hid hb9.size
 have HG := Lib.hid hg9
 clear hg9 hb9
 have HsG := Lib.hid HG.out.lt
 replace HZS := sz HZS HsG.out
 go_wp2_with fail
 refine (HPC.out w1 (HL.out.up HB.out)).mono ?_
 rintro e w2 ⟨rfl, hb9⟩
 replace HG := Lib.hid (HG.out.up hb9)
 replace HB := hbu HB hb9
 replace HZS := sz HZS hb9.size
 clear hb9
 have BL := Lib.hid (Below.refl w2.heap.size w2)
 go_wp2_with fail
 clear hd
 go_loopw [36, 15] (fun i v wr => ∃ (j : Nat) (g : Option Addr) (c9 : Nat), j ≤ n ∧ i = .int .i64 j ∧ v = .slice g j c9 ∧ Hid (Below w2.heap.size w2 wr) ∧ Hid ((xs.take j).all (isSc (grp k).q.m (grp k).size) = true) ∧ Hid (RowO w2.heap.size wr 98 4 (.slice g j c9) j ((xs.take j).flatMap (limC (grp k).q.m)))) (fun i _ _ => n - (intOf i).toNat)
 case atStart => exact ⟨0, none, 0, Nat.zero_le _, rfl, rfl, BL, rfl, RowO.nil⟩
 case round =>
  obtain ⟨j, g, c9, hj, rfl, rfl, HL9, HAL, Hr⟩ := hrel
  have hb9 := HL9.out
  clear HL9
  replace HG := Lib.hid (HG.out.up hb9)
  replace BL := hbu BL hb9
  replace HB := hbu HB hb9
  replace HZS := sz HZS hb9.size
  clear hb9
  by_cases hjn : j < n
  ·have hjl : j < xs.length := by rw [HM.out]; exact hjn
   obtain ⟨bl, ol, rfl, hbl, hc⟩ := (HX.out.up HB.out).at j (by simpa using hjl)
   rw [List.getElem_map] at hc
   obtain ⟨bj, hbj⟩ : ∃ x, isSc (grp k).q.m (grp k).size xs[j] = x := ⟨_, rfl⟩
   have HBJ := Lib.hid hbj
   clear hbj
   go_wp2_with fail
   refine (gScalar_m (grp k) OK.out _ xs[j] bj HBJ.out wr HG.out).mono ?_
   rintro e w3 ⟨sx, rfl, hb9, hx9⟩
   replace HG := Lib.hid (HG.out.up hb9)
   replace Hr := Lib.hid (Hr.out.up hb9)
   replace BL := hbu BL hb9
   replace HB := hbu HB hb9
   replace HZS := sz HZS hb9.size
   have HSX := Lib.hid hx9
   clear hx9 hb9
   unfold limbV
   obtain ⟨w4, hq4, hb9, hz9, Hbp⟩ := new1 w3 98 [.int .u64 (dig (sx) 0 : Int), .int .u64 (dig (sx) 1 : Int), .int .u64 (dig (sx) 2 : Int), .int .u64 (dig (sx) 3 : Int)]
   replace HG := Lib.hid (HG.out.up hb9)
   replace Hr := Lib.hid (Hr.out.up hb9)
   replace BL := hbu BL hb9
   replace HB := hbu HB hb9
   replace HZS := sz HZS hz9.out
   clear hb9 hz9
   have bp_ := Hbp.out.c4
   cases bj
   ·obtain rfl := HNO.out (by rw [all_not hjl HBJ.out]; decide)
    go_wp2_with fail
    clear hq4
    simp [bodyPost, results, Try.results51, go_sem]
    exact readQ_bad _ _ HBAD.out xs HB.out
   ·obtain rfl := HSX.out rfl
    obtain ⟨i9, hi9, hz90, hz91, hz92⟩ := info_parts infoScalar
    go_wp2_with (at_builtin; refine wpList_pushR (w2.heap.size) w4 (by have g0 := HZS.out; omega) rfl _ _ 91 rfl 98 i9 _ 4 32 Try.underlying91 hi9 hz90 hz91 hz92 rfl (by omega) ((.slice g j c9)) (j) (((xs.take j).flatMap (limC (grp k).q.m))) rfl Hr.out _ _ _ rfl rfl rfl (by simp [Value.oneCell']) (by omega) (by unfold maxLen; omega) ?_)
    intro g5 c5 w5 hown9 hg9
    clear hq4 bp_ Hbp
    have hb9 := Below.grown HB.out hg9 (by have g0 := HZS.out; omega) (fun q hq => Nat.le_trans (show w.heap.size ≤ w2.heap.size by have g0 := HZS.out; omega) (Hr.out.lt q hq).1)
    replace HG := Lib.hid (HG.out.grown hg9 (fun e9 => by have a1 := Hr.out.lt _ e9; have g0 := HZS.out; omega))
    replace BL := Lib.hid (Below.grown BL.out hg9 (by have g0 := HZS.out; omega) (fun q hq => Nat.le_trans (show w2.heap.size ≤ w2.heap.size by have g0 := HZS.out; omega) (Hr.out.lt q hq).1))
    replace HZS := sz HZS hg9.size
    clear Hr HB
    have Hr := Lib.hid hown9
    have HB := Lib.hid hb9
    clear hb9 hown9 hg9 hi9 hz90 hz91 hz92
    go_wp2_with fail
    go_roundw
    case rel => exact ⟨j + 1, _, _, by omega, by go_num, rfl, BL, all_snoc hjl HAL.out HBJ.out, Hr.out.eq (flat_snoc _ _ _ hjl).symm rfl⟩
    case measure => simp [intOf]; omega
  ·have hjn' : j = n := by omega
   subst hjn'
   obtain rfl : er = 0 := HYES.out (by rw [← HM.out] at HAL; exact all_take_true HAL.out)
   rw [List.take_of_length_le (by rw [HM.out]; exact Nat.le_refl _)] at Hr
   go_wp2_with fail
   simp [bodyPost, results, Try.results51, go_sem]
   exact ⟨HB.out, _, _, rfl, fun _ => ⟨_, _, _, rfl, by rw [HM.out], HG.out, Hr.out.sl, Nat.le_refl _⟩⟩
theorem readEl_none (k : Int) (hk : ¬ (1 ≤ k ∧ k ≤ 3)) (v1 v2 : Value) (bad : Nat) (G : GP) (m : Nat) (xs : List ByteArray) (w : World) :
  Calls Try.prog 65 #[.int .i64 k, v1, v2, .func (.func 66) #[] #[], .int .i64 (bad : Int)] w (ReadQ G m 1 xs w) := by
 go_enter Try.func65, Try.ntmps65
 go_wp2_with fail
 refine (of_none k hk _).mono ?_
 rintro e w2 ⟨rfl, rfl⟩
 go_wp2_with fail
 simp [bodyPost, results, Try.results65, go_sem]
 exact readQ_bad G m (by decide) xs (Below.refl _ _)
theorem readEl_some (k : Nat) (h1 : 1 ≤ k) (h3 : k ≤ 3) (l : List Int) (n : Nat) (hn : l.length = n) (hnm : n ≤ 1152921504606846975) (xs : List ByteArray) (m : Nat) (hm : xs.length = m) (bad : Nat) (hbad : bad ≠ 0) (al ax : Option Addr) (cl cx : Nat) (w : World) (hL : Sl w w.heap.size al (l.map intV)) (hX : Sl w w.heap.size ax (xs.map Value.string)) :
  Calls Try.prog 65 #[.int .i64 (k : Int), .slice al n cl, .slice ax m cx, .func (.func 66) #[] #[], .int .i64 (bad : Int)] w (ReadQ (grp k) (grp k).p.m (readE (isEl (grp k).q.m (grp k).size) bad l xs) xs w) := by
 have OK := Lib.hid (grp_ok k h1 h3)
 have HL := Lib.hid hL
 have HX := Lib.hid hX
 have HM := Lib.hid hm
 have HBAD := Lib.hid hbad
 have HPC := Lib.hid (fun W h => places_any l n hn hnm al cl W h)
 obtain ⟨er, her⟩ : ∃ er, readE (isEl (grp k).q.m (grp k).size) bad l xs = er := ⟨_, rfl⟩
 rw [her]
 unfold readE at her
 obtain ⟨z, hz⟩ : ∃ z, placesE l = z := ⟨_, rfl⟩
 have HZ16 := Lib.hid (show z = 0 → n ≤ 16 from fun e => by
  rw [e] at hz
  unfold placesE at hz
  by_cases h : 16 < l.length
  ·rw [if_pos h] at hz; cases hz
  ·omega)
 rw [hz] at her HPC
 rw [hn, hm] at her
 clear hL hX hm hz hn hnm hbad
 by_cases hz0 : z = 0
 case neg =>
  rw [if_pos hz0] at her
  subst her
  have hd : ((z : Int) != 0) = true := by simp; omega
  have HZ0 := Lib.hid hz0
  clear hz0
  go_enter Try.func65, Try.ntmps65
  go_wp2_with fail
  refine (of_some k h1 h3 w).mono ?_
  rintro e w1 ⟨rfl, hg9, hb9⟩
  have HB := Lib.hid hb9
  have HZS := Lib.hid hb9.size
  have HG := Lib.hid hg9
  clear hg9 hb9
  have HsG := Lib.hid HG.out.lt
  replace HZS := sz HZS HsG.out
  go_wp2_with fail
  refine (HPC.out w1 (HL.out.up HB.out)).mono ?_
  rintro e w2 ⟨rfl, hb9⟩
  replace HG := Lib.hid (HG.out.up hb9)
  replace HB := hbu HB hb9
  replace HZS := sz HZS hb9.size
  clear hb9
  go_wp2_with fail
  simp [bodyPost, results, Try.results65, go_sem]
  exact readQ_bad _ _ HZ0.out xs HB.out
 subst hz0
 rw [if_neg (by decide)] at her
 have hn16 := HZ16.out rfl
 clear HZ16
 by_cases hnm : n = m
 case neg =>
  rw [if_neg hnm] at her
  subst her
  have hd : ((n : Int) != (m : Int)) = true := by simp; omega
  clear hnm
  go_enter Try.func65, Try.ntmps65
  go_wp2_with fail
  refine (of_some k h1 h3 w).mono ?_
  rintro e w1 ⟨rfl, hg9, hb9⟩
  have HB := Lib.hid hb9
  have HZS := Lib.hid hb9.size
  have HG := Lib.hid hg9
  clear hg9 hb9
  have HsG := Lib.hid HG.out.lt
  replace HZS := sz HZS HsG.out
  go_wp2_with fail
  refine (HPC.out w1 (HL.out.up HB.out)).mono ?_
  rintro e w2 ⟨rfl, hb9⟩
  replace HG := Lib.hid (HG.out.up hb9)
  replace HB := hbu HB hb9
  replace HZS := sz HZS hb9.size
  clear hb9
  go_wp2_with fail
  simp [bodyPost, results, Try.results65, go_sem]
  exact readQ_bad _ _ (by decide) xs HB.out
 subst hnm
 rw [if_pos rfl] at her
 have hd : ((n : Int) != (n : Int)) = false := by simp
 obtain ⟨b, hb⟩ : ∃ b, xs.all (isEl (grp k).q.m (grp k).size) = b := ⟨_, rfl⟩
 have HNO := Lib.hid (fun (h : ¬ xs.all (isEl (grp k).q.m (grp k).size) = true) => show er = bad by rw [← her, hb, if_neg (by rw [← hb]; exact h)])
 have HYES := Lib.hid (fun (h : xs.all (isEl (grp k).q.m (grp k).size) = true) => show er = 0 by rw [← her, hb, if_pos (by rw [← hb]; exact h)])
 clear her hb
 go_enter Try.func65, Try.ntmps65
 go_wp2_with fail
 refine (of_some k h1 h3 w).mono ?_
 rintro e w1 ⟨rfl, hg9, hb9⟩
 have HB := Lib.hid hb9
 have HZS := Lib.hid hb9.size
 have HG := Lib.hid hg9
 clear hg9 hb9
 have HsG := Lib.hid HG.out.lt
 replace HZS := sz HZS HsG.out
 go_wp2_with fail
 refine (HPC.out w1 (HL.out.up HB.out)).mono ?_
 rintro e w2 ⟨rfl, hb9⟩
 replace HG := Lib.hid (HG.out.up hb9)
 replace HB := hbu HB hb9
 replace HZS := sz HZS hb9.size
 clear hb9
 have BL := Lib.hid (Below.refl w2.heap.size w2)
 go_wp2_with fail
 clear hd
 go_loopw [36, 15] (fun i v wr => ∃ (j : Nat) (g : Option Addr) (c9 : Nat), j ≤ n ∧ i = .int .i64 j ∧ v = .slice g j c9 ∧ Hid (Below w2.heap.size w2 wr) ∧ Hid ((xs.take j).all (isEl (grp k).q.m (grp k).size) = true) ∧ Hid (RowO w2.heap.size wr 117 4 (.slice g j c9) j ((xs.take j).flatMap (limC (grp k).p.m)))) (fun i _ _ => n - (intOf i).toNat)
 case atStart => exact ⟨0, none, 0, Nat.zero_le _, rfl, rfl, BL, rfl, RowO.nil⟩
 case round =>
  obtain ⟨j, g, c9, hj, rfl, rfl, HL9, HAL, Hr⟩ := hrel
  have hb9 := HL9.out
  clear HL9
  replace HG := Lib.hid (HG.out.up hb9)
  replace BL := hbu BL hb9
  replace HB := hbu HB hb9
  replace HZS := sz HZS hb9.size
  clear hb9
  by_cases hjn : j < n
  ·have hjl : j < xs.length := by rw [HM.out]; exact hjn
   obtain ⟨bl, ol, rfl, hbl, hc⟩ := (HX.out.up HB.out).at j (by simpa using hjl)
   rw [List.getElem_map] at hc
   obtain ⟨bj, hbj⟩ : ∃ x, isEl (grp k).q.m (grp k).size xs[j] = x := ⟨_, rfl⟩
   have HBJ := Lib.hid hbj
   clear hbj
   go_wp2_with fail
   refine (gElem_m (grp k) OK.out _ xs[j] bj HBJ.out wr HG.out).mono ?_
   rintro e w3 ⟨sx, rfl, hb9, hx9⟩
   replace HG := Lib.hid (HG.out.up hb9)
   replace Hr := Lib.hid (Hr.out.up hb9)
   replace BL := hbu BL hb9
   replace HB := hbu HB hb9
   replace HZS := sz HZS hb9.size
   have HSX := Lib.hid hx9
   clear hx9 hb9
   unfold limbV
   obtain ⟨w4, hq4, hb9, hz9, Hbp⟩ := new1 w3 117 [.int .u64 (dig (sx) 0 : Int), .int .u64 (dig (sx) 1 : Int), .int .u64 (dig (sx) 2 : Int), .int .u64 (dig (sx) 3 : Int)]
   replace HG := Lib.hid (HG.out.up hb9)
   replace Hr := Lib.hid (Hr.out.up hb9)
   replace BL := hbu BL hb9
   replace HB := hbu HB hb9
   replace HZS := sz HZS hz9.out
   clear hb9 hz9
   have bp_ := Hbp.out.c4
   cases bj
   ·obtain rfl := HNO.out (by rw [all_not hjl HBJ.out]; decide)
    go_wp2_with fail
    clear hq4
    simp [bodyPost, results, Try.results65, go_sem]
    exact readQ_bad _ _ HBAD.out xs HB.out
   ·obtain rfl := HSX.out rfl
    obtain ⟨i9, hi9, hz90, hz91, hz92⟩ := info_parts infoElem
    go_wp2_with (at_builtin; refine wpList_pushR (w2.heap.size) w4 (by have g0 := HZS.out; omega) rfl _ _ 114 rfl 117 i9 _ 4 32 Try.underlying114 hi9 hz90 hz91 hz92 rfl (by omega) ((.slice g j c9)) (j) (((xs.take j).flatMap (limC (grp k).p.m))) rfl Hr.out _ _ _ rfl rfl rfl (by simp [Value.oneCell']) (by omega) (by unfold maxLen; omega) ?_)
    intro g5 c5 w5 hown9 hg9
    clear hq4 bp_ Hbp
    have hb9 := Below.grown HB.out hg9 (by have g0 := HZS.out; omega) (fun q hq => Nat.le_trans (show w.heap.size ≤ w2.heap.size by have g0 := HZS.out; omega) (Hr.out.lt q hq).1)
    replace HG := Lib.hid (HG.out.grown hg9 (fun e9 => by have a1 := Hr.out.lt _ e9; have g0 := HZS.out; omega))
    replace BL := Lib.hid (Below.grown BL.out hg9 (by have g0 := HZS.out; omega) (fun q hq => Nat.le_trans (show w2.heap.size ≤ w2.heap.size by have g0 := HZS.out; omega) (Hr.out.lt q hq).1))
    replace HZS := sz HZS hg9.size
    clear Hr HB
    have Hr := Lib.hid hown9
    have HB := Lib.hid hb9
    clear hb9 hown9 hg9 hi9 hz90 hz91 hz92
    go_wp2_with fail
    go_roundw
    case rel => exact ⟨j + 1, _, _, by omega, by go_num, rfl, BL, all_snoc hjl HAL.out HBJ.out, Hr.out.eq (flat_snoc _ _ _ hjl).symm rfl⟩
    case measure => simp [intOf]; omega
  ·have hjn' : j = n := by omega
   subst hjn'
   obtain rfl : er = 0 := HYES.out (by rw [← HM.out] at HAL; exact all_take_true HAL.out)
   rw [List.take_of_length_le (by rw [HM.out]; exact Nat.le_refl _)] at Hr
   go_wp2_with fail
   simp [bodyPost, results, Try.results65, go_sem]
   exact ⟨HB.out, _, _, rfl, fun _ => ⟨_, _, _, rfl, by rw [HM.out], HG.out, Hr.out.sl, Nat.le_refl _⟩⟩
end Go.Proofs.Ytjmeakfjfpnciaa
namespace Go.Proofs.Ytjmeakfjfpnciaa
open Go.RowKit
section
variable {P : Program} {ops : Array Oper} {S : World → Prop} {Q : Exit → Act → World → Prop} {k : Nat} {md : Region.Mode}
def wpAnyK (P : Program) (md : Region.Mode) (ops : Array Oper) (Q : Exit → Act → World → Prop) (S : World → Prop) (k : Nat) : Nat → Array Bool → Act → World → Prop
 | 0, listed, a, w => Region.ready md ops listed = [] ∧ Q .normal a w
 | fuel + 1, listed, a, w =>
  (Region.ready md ops listed = [] → Q .normal a w) ∧
  ∀ i ∈ Region.ready md ops listed, wpOp P ops Q i (fun a' w' => ((listed.setIfInBounds i true).getD k false = false → S w') ∧ wpAnyK P md ops Q S k fuel (listed.setIfInBounds i true) a' w') a w
theorem any_of_K : ∀ (fuel : Nat) (listed : Array Bool) (a : Act) (w : World), wpAnyK P md ops Q S k fuel listed a w → wpAny P md ops Q fuel listed a w
 | 0, _, _, _, h => h
 | fuel + 1, _, _, _, h => ⟨h.1, fun i hi => wpOp_mono (fun a' w' h' => any_of_K fuel _ a' w' h'.2) (h.2 i hi)⟩
theorem anyK_first {SS : World → Prop} (C : Array Bool → Prop) {i : Nat} {oi : Oper} {v : Value} (hi : ops[i]? = some oi) (hik : i ≠ k) (hsel : ∀ (j : Nat) (o : Oper) cs b, ops[j]? = some o → o.op ≠ .select cs b)
  (hQ : ∀ c a w, Q (.panic c) (a.put oi.dst v) w → Q (.panic c) a w)
  (hstep : ∀ listed j, C listed → i ∈ Region.ready md ops listed → j ∈ Region.ready md ops listed → j ≠ i → C (listed.setIfInBounds j true))
  (hSS : ∀ listed w, C listed → (listed.getD k false = false → S w) → SS w) :
  ∀ (fuel : Nat) (listed : Array Bool) (a : Act) (w : World),
   (∀ j oj, ops[j]? = some oj → j ≠ i → listed.getD j true = false → (∀ e ∈ oj.after, Region.binds md e = true → e.on ≠ i) → oi.apart ops oj = true) →
   i ∈ Region.ready md ops listed → C listed → YieldsIf P ops SS oi v a → (listed.getD k false = false → S w) →
   wpAnyK P md ops Q S k fuel (listed.setIfInBounds i true) (a.put oi.dst v) w → wpAnyK P md ops Q S k (fuel + 1) listed a w := by
 intro fuel
 induction fuel with
 | zero =>
  intro listed a w _ hr hC hy hS H
  refine ⟨fun h => (by rw [h] at hr; cases hr), fun j hj => ?_⟩
  by_cases hji : j = i
  ·subst hji; exact hy.wpOp hi (hSS listed w hC hS) ⟨fun h => hS (by rwa [getD_set_ne false hik] at h), H⟩
  ·have := ready_mono hj hji
   rw [H.1] at this
   cases this
 | succ fuel ih =>
  intro listed a w hfree hr hC hy hS H
  refine ⟨fun h => (by rw [h] at hr; cases hr), fun j hj => ?_⟩
  by_cases hji : j = i
  ·subst hji; exact hy.wpOp hi (hSS listed w hC hS) ⟨fun h => hS (by rwa [getD_set_ne false hik] at h), H⟩
  ·have h1 := H.2 j (ready_mono hj hji)
   obtain ⟨hjun, oj, hoj, hall⟩ := mem_ready.1 hj
   have hnot : ∀ e ∈ oj.after, Region.binds md e = true → e.on ≠ i := fun e he hb heq => by
    have h1 := hall e he hb
    have h0 := (mem_ready.1 hr).1
    rw [heq] at h1
    rcases Nat.lt_or_ge i listed.size with h' | h'
    ·simp [h'] at h0 h1; rw [h0] at h1; cases h1
    ·simp [Array.getElem?_eq_none h'] at h1
   have h2 := wpOp_putIf hoj (hfree j oj hoj hji hjun hnot) (fun cs b => hsel i oi cs b hi) (fun cs b => hsel j oj cs b hoj) hQ hy h1
   have hfree' : ∀ m om, ops[m]? = some om → m ≠ i → (listed.setIfInBounds j true).getD m true = false →
     (∀ e ∈ om.after, Region.binds md e = true → e.on ≠ i) → oi.apart ops om = true := fun m om hm hmi hun hno => by
    refine hfree m om hm hmi ?_ hno
    by_cases hjm : j = m
    ·subst hjm; exact hjun
    ·rw [getD_set_ne true hjm] at hun; exact hun
   have hkk : ((listed.setIfInBounds i true).setIfInBounds j true).getD k false = (listed.setIfInBounds j true).getD k false := by
    rw [Array.setIfInBounds_comm _ _ (Ne.symm hji), getD_set_ne false hik]
   have hr' := ready_mono hr (Ne.symm hji)
   refine wpOp_mono (fun a' w' h3 => ?_) h2
   have hS' : (listed.setIfInBounds j true).getD k false = false → S w' := fun h => h3.2.1 (by rw [hkk]; exact h)
   refine ⟨hS', ih (listed.setIfInBounds j true) a' w' hfree' hr' (hstep listed j hC hr hj hji) h3.1 hS' ?_⟩
   rw [Array.setIfInBounds_comm _ _ hji]
   exact h3.2.2
def chainB (md : Region.Mode) (ops : Array Oper) : Nat → List Nat → Bool
 | _, [] => true
 | i, j :: l => (match ops[j]? with | some o => o.after.any (fun e => Region.binds md e && e.on == i) | none => false) && chainB md ops j l
theorem chain_step {i j : Nat} {l : List Nat} {listed : Array Bool} : ∀ (i : Nat) (l : List Nat), chainB md ops i l = true → listed.getD i true = false → (∀ c ∈ l, listed.getD c true = false) → j ∈ Region.ready md ops listed → j ∉ l
 | _, [], _, _, _, _ => by simp
 | i, c :: l, hB, h0, hl, hj => by
  simp only [chainB, Bool.and_eq_true] at hB
  have ih := chain_step (listed := listed) (j := j) (i := i) (l := l) c l hB.2 (hl c (by simp)) (fun d hd => hl d (by simp [hd])) hj
  intro hm
  rcases List.mem_cons.1 hm with rfl | hm
  ·obtain ⟨_, o, ho, hall⟩ := mem_ready.1 hj
   have hB1 := hB.1
   rw [ho] at hB1
   simp only [Array.any_eq_true', Bool.and_eq_true, beq_iff_eq] at hB1
   obtain ⟨e, he, hb, hon⟩ := hB1
   have h1 := hall e he hb
   rw [hon] at h1
   rcases Nat.lt_or_ge i listed.size with h' | h'
   ·simp [h'] at h0 h1; rw [h0] at h1; cases h1
   ·simp [Array.getElem?_eq_none h'] at h1
  ·exact ih hm
inductive TreeK where
 | done : TreeK
 | q : Nat → TreeK → TreeK
 | e : Nat → List Nat → TreeK → TreeK
 | a : Nat → TreeK → TreeK
 | z : Nat → TreeK → TreeK
 | two : Nat → TreeK → Nat → TreeK → TreeK
def TreeK.qs : List Nat → TreeK → TreeK
 | [], t => t
 | i :: l, t => .q i (TreeK.qs l t)
def TreeK.size : TreeK → Nat
 | .done => 0
 | .q _ r => r.size + 1
 | .e _ _ r => r.size + 1
 | .a _ r => r.size + 1
 | .z _ r => r.size + 1
 | .two _ r _ _ => r.size + 1
def wpTreeK (P : Program) (ops : Array Oper) (S : World → Prop) (Q : Exit → Act → World → Prop) (k : Nat) : TreeK → Act → World → Prop
 | .done, a, w => Q .normal a w
 | .q i r, a, w => match ops[i]? with
  | none => False
  | some o => easyOp o = true ∧ wpQuiet P ops (fun _ => True) (fun a' => wpTreeK P ops S Q k r a' w) [o] a
 | .e i _ r, a, w => match ops[i]? with
  | none => False
  | some o => easyOp o = true ∧ wpQuiet P ops S (fun a' => wpTreeK P ops S Q k r a' w) [o] a
 | .a i r, a, w => wpOp P ops Q i (fun a' w' => (i ≠ k → S w') ∧ wpTreeK P ops S Q k r a' w') a w
 | .z i r, a, w => wpOp P ops Q i (fun a' w' => wpTreeK P ops S Q k r a' w') a w
 | .two i r j s, a, w => wpOp P ops Q i (fun a' w' => (i ≠ k → S w') ∧ wpTreeK P ops S Q k r a' w') a w ∧ wpOp P ops Q j (fun a' w' => (j ≠ k → S w') ∧ wpTreeK P ops S Q k s a' w') a w
def treeKB (md : Region.Mode) (ops : Array Oper) (k : Nat) : TreeK → Array Bool → Bool
 | .done, listed => (Region.ready md ops listed).isEmpty
 | .q i r, listed => (Region.ready md ops listed).contains i && Region.free md ops listed i && !(i == k) && treeKB md ops k r (listed.setIfInBounds i true)
 | .e i ch r, listed => (Region.ready md ops listed).contains i && Region.free md ops listed i && !(i == k) && chainB md ops i (ch ++ [k]) && (ch ++ [k]).all (fun c => !listed.getD c true) && !(i ∈ ch ++ [k]) && treeKB md ops k r (listed.setIfInBounds i true)
 | .a i r, listed => decide (Region.ready md ops listed = [i]) && treeKB md ops k r (listed.setIfInBounds i true)
 | .z i r, listed => decide (Region.ready md ops listed = [i]) && listed.getD k false && !(i == k) && treeKB md ops k r (listed.setIfInBounds i true)
 | .two i r j s, listed => decide (Region.ready md ops listed = [i, j]) && decide (r.size = s.size) && treeKB md ops k r (listed.setIfInBounds i true) && treeKB md ops k s (listed.setIfInBounds j true)
theorem listed_k {listed : Array Bool} {i : Nat} (hi : i ∈ Region.ready md ops listed) {w' : World} (h : i ≠ k → S w') : (listed.setIfInBounds i true).getD k false = false → S w' := by
 intro h9
 refine h (fun e => ?_)
 subst e
 have h0 := (mem_ready.1 hi).1
 rcases Nat.lt_or_ge i listed.size with h' | h'
 ·simp [h'] at h9
 ·simp [h'] at h0
theorem K_of_tree (hsel : Region.noSelect ops = true) (hQ : ∀ c a d v w, Q (.panic c) (a.put d v) w → Q (.panic c) a w) :
  ∀ (t : TreeK) (listed : Array Bool) (a : Act) (w : World), (listed.getD k false = false → S w) → treeKB md ops k t listed = true → wpTreeK P ops S Q k t a w → wpAnyK P md ops Q S k t.size listed a w
 | .done, listed, a, w, _, hB, h => ⟨by simpa [treeKB] using hB, h⟩
 | .q i r, listed, a, w, hS, hB, h => by
  unfold wpTreeK at h
  split at h
  ·cases h
  ·rename_i o ho
   obtain ⟨hp, hq⟩ := h
   obtain ⟨v, hy, hK⟩ := yieldsIf_easy hp hq
   simp only [treeKB, Bool.and_eq_true, Bool.not_eq_true', beq_eq_false_iff_ne] at hB
   exact anyK_first (fun _ => True) ho hB.1.2 (Region.noSelect_spec hsel) (fun c a w hq => hQ c a _ _ w hq) (fun _ _ _ _ _ _ => trivial) (fun _ _ _ _ => trivial) _ listed a w (Region.free_spec ho hB.1.1.2) (by simpa using hB.1.1.1) trivial hy hS
    (K_of_tree hsel hQ r _ _ w (fun h9 => hS (by rwa [getD_set_ne false hB.1.2] at h9)) hB.2 hK)
 | .e i ch r, listed, a, w, hS, hB, h => by
  unfold wpTreeK at h
  split at h
  ·cases h
  ·rename_i o ho
   obtain ⟨hp, hq⟩ := h
   obtain ⟨v, hy, hK⟩ := yieldsIf_easy hp hq
   simp only [treeKB, Bool.and_eq_true, Bool.not_eq_true', beq_eq_false_iff_ne, List.all_eq_true, decide_eq_false_iff_not] at hB
   obtain ⟨⟨⟨⟨⟨⟨h1, h2⟩, h3⟩, h4⟩, h5⟩, h6⟩, h7⟩ := hB
   refine anyK_first (SS := S) (fun l => ∀ c ∈ ch ++ [k], l.getD c true = false) ho h3 (Region.noSelect_spec hsel) (fun c a w hq => hQ c a _ _ w hq) ?_ ?_ _ listed a w (Region.free_spec ho h2) (by simpa using h1) h5 hy hS
    (K_of_tree hsel hQ r _ _ w (fun h9 => hS (by rwa [getD_set_ne false h3] at h9)) h7 hK)
   ·intro l j hC hr hj hji c hc
    have hn := chain_step (i := i) (l := ch) (j := j) i (ch ++ [k]) h4 (mem_ready.1 hr).1 hC hj
    rw [getD_set_ne true (fun e => hn (by rw [e]; exact hc))]
    exact hC c hc
   ·intro l w' hC h9
    refine h9 ?_
    have := hC k (by simp)
    rcases Nat.lt_or_ge k l.size with h' | h'
    ·simp [h'] at this ⊢; exact this
    ·simp [h'] at this
 | .a i r, listed, a, w, hS, hB, h => by
  simp only [treeKB, Bool.and_eq_true, decide_eq_true_eq] at hB
  unfold wpTreeK at h
  refine ⟨fun h9 => (by rw [hB.1] at h9; cases h9), fun j hj => ?_⟩
  have hj' : j = i := by rw [hB.1] at hj; simpa using hj
  subst hj'
  exact wpOp_mono (fun a' w' ⟨hS', h'⟩ => ⟨listed_k hj hS', K_of_tree hsel hQ r _ a' w' (listed_k hj hS') hB.2 h'⟩) h
 | .z i r, listed, a, w, hS, hB, h => by
  simp only [treeKB, Bool.and_eq_true, decide_eq_true_eq, Bool.not_eq_true', beq_eq_false_iff_ne] at hB
  unfold wpTreeK at h
  refine ⟨fun h9 => (by rw [hB.1.1.1] at h9; cases h9), fun j hj => ?_⟩
  have hj' : j = i := by rw [hB.1.1.1] at hj; simpa using hj
  subst hj'
  have hk : ∀ W : World, (listed.setIfInBounds j true).getD k false = false → S W := fun W h9 => by
   rw [getD_set_ne false hB.1.2, hB.1.1.2] at h9
   cases h9
  exact wpOp_mono (fun a' w' h' => ⟨hk w', K_of_tree hsel hQ r _ a' w' (hk w') hB.2 h'⟩) h
 | .two i r j s, listed, a, w, hS, hB, h => by
  simp only [treeKB, Bool.and_eq_true, decide_eq_true_eq] at hB
  obtain ⟨⟨⟨h1, h2⟩, h3⟩, h4⟩ := hB
  unfold wpTreeK at h
  refine ⟨fun h9 => (by rw [h1] at h9; cases h9), fun m hm => ?_⟩
  rcases (by rw [h1] at hm; simpa using hm : m = i ∨ m = j) with rfl | rfl
  ·exact wpOp_mono (fun a' w' ⟨hS', h'⟩ => ⟨listed_k hm hS', K_of_tree hsel hQ r _ a' w' (listed_k hm hS') h3 h'⟩) h.1
  ·exact wpOp_mono (fun a' w' ⟨hS', h'⟩ => ⟨listed_k hm hS', by rw [h2]; exact K_of_tree hsel hQ s _ a' w' (listed_k hm hS') h4 h'⟩) h.2
theorem wp_region_treek {id : Nat} {a : Act} {w : World} {l : List Oper} (S : World → Prop) (k : Nat) (t : TreeK) (hm : P.follows .mixedOrders = true)
  (hB : (Region.noSelect l.toArray && decide (t.size = l.toArray.size) && treeKB .any l.toArray k t (Array.replicate l.toArray.size false)) = true)
  (hQ : ∀ c a d v w, Q (.panic c) (a.put d v) w → Q (.panic c) a w) (hS : S w.drew) (h : wpTreeK P l.toArray S Q k t a w.drew) : (Code.region id l.toArray true).wp P Q a w := by
 simp only [Bool.and_eq_true, decide_eq_true_eq] at hB
 refine wp_region_any hm (any_of_K (S := S) (k := k) _ _ _ _ ?_)
 have := K_of_tree hB.1.1 hQ t _ a _ (fun _ => hS) hB.2 h
 rw [hB.1.2] at this
 exact this
theorem treek_q {l : List Oper} {i : Nat} {r : TreeK} {o : Oper} {a : Act} {w : World} (ho : l[i]? = some o) (hp : easyOp o = true) (h : wpQuiet P l.toArray (fun _ => True) (fun a' => wpTreeK P l.toArray S Q k r a' w) [o] a) :
  wpTreeK P l.toArray S Q k (.q i r) a w := by
 unfold wpTreeK
 rw [List.getElem?_toArray, ho]
 exact ⟨hp, h⟩
theorem treek_e {l ch : List _} {i : Nat} {r : TreeK} {o : Oper} {a : Act} {w : World} (ho : l[i]? = some o) (hp : easyOp o = true) (h : wpQuiet P l.toArray S (fun a' => wpTreeK P l.toArray S Q k r a' w) [o] a) :
  wpTreeK P l.toArray S Q k (.e i ch r) a w := by
 unfold wpTreeK
 rw [List.getElem?_toArray, ho]
 exact ⟨hp, h⟩
theorem treek_a {l : List Oper} {i : Nat} {r : TreeK} {o : Oper} {a : Act} {w : World} (ho : l[i]? = some o)
  (h : ∀ K : Act → World → Prop, (∀ a w, (i ≠ k → S w) ∧ wpTreeK P l.toArray S Q k r a w → K a w) → if Region.wanted o (yielded l.toArray a.tmps) = true then Oper.wp P o a w K Q else K (a.put o.dst undef) w) :
  wpTreeK P l.toArray S Q k (.a i r) a w := by
 unfold wpTreeK
 exact wpOp_step (by rw [List.getElem?_toArray, ho]) h
theorem treek_z {l : List Oper} {i : Nat} {r : TreeK} {o : Oper} {a : Act} {w : World} (ho : l[i]? = some o)
  (h : ∀ K : Act → World → Prop, (∀ a w, wpTreeK P l.toArray S Q k r a w → K a w) → if Region.wanted o (yielded l.toArray a.tmps) = true then Oper.wp P o a w K Q else K (a.put o.dst undef) w) :
  wpTreeK P l.toArray S Q k (.z i r) a w := by
 unfold wpTreeK
 exact wpOp_step (by rw [List.getElem?_toArray, ho]) h
theorem treek_end {a : Act} {w : World} (h : Q .normal a w) : wpTreeK P ops S Q k .done a w := h
end
end Go.Proofs.Ytjmeakfjfpnciaa
namespace Go.Proofs.Ytjmeakfjfpnciaa
open Go.RowKit
def lim4 (m n : Nat) : List Value := [.int .u64 (dig (mont m n) 0 : Int), .int .u64 (dig (mont m n) 1 : Int), .int .u64 (dig (mont m n) 2 : Int), .int .u64 (dig (mont m n) 3 : Int)]
theorem lim4_len (m n : Nat) : (lim4 m n).length = 4 := rfl
def OkP (l : List Int) : Prop := ∀ b ∈ l, 0 ≤ b ∧ b ≤ 255
theorem prU_succ (f : Int → Nat) (l : List Int) {i j : Nat} (h : ¬ i = j) : prU f l i (j + 1) = prU f l i j * f (l.getD j 0) := if_neg h
theorem prU_same (f : Int → Nat) (l : List Int) {i j : Nat} (h : i = j) : prU f l i (j + 1) = prU f l i j := if_pos h
theorem getD_here {l : List Int} {j : Nat} (hj : j < l.length) : l.getD j 0 = l[j] := by rw [List.getD_eq_getElem?_getD, List.getElem?_eq_getElem hj]; rfl
theorem modI_one {q : Nat} (hq : 1 < q) : modI q 1 = 1 := by
 unfold modI
 rw [Int.emod_eq_of_lt (by decide) (by omega)]
 rfl
def wtL (q : Nat) (l : List Int) (x : Int) (n : Nat) : List Value := (List.range n).flatMap fun i => lim4 q (wtN q l i x)
theorem wtL_snoc (q : Nat) (l : List Int) (x : Int) (n : Nat) : wtL q l x (n + 1) = wtL q l x n ++ lim4 q (wtN q l n x) := by
 unfold wtL
 rw [List.range_succ, List.flatMap_append]
 simp
def WtR (q : Nat) (l : List Int) (x : Int) (w : World) (e : Ending) (w' : World) : Prop :=
 Below w.heap.size w w' ∧ ∃ a c, e = .returned (.slice a l.length c) ∧ Sl w' w'.heap.size a (wtL q l x l.length) ∧ ∀ y, a = some y → w.heap.size ≤ y.block
theorem weights_any (G : GP) (ok : G.Ok) (gb : Nat) (l : List Int) (n : Nat) (hn : l.length = n) (hn16 : n ≤ 16) (hl : OkP l) (x : Int) (hx : 0 ≤ x ∧ x ≤ 255) (a : Option Addr) (c : Nat) (w : World) (hG : GroupAt w gb G) (hX : Sl w w.heap.size a (l.map intV)) :
  Calls Try.prog 53 #[.pointer (some ⟨gb, 0, none⟩), .slice a n c, .int .i64 x] w (WtR G.q.m l x w) := by
 unfold WtR
 rw [hn]
 have OK := Lib.hid ok
 have HG := Lib.hid hG
 have HGL := Lib.hid hG.lt
 have HX := Lib.hid hX
 have HN := Lib.hid hn
 have HL := Lib.hid hl
 have HXX := Lib.hid hx
 have HM1 := Lib.hid (modI_one (q := G.q.m) (by have := ok.odd; omega))
 clear ok hG hX hn hl hx
 go_enter Try.func53, Try.ntmps53
 go_wp2_with fail
 go_loopw [16, 7] (fun i v wr => ∃ (j : Nat) (g : Option Addr) (c9 : Nat), j ≤ n ∧ i = .int .i64 j ∧ v = .slice g j c9 ∧ Hid (Below w.heap.size w wr) ∧ Hid (RowO w.heap.size wr 98 4 (.slice g j c9) j (wtL G.q.m l x j))) (fun i _ _ => n - (intOf i).toNat)
 case atStart => exact ⟨0, none, 0, Nat.zero_le _, rfl, rfl, Below.refl _ _, RowO.nil⟩
 case round =>
  obtain ⟨i, g, c9, hi, rfl, rfl, HB, Hr⟩ := hrel
  by_cases hin : i < n
  ·have hil : i < l.length := by rw [HN.out]; exact hin
   have HSB := Lib.hid (show w.heap.size ≤ wr.heap.size from HB.out.size)
   have HZS := HSB
   have HZS := HSB
   have HGP := Lib.hid (HG.out.up HB.out)
   obtain ⟨bl, ol, rfl, hbl, hc⟩ := (HX.out.up HB.out).at i (by rw [List.length_map]; exact hil)
   rw [List.getElem_map] at hc
   unfold intV at hc
   have HAI := Lib.hid (HL.out _ (List.getElem_mem hil))
   have HGD := Lib.hid (getD_here hil)
   generalize l[i] = ai at *
   have HSN := Lib.hid (wtL_snoc G.q.m l x i)
   obtain ⟨wo, rfl⟩ : ∃ wo : World, wo = wr := ⟨_, rfl⟩
   have HBB := HB
   have HRB := Hr
   have HGB := HGP
   have BI := Lib.hid (Below.refl wo.heap.size wo)
   go_wp2_with fail
   refine (gNumber_any G OK.out gb 1 (by decide) (by decide) wo HGP.out).mono ?_
   rintro e w1 ⟨rfl, hb9⟩
   replace HGP := Lib.hid (HGP.out.up hb9)
   replace Hr := Lib.hid (Hr.out.up hb9)
   replace BI := hbu BI hb9
   replace HB := hbu HB hb9
   replace HZS := sz HZS hb9.size
   clear hb9
   rw [HM1.out]
   go_wp2_with fail
   refine (gNumber_any G OK.out gb 1 (by decide) (by decide) w1 HGP.out).mono ?_
   rintro e w2 ⟨rfl, hb9⟩
   replace HGP := Lib.hid (HGP.out.up hb9)
   replace Hr := Lib.hid (Hr.out.up hb9)
   replace BI := hbu BI hb9
   replace HB := hbu HB hb9
   replace HZS := sz HZS hb9.size
   clear hb9
   rw [HM1.out]
   unfold scV limbV
   obtain ⟨w3, hq3, hb9, hz9, Hup, Hdn⟩ := new2 w2 98 [.int .u64 (dig (mont G.q.m 1) 0 : Int), .int .u64 (dig (mont G.q.m 1) 1 : Int), .int .u64 (dig (mont G.q.m 1) 2 : Int), .int .u64 (dig (mont G.q.m 1) 3 : Int)] 98 [.int .u64 (dig (mont G.q.m 1) 0 : Int), .int .u64 (dig (mont G.q.m 1) 1 : Int), .int .u64 (dig (mont G.q.m 1) 2 : Int), .int .u64 (dig (mont G.q.m 1) 3 : Int)]
   replace HGP := Lib.hid (HGP.out.up hb9)
   replace Hr := Lib.hid (Hr.out.up hb9)
   replace BI := hbu BI hb9
   replace HB := hbu HB hb9
   replace HZS := sz HZS hz9.out
   clear hb9 hz9
   have up_ := Hup.out.c4
   have dn_ := Hdn.out.c4
   clear hc
   go_wp2_with fail
   clear hq3
   obtain ⟨db, hdb⟩ : ∃ q, w2.heap.size + 1 = q := ⟨_, rfl⟩
   rw [hdb] at Hdn dn_ ⊢
   obtain ⟨ub, hub⟩ : ∃ q, w2.heap.size = q := ⟨_, rfl⟩
   rw [hub] at Hup up_ ⊢
   have HUD := Lib.hid (show wo.heap.size ≤ ub ∧ ub < db from by have := HZS.out; omega)
   clear hub hdb
   go_loopw [27] (fun v wr => ∃ t : Nat, t ≤ n ∧ v = .int .i64 t ∧ Hid (Below wo.heap.size wo wr) ∧ Hid (Bx wr ub 98 (lim4 G.q.m (prU (fun b => modI G.q.m (x - b)) l i t))) ∧ Hid (Bx wr db 98 (lim4 G.q.m (prU (fun b => modI G.q.m (ai - b)) l i t)))) (fun v _ => n - (intOf v).toNat)
   case atStart => exact ⟨0, Nat.zero_le _, rfl, BI, Hup, Hdn⟩
   case round =>
    clear Hup Hdn up_ dn_ HB Hr HGP
    obtain ⟨t, ht, rfl, BI, Hup, Hdn⟩ := hrel
    have HB := Lib.hid (HBB.out.trans (BI.out.mono HSB.out))
    have HGP := Lib.hid (HGB.out.up BI.out)
    have HSW := Lib.hid (show db < wr.heap.size ∧ wo.heap.size ≤ wr.heap.size from ⟨Hdn.out.lt, BI.out.size⟩)
    replace Hup := Lib.hid (show Bx wr ub 98 [.int .u64 (dig (mont G.q.m (prU (fun b => modI G.q.m (x - b)) l i t)) 0 : Int), .int .u64 (dig (mont G.q.m (prU (fun b => modI G.q.m (x - b)) l i t)) 1 : Int), .int .u64 (dig (mont G.q.m (prU (fun b => modI G.q.m (x - b)) l i t)) 2 : Int), .int .u64 (dig (mont G.q.m (prU (fun b => modI G.q.m (x - b)) l i t)) 3 : Int)] from Hup.out)
    replace Hdn := Lib.hid (show Bx wr db 98 [.int .u64 (dig (mont G.q.m (prU (fun b => modI G.q.m (ai - b)) l i t)) 0 : Int), .int .u64 (dig (mont G.q.m (prU (fun b => modI G.q.m (ai - b)) l i t)) 1 : Int), .int .u64 (dig (mont G.q.m (prU (fun b => modI G.q.m (ai - b)) l i t)) 2 : Int), .int .u64 (dig (mont G.q.m (prU (fun b => modI G.q.m (ai - b)) l i t)) 3 : Int)] from Hdn.out)
    replace HZS := sz HZS HUD.out
    replace HZS := sz HZS HSW.out
    replace HZS := sz HZS HGL.out
    have up_ := Hup.out.c4
    have dn_ := Hdn.out.c4
    by_cases htn : t < n
    ·have htl : t < l.length := by rw [HN.out]; exact htn
     obtain ⟨_, _, e9, hbl, hc⟩ := (HX.out.up HB.out).at t (by rw [List.length_map]; exact htl)
     cases e9
     rw [List.getElem_map] at hc
     unfold intV at hc
     have HAT := Lib.hid (HL.out _ (List.getElem_mem htl))
     have HGT := Lib.hid (getD_here htl)
     generalize l[t] = y at *
     by_cases hit : i = t
     ·have hd : ((i : Int) != (t : Int)) = false := by simp; omega
      have HE1 := Lib.hid (prU_same (fun b => modI G.q.m (x - b)) l hit)
      have HE2 := Lib.hid (prU_same (fun b => modI G.q.m (ai - b)) l hit)
      clear hit
      go_wp2_with fail
      go_roundw
      case rel => exact ⟨t + 1, by omega, by go_num, BI, by rw [HE1.out]; exact Hup, by rw [HE2.out]; exact Hdn⟩
      case measure => simp [intOf]; omega
     ·have hd : ((i : Int) != (t : Int)) = true := by simp; omega
      have HE1 := Lib.hid (prU_succ (fun b => modI G.q.m (x - b)) l hit)
      have HE2 := Lib.hid (prU_succ (fun b => modI G.q.m (ai - b)) l hit)
      rw [HGT.out] at HE1 HE2
      have hw1 : wrap64 (x - y) = x - y := by have h1 := HAT.out; have h2 := HXX.out; unfold wrap64; omega
      have hw2 : wrap64 (ai - y) = ai - y := by have h1 := HAT.out; have h2 := HAI.out; unfold wrap64; omega
      clear hit
      generalize prU (fun b => modI G.q.m (x - b)) l i t = pu at *
      generalize prU (fun b => modI G.q.m (ai - b)) l i t = pd at *
      go_wp2_with fail
      clear hc
      have HT := Lib.hid (show Below wr.heap.size wr wr.drew from (Below.refl _ _).drew)
      have hl_up := Hup.out.lt
      have hl_dn := Hdn.out.lt
      refine wp_region_treek (fun wq9 => ∃ E : Over wr, wq9 = E.w) 16 ((.qs [0] (.e 1 [] (.qs [2, 3, 4, 5, 8] (.e 9 [15] (.qs [10, 11, 12, 13] (.a 6 (.a 7 (.a 14 (.a 15 (.a 16 (.z 17 .done)))))))))))) (by kernel_rfl) (by kernel_rfl) (fun _ _ d _ _ h => by cases d <;> exact h) ⟨⟨_, HT.out⟩, rfl⟩ ?_
      have hov_up := fun (E : Over wr) o => E.cell (b := ub) o hl_up
      have hov_dn := fun (E : Over wr) o => E.cell (b := db) o hl_dn
      simp only [TreeK.qs]
      repeat (first | (refine treek_q rfl rfl ?_; go_big_quiet_step (fail); refine wpQuiet_nil ?_) | (refine treek_e rfl rfl ?_; go_big_quiet_step (fail); refine wpQuiet_nil ?_))
      refine treek_a rfl (fun K hK => ?_)
      go_simp
      refine (gNumber_any G OK.out gb (x - y) (by have h1 := HAT.out; have h2 := HXX.out; omega) (by have h1 := HAT.out; have h2 := HXX.out; omega) _ (HGP.out.up HT.out)).mono ?_
      rintro e w4 ⟨rfl, hb9⟩
      replace HT := Lib.hid (below_up HT.out hb9)
      replace HZS := sz HZS (show wr.heap.size ≤ w4.heap.size from HT.out.size)
      clear hb9
      refine hK _ _ ⟨fun _ => ⟨⟨w4, HT.out⟩, rfl⟩, ?_⟩
      clear hK K
      repeat (first | (refine treek_q rfl rfl ?_; go_big_quiet_step (fail); refine wpQuiet_nil ?_) | (refine treek_e rfl rfl ?_; go_big_quiet_step (fail); refine wpQuiet_nil ?_))
      refine treek_a rfl (fun K hK => ?_)
      go_simp
      refine (gMul_any G OK.out gb pu (modI G.q.m (x - y)) _ (HGP.out.up HT.out)).mono ?_
      rintro e w5 ⟨rfl, hb9⟩
      replace HT := Lib.hid (below_up HT.out hb9)
      replace HZS := sz HZS (show wr.heap.size ≤ w5.heap.size from HT.out.size)
      clear hb9
      refine hK _ _ ⟨fun _ => ⟨⟨w5, HT.out⟩, rfl⟩, ?_⟩
      clear hK K
      repeat (first | (refine treek_q rfl rfl ?_; go_big_quiet_step (fail); refine wpQuiet_nil ?_) | (refine treek_e rfl rfl ?_; go_big_quiet_step (fail); refine wpQuiet_nil ?_))
      refine treek_a rfl (fun K hK => ?_)
      go_simp
      refine (gNumber_any G OK.out gb (ai - y) (by have h1 := HAT.out; have h2 := HAI.out; omega) (by have h1 := HAT.out; have h2 := HAI.out; omega) _ (HGP.out.up HT.out)).mono ?_
      rintro e w6 ⟨rfl, hb9⟩
      replace HT := Lib.hid (below_up HT.out hb9)
      replace HZS := sz HZS (show wr.heap.size ≤ w6.heap.size from HT.out.size)
      clear hb9
      refine hK _ _ ⟨fun _ => ⟨⟨w6, HT.out⟩, rfl⟩, ?_⟩
      clear hK K
      repeat (first | (refine treek_q rfl rfl ?_; go_big_quiet_step (fail); refine wpQuiet_nil ?_) | (refine treek_e rfl rfl ?_; go_big_quiet_step (fail); refine wpQuiet_nil ?_))
      refine treek_a rfl (fun K hK => ?_)
      go_simp
      refine (gMul_any G OK.out gb pd (modI G.q.m (ai - y)) _ (HGP.out.up HT.out)).mono ?_
      rintro e w7 ⟨rfl, hb9⟩
      replace HT := Lib.hid (below_up HT.out hb9)
      replace HZS := sz HZS (show wr.heap.size ≤ w7.heap.size from HT.out.size)
      clear hb9
      unfold scV limbV
      refine hK _ _ ⟨fun _ => ⟨⟨w7, HT.out⟩, rfl⟩, ?_⟩
      clear hK K
      repeat (first | (refine treek_q rfl rfl ?_; go_big_quiet_step (fail); refine wpQuiet_nil ?_) | (refine treek_e rfl rfl ?_; go_big_quiet_step (fail); refine wpQuiet_nil ?_))
      clear hov_up hl_up hov_dn hl_dn
      refine treek_a rfl (fun K hK => ?_)
      clear up_
      replace Hup := Lib.hid (Hup.out.up HT.out)
      clear dn_
      replace Hdn := Lib.hid (Hdn.out.up HT.out)
      replace HGP := Lib.hid (HGP.out.up HT.out)
      replace BI := hbu BI HT.out
      replace HB := hbu HB HT.out
      replace HZS := sz HZS HT.out.size
      clear HT
      have up_ := Hup.out.c4
      have dn_ := Hdn.out.c4
      have f8_up := Hup.out.frozen
      have o8_up_ := up_; clear up_
      have o8_dn_ := dn_; clear dn_
      obtain ⟨w8, hq8, hg9, hz9, hx9⟩ := put4 Hup 0 (.int .u64 (dig (mont G.q.m (pu * modI G.q.m (x - y))) 0 : Int)) 1 (.int .u64 (dig (mont G.q.m (pu * modI G.q.m (x - y))) 1 : Int)) 2 (.int .u64 (dig (mont G.q.m (pu * modI G.q.m (x - y))) 2 : Int)) 3 (.int .u64 (dig (mont G.q.m (pu * modI G.q.m (x - y))) 3 : Int)) [.int .u64 (dig (mont G.q.m (pu * modI G.q.m (x - y))) 0 : Int), .int .u64 (dig (mont G.q.m (pu * modI G.q.m (x - y))) 1 : Int), .int .u64 (dig (mont G.q.m (pu * modI G.q.m (x - y))) 2 : Int), .int .u64 (dig (mont G.q.m (pu * modI G.q.m (x - y))) 3 : Int)] rfl
      replace Hdn := Lib.hid (Hdn.out.grown hg9.out (sne (by have g0 := HZS.out; omega)))
      replace HGP := Lib.hid (HGP.out.grown hg9.out (sne (by have g0 := HZS.out; omega)))
      replace BI := hbg BI hg9 (by have g0 := HZS.out; omega)
      replace HB := hbg HB hg9 (by have g0 := HZS.out; omega)
      replace HZS := sz HZS hz9.out
      replace Hup := hx9
      clear hx9 hg9 hz9
      have up_ := Hup.out.c4
      have dn_ := Hdn.out.c4
      go_simp
      try rw [hq8]
      refine hK _ _ ⟨fun h9 => absurd rfl h9, ?_⟩
      clear hK K hq8 o8_dn_ o8_up_ f8_up
      repeat (first | (refine treek_q rfl rfl ?_; go_big_quiet_step (fail); refine wpQuiet_nil ?_) | (refine treek_e rfl rfl ?_; go_big_quiet_step (fail); refine wpQuiet_nil ?_))
      refine treek_z rfl (fun K hK => ?_)
      have f9_dn := Hdn.out.frozen
      have o9_up_ := up_; clear up_
      have o9_dn_ := dn_; clear dn_
      obtain ⟨w9, hq9, hg9, hz9, hx9⟩ := put4 Hdn 0 (.int .u64 (dig (mont G.q.m (pd * modI G.q.m (ai - y))) 0 : Int)) 1 (.int .u64 (dig (mont G.q.m (pd * modI G.q.m (ai - y))) 1 : Int)) 2 (.int .u64 (dig (mont G.q.m (pd * modI G.q.m (ai - y))) 2 : Int)) 3 (.int .u64 (dig (mont G.q.m (pd * modI G.q.m (ai - y))) 3 : Int)) [.int .u64 (dig (mont G.q.m (pd * modI G.q.m (ai - y))) 0 : Int), .int .u64 (dig (mont G.q.m (pd * modI G.q.m (ai - y))) 1 : Int), .int .u64 (dig (mont G.q.m (pd * modI G.q.m (ai - y))) 2 : Int), .int .u64 (dig (mont G.q.m (pd * modI G.q.m (ai - y))) 3 : Int)] rfl
      replace Hup := Lib.hid (Hup.out.grown hg9.out (sne (by have g0 := HZS.out; omega)))
      replace HGP := Lib.hid (HGP.out.grown hg9.out (sne (by have g0 := HZS.out; omega)))
      replace BI := hbg BI hg9 (by have g0 := HZS.out; omega)
      replace HB := hbg HB hg9 (by have g0 := HZS.out; omega)
      replace HZS := sz HZS hz9.out
      replace Hdn := hx9
      clear hx9 hg9 hz9
      have up_ := Hup.out.c4
      have dn_ := Hdn.out.c4
      go_simp
      try rw [hq9]
      refine hK _ _ ?_
      clear hK K hq9 o9_dn_ o9_up_ f9_dn
      repeat (first | (refine treek_q rfl rfl ?_; go_big_quiet_step (fail); refine wpQuiet_nil ?_) | (refine treek_e rfl rfl ?_; go_big_quiet_step (fail); refine wpQuiet_nil ?_))
      refine treek_end ?_
      go_wp2_with fail
      go_roundw
      case rel => exact ⟨t + 1, by omega, by go_num, BI, by rw [HE1.out]; exact Hup, by rw [HE2.out]; exact Hdn⟩
      case measure => simp [intOf]; omega
    ·have htn' : t = n := by omega
     subst htn'
     have HWE := Lib.hid (show wtN G.q.m l i x = prU (fun b => modI G.q.m (x - b)) l i l.length * prU (fun b => modI G.q.m (ai - b)) l i l.length ^ (G.q.m - 2) by unfold wtN wtU; rw [HGD.out])
     rw [HN.out] at HWE
     generalize prU (fun b => modI G.q.m (x - b)) l i t = pu at *
     generalize prU (fun b => modI G.q.m (ai - b)) l i t = pd at *
     have Hr := Lib.hid (HRB.out.up BI.out)
     have HRO := Lib.hid (fun q9 (h9 : (Value.slice g i c9).ownBlock = some q9) => (HRB.out.lt q9 h9).2)
     go_wp2_with fail
     have HT := Lib.hid (show Below wr.heap.size wr wr.drew from (Below.refl _ _).drew)
     have hl_up := Hup.out.lt
     have hl_dn := Hdn.out.lt
     refine wp_region_tree (fun wq9 => ∃ E : But wr (Value.ownBlock (.slice g i c9)), wq9 = E.w) ((.qs [0, 1, 2, 3, 4] (.a 5 (.a 6 (.a 7 (.a 8 (.qs [9] .done))))))) (by kernel_rfl) (by kernel_rfl) (fun _ _ d _ _ h => by cases d <;> exact h) ⟨⟨_, ((below_grown HT.out).but _)⟩, rfl⟩ ?_
     have hov_up := fun (E : But wr (Value.ownBlock (.slice g i c9))) o => E.cell (b := ub) o hl_up (by intro e9; have a2 := HRO.out _ e9; have a1 := Hr.out.lt _ e9; have g0 := HZS.out; omega)
     have hov_dn := fun (E : But wr (Value.ownBlock (.slice g i c9))) o => E.cell (b := db) o hl_dn (by intro e9; have a2 := HRO.out _ e9; have a1 := Hr.out.lt _ e9; have g0 := HZS.out; omega)
     simp only [Tree.qs]
     repeat (refine tree_q rfl rfl ?_; go_big_quiet_step (fail); refine wpQuiet_nil ?_)
     refine tree_a rfl (fun K hK => ?_)
     go_simp
     refine (gInv_any G OK.out gb pd _ (HGP.out.up HT.out)).mono ?_
     rintro e w4 ⟨rfl, hb9⟩
     replace HT := Lib.hid (below_up HT.out hb9)
     replace HZS := sz HZS (show wr.heap.size ≤ w4.heap.size from HT.out.size)
     clear hb9
     refine hK _ _ ⟨⟨⟨w4, ((below_grown HT.out).but _)⟩, rfl⟩, ?_⟩
     clear hK K
     repeat (refine tree_q rfl rfl ?_; go_big_quiet_step (fail); refine wpQuiet_nil ?_)
     refine tree_a rfl (fun K hK => ?_)
     go_simp
     refine (gMul_any G OK.out gb pu (pd ^ (G.q.m - 2)) _ (HGP.out.up HT.out)).mono ?_
     rintro e w5 ⟨rfl, hb9⟩
     replace HT := Lib.hid (below_up HT.out hb9)
     replace HZS := sz HZS (show wr.heap.size ≤ w5.heap.size from HT.out.size)
     clear hb9
     unfold scV limbV
     refine hK _ _ ⟨⟨⟨w5, ((below_grown HT.out).but _)⟩, rfl⟩, ?_⟩
     clear hK K
     repeat (refine tree_q rfl rfl ?_; go_big_quiet_step (fail); refine wpQuiet_nil ?_)
     clear hov_up hl_up hov_dn hl_dn
     refine tree_a rfl (fun K hK => ?_)
     go_simp
     refine hK _ _ ⟨⟨⟨_, (below_grown (HT.out.alloc HT.out.size _)).but _⟩, rfl⟩, ?_⟩
     clear hK K
     obtain ⟨i9, hi9, hz90, hz91, hz92⟩ := info_parts infoScalar
     have HG1 := Lib.hid ((below_grown HT.out).but (Value.ownBlock (.slice g i c9)))
     clear up_
     replace Hup := Lib.hid (Hup.out.up HT.out)
     clear dn_
     replace Hdn := Lib.hid (Hdn.out.up HT.out)
     replace HGP := Lib.hid (HGP.out.up HT.out)
     replace Hr := Lib.hid (Hr.out.up HT.out)
     replace HB := hbu HB HT.out
     replace HZS := sz HZS HT.out.size
     refine tree_a rfl (fun K hK => ?_)
     refine step_pushR (w.heap.size) w5 (by have g0 := HZS.out; omega) rfl _ _ 91 rfl 98 i9 _ 4 32 Try.underlying91 hi9 hz90 hz91 hz92 rfl (by omega) ((.slice g i c9)) (i) ((wtL G.q.m l x i)) rfl Hr.out _ _ _ rfl rfl rfl (by simp [Value.oneCell']) (by omega) (by unfold maxLen; omega) ?_
     intro g6 c6 w6 hown9 hg9
     have HGR := Lib.hid (HG1.out.trans hg9)
     have hb9 := Below.grown HB.out hg9 (by have g0 := HZS.out; omega) (fun q hq => Nat.le_trans (show w.heap.size ≤ w.heap.size by have g0 := HZS.out; omega) (Hr.out.lt q hq).1)
     replace Hup := Lib.hid (Hup.out.grown hg9 (fun e9 => by have a2 := HRO.out _ e9; have a1 := Hr.out.lt _ e9; have g0 := HZS.out; omega))
     replace Hdn := Lib.hid (Hdn.out.grown hg9 (fun e9 => by have a2 := HRO.out _ e9; have a1 := Hr.out.lt _ e9; have g0 := HZS.out; omega))
     replace HGP := Lib.hid (HGP.out.grown hg9 (fun e9 => by have a2 := HRO.out _ e9; have a1 := Hr.out.lt _ e9; have g0 := HZS.out; omega))
     replace HZS := sz HZS hg9.size
     clear Hr HB HT HG1
     have Hr := Lib.hid hown9
     have HB := Lib.hid hb9
     clear hb9 hown9 hg9 hi9 hz90 hz91 hz92
     refine hK _ _ ⟨⟨⟨w6, HGR.out⟩, rfl⟩, ?_⟩
     clear hK K HGR
     have up_ := Hup.out.c4
     have dn_ := Hdn.out.c4
     try simp only [Act.put, List.setIfInBounds_toArray, List.set_cons_succ, List.set_cons_zero]
     repeat (refine tree_q rfl rfl ?_; go_big_quiet_step (fail); refine wpQuiet_nil ?_)
     refine tree_end ?_
     go_wp2_with fail
     go_roundw
     case rel => exact ⟨i + 1, _, _, by omega, by go_num, rfl, HB, Hr.out.eq (by rw [HSN.out, HWE.out]; rfl) rfl⟩
     case measure => simp [intOf]; omega
  ·have hin' : i = n := by omega
   subst hin'
   go_wp2_with fail
   go_ret
   exact ⟨HB.out, g, c9, rfl, Hr.out.sl, fun y hy => (Hr.out.lt y.block (by rw [hy]; rfl)).1⟩
end Go.Proofs.Ytjmeakfjfpnciaa
namespace Go.Proofs.Ytjmeakfjfpnciaa
open Go.RowKit
theorem infoStr : (Try.prog.info? 9).map (fun i => (i.zero, i.size, i.bytes)) = some (some (.string ⟨#[]⟩), 1, 16) := by kernel_rfl
theorem Sl.adr {w : World} {B : Nat} {a : Option Addr} {cs : List Value} (h : Sl w B a cs) (h0 : cs ≠ []) : ∃ b o, a = some ⟨b, o, none⟩ ∧ b < B := by
 rcases h with h | ⟨b, off, rfl, hb, _⟩
 ·exact absurd h h0
 ·exact ⟨b, off, rfl, hb⟩
theorem Sl.elemS {w : World} {B b o : Nat} {α : Type} {f : α → List Value} {k : Nat} {l : List α} (h : Sl w B (some ⟨b, o, none⟩) (l.flatMap f)) (hk : ∀ x, (f x).length = k) (h0 : 0 < k) (i : Nat) (hi : i < l.length) :
  b < B ∧ ∀ j v, (f l[i])[j]? = some v → w.cell? ⟨b, o + i * k + j, none⟩ = some v := by
 obtain ⟨b', o', he, hb, hc⟩ := h.elem hk h0 i hi
 simp only [Option.some.injEq, Addr.mk.injEq, and_true] at he
 obtain ⟨rfl, rfl⟩ := he
 exact ⟨hb, hc⟩
theorem flat_ne {α : Type} {f : α → List Value} {k : Nat} {l : List α} (hk : ∀ x, (f x).length = k) (h0 : 0 < k) (hl : l ≠ []) : l.flatMap f ≠ [] := by
 intro e
 have := flat_len f k hk l
 rw [e, List.length_nil] at this
 have : 0 < l.length * k := Nat.mul_pos (List.length_pos_iff.2 hl) h0
 omega
end Go.Proofs.Ytjmeakfjfpnciaa
