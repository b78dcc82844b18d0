/- Texts of this seat, one behind the other: what BoardMeets leans on. No condition beyond those that each names. -/
import Derived.Test.YtjmeakfjfpnciaaZBoardMeets2
import Derived.Outline
import Derived.RangeFuncNested
import Derived.RangeFuncBox
import Derived.RangeFuncCalls
import Derived.RangeFuncBound
import Derived.RangeFuncLeaves
import Derived.Shelf.Abstract
import Derived.Shelf.RegionOpen
import Derived.WalkKit
import Derived.OwnWalkIn
import Derived.TacticsInMore
import Derived.LoopNIn
import Derived.LoopIn
import Derived.Maps.AppendAt
import Derived.Test.YtjmeakfjfpnciaaProg
import Derived.Deep.CutBlock
import Derived.OrdersIn
import Derived.Deep.LoopGhost

set_option maxRecDepth 100000
set_option maxHeartbeats 4000000
set_option linter.unusedVariables false
set_option linter.unusedSimpArgs false
namespace Go.Proofs.Ytjmeakfjfpnciaa
open Go.RowKit Go.Lib
theorem Sl.ofB {W : World} {b : Nat} {t : TypeId} {cs : List Value} (h : Bx W b t cs) : Sl W W.heap.size (some ⟨b, 0, none⟩) cs := Or.inr ⟨b, 0, rfl, h.lt, fun i v hv => by rw [Nat.zero_add]; exact h.cell hv⟩
theorem join_small (l : ByteArray) (ps : List ByteArray) (_m : Nat) (h : ps.length ≤ 3) (hp : ∀ p ∈ ps, p.size < 140737488355328) (hl : l.size < 140737488355328) : (joinL l ps).length < 2305843009213693952 := by
 have key : ∀ x : ByteArray, (pfxL x).length = 4 + x.size := fun x => by unfold pfxL; rw [List.length_append, bytesOf_len]; rfl
 have gen : ∀ qs : List ByteArray, (∀ p ∈ qs, p.size < 140737488355328) → (qs.flatMap pfxL).length ≤ qs.length * 140737488355332 := by
  intro qs
  induction qs with
  | nil => intro _; simp
  | cons x qs ih =>
   intro hq
   have h1 := ih fun p hp => hq p (List.mem_cons_of_mem _ hp)
   have h2 := hq x (List.mem_cons_self ..)
   rw [List.flatMap_cons, List.length_append, List.length_cons, key]
   omega
 have := gen ps hp
 unfold joinL
 rw [List.length_append, key]
 have h3 : ps.length * 140737488355332 ≤ 3 * 140737488355332 := Nat.mul_le_mul_right _ h
 omega
end Go.Proofs.Ytjmeakfjfpnciaa
namespace Go.Proofs.Ytjmeakfjfpnciaa
open Go.RowKit Go.Lib
theorem new1D (w : World) (t0 : TypeId) (c0 : List Value) : ∃ W, (w.alloc (Obj.cells c0.toArray t0)).drew = W ∧ Below w.heap.size w W ∧ Hid (W.heap.size = w.heap.size + 1) ∧ Hid (Bx W w.heap.size t0 c0) := by
 obtain ⟨W, hq, hb, hz, hx⟩ := new1 w t0 c0
 subst hq
 exact ⟨_, rfl, hb.drew, hz, hx⟩
end Go.Proofs.Ytjmeakfjfpnciaa
namespace Go.Proofs.Ytjmeakfjfpnciaa
open Go.RowKit
def goesOn (R : World → Prop) : Exit → Act → World → Prop
 | .normal, _, w => R w
 | _, _, _ => False
theorem range_rounds {F : Fence} {n : Nat} {P : Program} {α : Type} {g : Operand} {ps : Array Tmp} {assign body : Code} {Q : Exit → Act → World → Prop} {a : Act} {w : World}
  (hro : F.round = none) (h1 : 1 ≤ n) {gf : Nat} {lb : Array Value} (hg : a.eval g = .func (.func gf) #[] lb) (hFg : F.fn gf) (eg : ∀ args w, (callFunc gf args).run P w = .ok (.enter gf args) w)
  {encs : α → Array Value} (hps : ∀ x, (encs x).size = ps.size) (c : Nat) (xs : List α) (v0 : Value)
  (I : List α → Value → World → Prop) (Rd : Value → World → Prop) (hRd : ∀ s v W, I s v W → Rd v W)
  (hIp : ∀ s v W l o o', w.heap.size ≤ l → W.heap[l]? = some o → o.isCells = false → I s v W → I s v (W.putObj l o'))
  (hIa : ∀ s v W o, I s v W → I s v (W.alloc o)) (hIc : ∀ s v v' W, I s v W → I s v' (W.setCell ⟨c, 0, none⟩ v')) (h0 : I [] v0 w)
  (hround : ∀ (l : Nat) (s : List α) (x : α) (v : Value) (W : World), w.heap.size ≤ l → s ++ [x] <+: xs → I s v W → assign.wpIn (F.inRound l) (n - 1 - 1) P (Exit.then (fun a₁ W₁ => KeepsOthers W W₁ ∧
    ∀ r o', W₁.heap[l]? = some (.loop r) → body.wpIn (F.inRound l) (n - 1 - 1) P (goesOn fun W' => KeepsOthers (W₁.putObj l o') W' ∧ I (s ++ [x]) v W') a₁ (W₁.putObj l o')) (fun _ _ _ => False))
   { tmps := (ps.zip (encs x)).foldl (fun t (p, v) => t.setIfInBounds p v) a.tmps, defers := [] } W)
  (hiter : ∀ (l : Nat) (J : List α → Value → World → Prop) (W : World), (∀ s v W, J s v W → Rd v W) → (∀ s v v' W, J s v W → J s v' (W.setCell ⟨c, 0, none⟩ v')) →
   (∀ s x v W, s ++ [x] <+: xs → J s v W → YieldAt F (n - 1 - 1) P l (encs x) W fun e W' => e = .returned (.bool true) ∧ J (s ++ [x]) v W') → J [] v0 W →
   CallsIn F (n - 1) P gf (#[.func (.yield l) #[] #[]] ++ lb) W fun e W' => (∃ u, e = .returned u) ∧ ∃ v, J xs v W')
  (hdone : ∀ (D : Nat) (v : Value) (W : World), w.heap.size ≤ D → I xs v W → W.heap[D]? = some (.deferred (some [])) → Q .normal { a with defers := { target := .collected D, args := #[] } :: a.defers } W) :
  (Code.rangeFunc g ps assign body).wpIn F n P Q a w := by
 refine wpIn_rangeFunc (fun fn hfn => ?_)
 rw [hro]
 let L : LoopState → Option Code → Loop := fun st pe => { state := st, pending := pe, fn, tmps := a.tmps, params := ps, assign, body, defers := w.heap.size }
 obtain ⟨w1, hw1⟩ : ∃ w1, (w.alloc (.deferred (some []))).alloc (.loop (L .ready none)) = w1 := ⟨_, rfl⟩
 have hL1 : w1.heap[w.heap.size + 1]? = some (.loop (L .ready none)) := by
  rw [← hw1]
  have := World.alloc_heap_new (w.alloc (.deferred (some []))) (.loop (L .ready none))
  rwa [World.size_alloc] at this
 have hD1 : w1.heap[w.heap.size]? = some (.deferred (some [])) := by
  rw [← hw1]
  exact (Below.heap_alloc _ _ _ (by simp)).trans (World.alloc_heap_new w _)
 have hI1 : I [] v0 w1 := by rw [← hw1]; exact hIa _ _ _ _ (hIa _ _ _ _ h0)
 let J : List α → Value → World → Prop := fun s v W => I s v W ∧ W.heap[w.heap.size + 1]? = some (.loop (L .ready none)) ∧ W.heap[w.heap.size]? = some (.deferred (some []))
 refine ⟨w.heap.size + 1, [{ target := .collected w.heap.size, args := #[] }], w1, { target := .fn (.func gf) lb, args := #[.func (.yield (w.heap.size + 1)) #[] #[]] }, w1, gf,
  #[.func (.yield (w.heap.size + 1)) #[] #[]] ++ lb, w1, ?_, ?_, ?_, ?_, fun _ => h1, ?_⟩
 ·rw [← hw1]; exact run_enterLoop_outer _ _ _ _ _
 ·simp only [resolve, hg]
  simp [go_sem]
 ·intro f' hf'; simp [Target.leads] at hf'; subst hf'; exact hFg
 ·simp [invoke, go_sem, eg]
 ·refine (hiter (w.heap.size + 1) J w1 (fun s v W h => hRd s v W h.1) (fun s v v' W h => ⟨hIc s v v' W h.1, (KeepsOthers.setCell W _ v').same _ _ h.2.1 rfl, (KeepsOthers.setCell W _ v').same _ _ h.2.2 rfl⟩) ?_ ⟨hI1, hL1, hD1⟩).mono ?_
  ·rintro s x v W hpre ⟨hi, hl, hd⟩
   have hy := run_yield (P := P) (args := encs x) hl (hps x)
   refine ⟨fn, _, assign, body, hy, roundIn_of_wpIn hfn (wpIn_mono (hround (w.heap.size + 1) s x v W (by omega) hpre hi) ?_)⟩
   rintro e a1 W1 hp
   cases e with
   | normal =>
    obtain ⟨hk1, hb1⟩ := hp
    have hl1 := hk1.same _ _ hl rfl
    have hd1 := hk1.same _ _ hd rfl
    have hlt := (Array.getElem?_eq_some_iff.1 hl1).1
    refine ⟨_, run_beginRound hl1 rfl, wpIn_mono (hb1 _ (.loop { L .ready none with state := .busy }) hl1) ?_⟩
    rintro e2 a2 W2 hp2
    cases e2 with
    | normal =>
     obtain ⟨hk2, hi2⟩ := hp2
     have hl2 := hk2.same _ _ (World.putObj_heap_same hlt) rfl
     have hd2 := hk2.same _ _ ((World.putObj_heap_other (by omega)).trans hd1) rfl
     exact ⟨_, _, run_endRound none hl2, rfl, hIp _ _ _ _ _ _ (by omega) hl2 rfl hi2, World.putObj_heap_same (Array.getElem?_eq_some_iff.1 hl2).1, (World.putObj_heap_other (by omega)).trans hd2⟩
    | _ => exact hp2.elim
   | _ => exact hp.elim
  ·rintro e W2 ⟨⟨u, rfl⟩, v, hi, hl, hd⟩
   exact ⟨none, _, run_endLoop hl (by simp [L]), hdone w.heap.size v _ (Nat.le_refl _) (hIp _ _ _ _ _ _ (by omega) hl rfl hi) ((World.putObj_heap_other (by omega)).trans hd)⟩
end Go.Proofs.Ytjmeakfjfpnciaa
namespace Go.Proofs.Ytjmeakfjfpnciaa
open Go.RowKit
section
variable {w w1 w2 w' : World} {L : Nat} {v v1 v2 v' : Value}
end
def flat (gs : List (Int × Int)) : List Value := gs.flatMap fun g => [.int .i64 g.1, .int .i64 g.2]
theorem flat_append (a b : List (Int × Int)) : flat (a ++ b) = flat a ++ flat b := by simp [flat]
end Go.Proofs.Ytjmeakfjfpnciaa
namespace Go.Proofs.Ytjmeakfjfpnciaa
open Go.RowKit
attribute [local go_sem] Oper.semAt_some
def spanV (x : Int × Int) : Value := .agg #[.int .i64 x.1, .int .i64 x.2]
def intAt (W : World) (c : Nat) : Int := match W.cell? ⟨c, 0, none⟩ with | some (.int _ k) => k | _ => 0
theorem intAt_eq {W : World} {c : Nat} {k : Int} (h : W.cell? ⟨c, 0, none⟩ = some (.int .i64 k)) : intAt W c = k := by simp [intAt, h]
theorem bitLen_some (d : Nat) (h0 : 0 < d) (hd : d ≤ 1048576) : ∃ p, Lib.bitLen d = p + 1 ∧ p ≤ 20 ∧ 2 ^ p ≤ d := by
 obtain ⟨a, b, _⟩ := bitLen_ok d h0 (by omega)
 have := bitLen_le d 21 h0 (by omega) (by omega)
 exact ⟨Lib.bitLen d - 1, by omega, by omega, b⟩
theorem low_and (k : Nat) (h0 : 0 < k) (h : k ≤ 1048576) : bits BinOp.and IntKind.i64 (k : Int) (-(k : Int)) = ((k &&& (2 ^ 64 - k) : Nat) : Int) := by
 have h1 : (BitVec.ofInt 64 (k : Int)).toNat = k := by
  rw [BitVec.toNat_ofInt]; omega
 have h2 : (BitVec.ofInt 64 (-(k : Int))).toNat = 2 ^ 64 - k := by
  rw [BitVec.toNat_ofInt]; omega
 have h3 : k &&& (2 ^ 64 - k) ≤ k := Nat.and_le_left
 have h4 : (BitVec.ofInt 64 (k : Int) &&& BitVec.ofInt 64 (-(k : Int))).toNat = k &&& (2 ^ 64 - k) := by rw [BitVec.toNat_and, h1, h2]
 show IntKind.i64.wrap ((BitVec.ofInt 64 (k : Int) &&& BitVec.ofInt 64 (-(k : Int))).toNat : Int) = _
 rw [h4]
 generalize k &&& (2 ^ 64 - k) = r at h3
 have h5 : ((r : Int) % 2 ^ 64) = (r : Int) := by omega
 simp only [IntKind.wrap, IntKind.bits, IntKind.signed, h5, Bool.true_and]
 rw [if_neg (by simp; omega)]
theorem pow_wrap (p : Nat) (hp : p ≤ 20) : wrap64 (2 ^ p) = ((2 ^ p : Nat) : Int) := by
 have h : (2 : Nat) ^ p ≤ 2 ^ 20 := Nat.pow_le_pow_right (by omega) hp
 have e : ((2 : Int) ^ p) = ((2 ^ p : Nat) : Int) := by simp
 rw [e]
 generalize 2 ^ p = q at *
 unfold wrap64
 omega
theorem Len_at (n : Nat) (d : Nat) (x : Int) (p : Nat) (hx : x = (d : Int)) (h0 : 0 < d) (hd : d ≤ 1048576) (hp : Lib.bitLen d = p + 1) (w : World) :
  CallsIn Fence.wide n Try.prog 102 #[.int .u64 x] w fun e w' => e = .returned (.int .i64 ((p : Int) + 1)) ∧ w' = w := by
 refine callsIn_wide.2 ((Try.bits_Len x w (by omega) (by omega)).mono ?_)
 rintro e w1 ⟨rfl, rfl⟩
 refine ⟨?_, rfl⟩
 rw [hx, Int.toNat_natCast, hp]
 rfl
theorem blocks1_in (n : Nat) (hn : 1 ≤ n) (l c h : Nat) (lo hi : Nat) (hle : lo ≤ hi) (hhi : hi ≤ 1048576) (J : List (Int × Int) → Value → World → Prop)
  (hRd : ∀ s v W, J s v W → Boxed W c 3 v ∧ Boxed W h 3 (.int .i64 hi)) (hset : ∀ s v v' W, J s v W → J s v' (W.setCell ⟨c, 0, none⟩ v'))
  (hY : ∀ s x v W, s ++ [x] <+: cover lo hi → J s v W → YieldAt Fence.wide (n - 1) Try.prog l #[spanV x] W fun e W' => e = .returned (.bool true) ∧ J (s ++ [x]) v W')
  (W : World) (h0 : J [] (.int .i64 lo) W) :
  CallsIn Fence.wide n Try.prog 101 #[.func (.yield l) #[] #[], .pointer (some ⟨c, 0, none⟩), .pointer (some ⟨h, 0, none⟩)] W fun e W' => (∃ u, e = .returned u) ∧ ∃ v, J (cover lo hi) v W' := by
 have HRD := Lib.hid hRd
 have HSET := Lib.hid hset
 have HY := Lib.hid hY
 clear hRd hset hY
 refine callsIn_of_wp Try.func101 rfl trivial ?_ rfl
 simp only [Try.ntmps101, List.size_toArray, List.length_cons, List.length_nil, Nat.reduceAdd, Nat.reduceSub, Array.replicate_succ, Array.replicate_zero, List.push_toArray, List.append_toArray, List.nil_append, List.cons_append]
 gi_wp2
 gi_loopw [4] (fun _ wr => ∃ (s : List (Int × Int)) (k : Nat), lo ≤ k ∧ k ≤ hi ∧ Hid (cover lo hi = s ++ cover k hi) ∧ J s (.int .i64 k) wr) (fun _ wr => hi - (intAt wr c).toNat)
 case atStart => exact ⟨[], lo, Nat.le_refl _, hle, rfl, h0⟩
 case round =>
  obtain ⟨s, k, hk1, hk2, HC, hj⟩ := hrel
  have hb := HRD.out _ _ _ hj
  have hbc := hb.1.cell
  have hbh := hb.2.cell
  have HM : Hid (intAt wr c = k) := intAt_eq hbc
  by_cases hkl : k < hi
  ·have hcs := cover_some k hi hkl
   have hd : 0 < hi - k := by omega
   obtain ⟨p, hp, hp2, hpd⟩ := bitLen_some (hi - k) hd (by omega)
   have hm1 := down_le k (hi - k) hd 20
   have hm0 := down_pos k (hi - k) 20
   have hpre : s ++ [((k : Int), ((k + down 20 k (hi - k) : Nat) : Int))] <+: cover lo hi := ⟨cover (k + down 20 k (hi - k)) hi, by rw [HC.out, hcs]; simp⟩
   obtain ⟨fn, tmps, assign, body, hy, hR⟩ := HY.out _ _ _ _ hpre hj
   have HR := Lib.hid hR
   have hyw : (Instr.yield l #[.agg #[.int .i64 (k : Int), .int .i64 ((k : Int) + (down 20 k (hi - k) : Int))]]).run Try.prog wr = .ok (.round l fn tmps assign body) wr := by
    have h := hy
    simp only [spanV, Int.natCast_add] at h
    exact h
   have HNEXT : Hid (cover lo hi = (s ++ [((k : Int), ((k + down 20 k (hi - k) : Nat) : Int))]) ++ cover (k + down 20 k (hi - k)) hi) := by show _ = _; rw [HC.out, hcs]; simp
   have hsub : ((hi : Int) - (k : Int)) = ((hi - k : Nat) : Int) := by omega
   have HSUB := Lib.hid hsub
   clear hy hR hpre hcs hsub
   by_cases hk0 : 0 < k
   ·have hpm : down 20 k (hi - k) = min (2 ^ p) (k &&& (2 ^ 64 - k)) := by rw [piece_more k (hi - k) hd (by omega) hk0 (by omega), hp]; rfl
    have HPM := Lib.hid hpm
    have HP := Lib.hid hp
    clear hpm hp
    generalize hM : down 20 k (hi - k) = m at *
    have HMM := Lib.hid hM
    have hkm : wrap64 ((k : Int) + (m : Int)) = (k : Int) + (m : Int) := by unfold wrap64; omega
    clear hM hpd
    gi_wp2
    refine ⟨trivial, (Len_at (n - 1) (hi - k) _ p HSUB.out hd (by omega) HP.out wr).mono ?_⟩
    rintro e w1 ⟨rfl, rfl⟩
    have hmin : min (wrap64 (2 ^ p)) (bits BinOp.and IntKind.i64 (k : Int) (-(k : Int))) = (m : Int) := by
     rw [pow_wrap p hp2, low_and k hk0 (by omega), HPM.out]; omega
    have HMIN := Lib.hid hmin
    have HKM := Lib.hid hkm
    have HYW := Lib.hid hyw
    clear hmin hkm hyw
    gi_wp2
    simp only [HMIN.out, HKM.out, HYW.out]
    gi_wp2
    refine HR.out.mono ?_
    rintro e W3 ⟨rfl, hj3⟩
    have hb3 := HRD.out _ _ _ hj3
    have hbc3 := hb3.1.cell
    have hbf3 := hb3.1.frozen
    have HB3 := Lib.hid hb3
    have hj4 := HSET.out _ _ (.int .i64 ((k + m : Nat) : Int)) _ hj3
    have HJ4 := Lib.hid hj4
    have HI4 : Hid (intAt (W3.setCell ⟨c, 0, none⟩ (.int .i64 ((k + m : Nat) : Int))) c = ((k + m : Nat) : Int)) := intAt_eq ((HRD.out _ _ _ hj4).1.cell)
    clear hb3 hj4 hj3
    gi_wp2
    go_roundw
    case rel => exact ⟨_, k + m, by omega, by omega, HNEXT.out, by have h := HJ4.out; rw [Int.natCast_add] at h; exact h⟩
    case measure =>
     have h := HI4.out
     rw [Int.natCast_add] at h
     rw [h, HM.out]
     omega
   ·have hpm : down 20 k (hi - k) = 2 ^ p := by
     have : k = 0 := by omega
     subst this
     rw [Nat.sub_zero] at *
     rw [piece_zero hi hd (by omega), hp]; rfl
    have HPM := Lib.hid hpm
    have HP := Lib.hid hp
    clear hpm hp
    generalize hM : down 20 k (hi - k) = m at *
    have HMM := Lib.hid hM
    have hkm : wrap64 ((k : Int) + (m : Int)) = (k : Int) + (m : Int) := by unfold wrap64; omega
    clear hM hpd
    gi_wp2
    refine ⟨trivial, (Len_at (n - 1) (hi - k) _ p HSUB.out hd (by omega) HP.out wr).mono ?_⟩
    rintro e w1 ⟨rfl, rfl⟩
    have hmin : wrap64 (2 ^ p) = (m : Int) := by rw [pow_wrap p hp2, HPM.out]
    gi_wp2
    refine HR.out.mono ?_
    rintro e W3 ⟨rfl, hj3⟩
    have hb3 := HRD.out _ _ _ hj3
    have hbc3 := hb3.1.cell
    have hbf3 := hb3.1.frozen
    have HB3 := Lib.hid hb3
    have hj4 := HSET.out _ _ (.int .i64 ((k + m : Nat) : Int)) _ hj3
    have HJ4 := Lib.hid hj4
    have HI4 : Hid (intAt (W3.setCell ⟨c, 0, none⟩ (.int .i64 ((k + m : Nat) : Int))) c = ((k + m : Nat) : Int)) := intAt_eq ((HRD.out _ _ _ hj4).1.cell)
    clear hb3 hj4 hj3
    gi_wp2
    go_roundw
    case rel => exact ⟨_, k + m, by omega, by omega, HNEXT.out, by have h := HJ4.out; rw [Int.natCast_add] at h; exact h⟩
    case measure =>
     have h := HI4.out
     rw [Int.natCast_add] at h
     rw [h, HM.out]
     omega
  ·have hkh : k = hi := by omega
   subst hkh
   gi_wp2
   go_end0
   exact ⟨⟨_, rfl⟩, _, by rw [HC.out, cover_none _ _ (Nat.le_refl _), List.append_nil]; exact hj⟩
end Go.Proofs.Ytjmeakfjfpnciaa
namespace Go.Proofs.Ytjmeakfjfpnciaa
open Go.RowKit
attribute [local go_sem] Oper.semAt_some
theorem Boxed_putObj {W : World} {B : Nat} {t : TypeId} {v : Value} (h : Boxed W B t v) {l : Nat} {o : Obj} (o' : Obj) (hl : W.heap[l]? = some o) (ho : o.isCells = false) : Boxed (W.putObj l o') B t v := by
 refine h.kept (grownBy_putObj' W l o') (fun e => ?_)
 cases e
 rw [show W.heap[B]? = _ from h] at hl
 cases hl
 cases ho
theorem Boxed_setOther {W : World} {B c : Nat} {t : TypeId} {v : Value} (h : Boxed W B t v) (hne : B ≠ c) (v' : Value) : Boxed (W.setCell ⟨c, 0, none⟩ v') B t v :=
 h.kept (grownBy_setCell' W c v') (fun e => hne (by cases e; rfl))
def Gathered (n0 B c h : Nat) (w : World) (hi : Nat) (s : List (Int × Int)) (v : Value) (W : World) : Prop :=
 (∃ u, Boxed W B 64 u ∧ W.ownsRow B 75 2 u s.length (flat s)) ∧ Boxed W c 3 v ∧ Boxed W h 3 (.int .i64 hi) ∧ Below n0 w W
theorem Gathered.alloc {n0 B c h : Nat} {w : World} {hi : Nat} {s : List (Int × Int)} {v : Value} {W : World} (g : Gathered n0 B c h w hi s v W) (hn : n0 ≤ w.heap.size) (o : Obj) : Gathered n0 B c h w hi s v (W.alloc o) := by
 obtain ⟨⟨u, b1, r⟩, b2, b3, b4⟩ := g
 exact ⟨⟨u, b1.alloc o, r.alloc o⟩, b2.alloc o, b3.alloc o, b4.alloc (Nat.le_trans hn b4.size) o⟩
theorem Gathered.put {n0 B c h : Nat} {w : World} {hi : Nat} {s : List (Int × Int)} {v : Value} {W : World} (g : Gathered n0 B c h w hi s v W) (hn : n0 ≤ w.heap.size) {l : Nat} {o : Obj} (o' : Obj) (hl : W.heap[l]? = some o) (ho : o.isCells = false) (hln : n0 ≤ l) : Gathered n0 B c h w hi s v (W.putObj l o') := by
 obtain ⟨⟨u, b1, r⟩, b2, b3, b4⟩ := g
 exact ⟨⟨u, Boxed_putObj b1 o' hl ho, ownsRow_putObj r o' hl ho⟩, Boxed_putObj b2 o' hl ho, Boxed_putObj b3 o' hl ho, b4.grown (grownBy_putObj' W l o') (Nat.le_trans hn b4.size) (fun k e => by cases e; exact hln)⟩
theorem Gathered.set {n0 B c h : Nat} {w : World} {hi : Nat} {s : List (Int × Int)} {v : Value} {W : World} (g : Gathered n0 B c h w hi s v W) (h0 : n0 ≤ c) (hcB : c < B) (hch : c ≠ h) (v' : Value) : Gathered n0 B c h w hi s v' (W.setCell ⟨c, 0, none⟩ v') := by
 obtain ⟨⟨u, b1, r⟩, b2, b3, b4⟩ := g
 refine ⟨⟨u, Boxed_setOther b1 (by omega) v', r.kept (grownBy_setCell' W c v') ?_⟩, b2.set v', Boxed_setOther b3 (Ne.symm hch) v', b4.setCell h0 v'⟩
 cases e : u.ownBlock with
 | none => exact Or.inl rfl
 | some q =>
  refine Or.inr (fun e' => ?_)
  have := (r.lt q e).1
  cases e'
  omega
theorem infoSpan : (Try.prog.info? 75).map (fun i => (i.zero, i.size, i.bytes)) = some (some (.agg #[.int .i64 0, .int .i64 0]), 2, 16) := by kernel_rfl
theorem appendSeq_in (n0 c h lo hi : Nat) (hle : lo ≤ hi) (hhi : hi ≤ 1048576) (w : World) (hb1 : Boxed w c 3 (.int .i64 lo)) (hb2 : Boxed w h 3 (.int .i64 hi)) (hch : c ≠ h) (h0 : n0 ≤ c) :
  CallsIn Fence.wide 6 Try.prog 154 #[.slice none 0 0, .func (.func 101) #[] #[.pointer (some ⟨c, 0, none⟩), .pointer (some ⟨h, 0, none⟩)]] w fun e w' =>
   ∃ v, e = .returned v ∧ w'.ownsRow w.heap.size 75 2 v (cover lo hi).length (flat (cover lo hi)) ∧ Below n0 w w' := by
 have hlen := cover_length lo hi
 obtain ⟨i0, hi0, hz0, hz1, hz2⟩ := info_parts infoSpan
 have hcl := hb1.lt
 refine callsIn_of_wp_marks Try.func154 rfl trivial ?_ rfl
 simp only [Try.ntmps154, List.size_toArray, List.length_cons, List.length_nil, Nat.reduceAdd, Nat.reduceSub, Array.replicate_succ, Array.replicate_zero, List.push_toArray, List.append_toArray, List.nil_append, List.cons_append]
 gi_wp2
 have hn0 : n0 ≤ w.heap.size := by omega
 have hlt2 := hb2.lt
 refine range_rounds rfl (by decide) (gf := 101) (lb := #[.pointer (some ⟨c, 0, none⟩), .pointer (some ⟨h, 0, none⟩)]) rfl trivial (enters_of Try.func101 (by kernel_rfl) rfl)
  (encs := fun x => #[spanV x]) (fun _ => rfl) c (cover lo hi) (.int .i64 lo) (Gathered n0 w.heap.size c h w hi) (fun v W => Boxed W c 3 v ∧ Boxed W h 3 (.int .i64 hi)) (fun s v W g => ⟨g.2.1, g.2.2.1⟩)
  (fun s v W l o o' hl ho hc g => g.put hn0 o' ho hc (by simp at hl; omega)) (fun s v W o g => g.alloc hn0 o) (fun s v v' W g => g.set h0 hcl hch v')
  ⟨⟨_, Boxed.new w _ _, World.ownsRow_nil _ _ _ _⟩, hb1.alloc _, hb2.alloc _, (Below.refl _ _).alloc hn0 _⟩ ?round ?iter ?done
 case iter =>
  intro l J W hRd hset hY hJ0
  exact blocks1_in _ (by decide) l c h lo hi hle hhi J hRd hset hY W hJ0
 case done =>
  intro D v W hD g hK
  obtain ⟨⟨u, b1, r⟩, b2, b3, b4⟩ := g
  have hcell := b1.cell
  gi_wp2
  refine ⟨by simp, .inl ⟨_, _, rfl, run_takeDeferred hK, ?_⟩⟩
  exact ⟨_, results_tmp rfl _ _ _, u, rfl, ownsRow_putObj r _ hK rfl, b4.grown (grownBy_putObj' W D _) (Nat.le_trans hn0 b4.size) (fun k e => by cases e; simp at hD; omega)⟩
 case round =>
  rintro l s ⟨x1, x2⟩ v W hl hpre g
  unfold spanV
  have hsl : s.length < (cover lo hi).length := by have := hpre.length_le; simp at this; omega
  gi_wp2
  refine ⟨KeepsOthers.alloc _ _, fun r o' hr => ?_⟩
  have hnl : W.heap.size ≠ l := by
   intro e
   subst e
   rw [World.alloc_heap_new] at hr
   cases hr
  have g2 := (g.alloc hn0 (.cells #[.int .i64 x1, .int .i64 x2] 75)).put hn0 o' hr rfl (by simp at hl; omega)
  have hx : ((W.alloc (.cells #[.int .i64 x1, .int .i64 x2] 75)).putObj l o').heap[W.heap.size]? = some (.cells #[.int .i64 x1, .int .i64 x2] 75 (0, 0)) :=
   (World.putObj_heap_other hnl).trans (World.alloc_heap_new W _)
  generalize (W.alloc (.cells #[.int .i64 x1, .int .i64 x2] 75)).putObj l o' = W2 at *
  have hx0 : W2.cell? ⟨W.heap.size, 0, none⟩ = some (.int .i64 x1) := by simp [World.cell?, hx]
  have hx1 : W2.cell? ⟨W.heap.size, 1, none⟩ = some (.int .i64 x2) := by simp [World.cell?, hx]
  obtain ⟨⟨u, b1, r1⟩, b2, b3, b4⟩ := g2
  have hcell := b1.cell
  have G := Lib.hid (And.intro b1 (And.intro r1 (And.intro b2 (And.intro b3 b4))))
  have hBW : w.heap.size ≤ W2.heap.size := b4.size
  clear hx hr g b1 r1 b2 b3 b4
  gi_wp2_with (gi_at_builtin; refine wpListIn_append_own _ rfl _ _ 64 rfl w.heap.size 75 i0 _ 2 16 Try.underlying64 hi0 hz0 hz1 hz2 rfl (by decide) u s.length (flat s) rfl (G.out.2.1.alloc _) ⟨W2.heap.size, 0, none⟩ 1 1 [.int .i64 x1, .int .i64 x2] rfl rfl (World.news_of_block (heap_alloc_new W2 _)) (by simp [Value.oneCell']) (by unfold maxLen; omega) (by omega) (by simp; omega) ?_; intro v' w1 hown' hgrow _; obtain ⟨g', cap', rfl⟩ := ownsRow_succ hown'; obtain ⟨hv1, hv2, hr2, hk2, hb2⟩ := G.out.1.appended (by decide) G.out.2.1 hBW (Nat.le_refl _) hown' hgrow; have hc1 := hv1.cell; have hf1 := hv1.frozen)
  have e1 : (s ++ [(x1, x2)]).length = s.length + 1 := by simp
  have e2 : flat (s ++ [(x1, x2)]) = flat s ++ [.int .i64 x1, .int .i64 x2] := by simp [flat]
  refine ⟨hk2, ⟨_, hv2, by rw [e1, e2]; exact hr2⟩, (hb2.block c hcl).trans G.out.2.2.1, (hb2.block h hlt2).trans G.out.2.2.2.1, G.out.2.2.2.2.trans (hb2.mono hn0)⟩
theorem collect_any (n0 c h lo hi : Nat) (hle : lo ≤ hi) (hhi : hi ≤ 1048576) (w : World) (hb1 : Boxed w c 3 (.int .i64 lo)) (hb2 : Boxed w h 3 (.int .i64 hi)) (hch : c ≠ h) (h0 : n0 ≤ c) :
  Calls Try.prog 98 #[.func (.func 101) #[] #[.pointer (some ⟨c, 0, none⟩), .pointer (some ⟨h, 0, none⟩)]] w fun e w' =>
   ∃ v, e = .returned v ∧ w'.ownsRow w.heap.size 75 2 v (cover lo hi).length (flat (cover lo hi)) ∧ Below n0 w w' := by
 have h := callsIn_wide.1 (appendSeq_in n0 c h lo hi hle hhi w hb1 hb2 hch h0)
 go_enter Try.func98, Try.ntmps98
 go_wp2_with fail
 refine h.mono ?_
 rintro e w1 ⟨v, rfl, hr, hb⟩
 go_wp2_with fail
 go_ret
 exact ⟨v, rfl, hr, hb⟩
structure MadeS (w w' : World) (v : Value) (gs : List (Int × Int)) : Prop where
 own : w'.ownsRow 0 75 2 v gs.length (flat gs)
 new_ : ∀ q, v.ownBlock = some q → w.heap.size ≤ q
 below : Below w.heap.size w w'
theorem blocks_any (lo hi : Int) (w : World) : Calls Try.prog 37 #[.int .i64 lo, .int .i64 hi] w fun e w' =>
  e = .returned (.func (.func 101) #[] #[.pointer (some ⟨w.heap.size, 0, none⟩), .pointer (some ⟨w.heap.size + 1, 0, none⟩)]) ∧ w' = (w.alloc (.cells #[.int .i64 lo] 3)).alloc (.cells #[.int .i64 hi] 3) := by
 go_enter Try.func37, Try.ntmps37
 go_wp2
 go_ret
 exact ⟨rfl, rfl⟩
theorem ownsRow_down {W : World} {base base' : Nat} {e : TypeId} {size : Nat} {v : Value} {k : Nat} {xs : List Value} (h : W.ownsRow base e size v k xs) (hb : base' ≤ base) : W.ownsRow base' e size v k xs := by
 refine ⟨h.1, ?_⟩
 rcases h.2 with h0 | ⟨g, cap, cur, hv, hg, rest⟩
 ·exact Or.inl h0
 ·exact Or.inr ⟨g, cap, cur, hv, Nat.le_trans hb hg, rest⟩
end Go.Proofs.Ytjmeakfjfpnciaa
namespace Go.Proofs.Ytjmeakfjfpnciaa
open Go.RowKit
abbrev blockB : ByteArray := ⟨#[98, 108, 111, 99, 107]⟩
def bothS (a b : ByteArray) : ByteArray := tagS blockB [a, b]
theorem bothS_size (a b : ByteArray) : (bothS a b).size = 32 := tagS_size _ _
def pcC (p : Pc) : List Value := [.int .i64 (p.lo : Int), .int .i64 (p.hi : Int)]
theorem pcC_len (p : Pc) : (pcC p).length = 2 := rfl
theorem RowO.cut {N g c n m size : Nat} {w : World} {e : TypeId} {xs : List Value} (h : RowO N w e size (.slice (some ⟨g, 0, none⟩) n c) n xs) (hm : m ≤ n) : RowO N w e size (.slice (some ⟨g, 0, none⟩) m c) m (xs.take (m * size)) := by
 have hms : m * size ≤ n * size := Nat.mul_le_mul_right _ hm
 refine ⟨by rw [List.length_take, h.1]; omega, Or.inr ?_⟩
 rcases h.2 with ⟨hv, _⟩ | ⟨g', cap, cur, hv, hb, hg, h1, h2, h3, h4⟩
 ·cases hv
 ·simp only [Value.slice.injEq, Option.some.injEq, Addr.mk.injEq, and_true, true_and] at hv
  obtain ⟨rfl, rfl⟩ := hv
  refine ⟨g, c, cur, rfl, hb, hg, by omega, h2, h3, ?_⟩
  rw [← h4, List.take_take, Nat.min_eq_left hms]
theorem RowO.addr {N n size : Nat} {w : World} {e : TypeId} {v : Value} {xs : List Value} (h : RowO N w e size v n xs) (h0 : 0 < n) : ∃ g c, v = .slice (some ⟨g, 0, none⟩) n c := by
 rcases h.2 with ⟨_, h1⟩ | ⟨g, cap, cur, hv, _⟩
 ·omega
 ·exact ⟨g, cap, hv⟩
theorem RowO.cap {N n m c size : Nat} {a : Option Addr} {w : World} {e : TypeId} {xs : List Value} (h : RowO N w e size (.slice a m c) n xs) : m ≤ c := by
 rcases h.2 with ⟨h1, _⟩ | ⟨g, cap, cur, hv, _, _, h1, _⟩
 ·cases h1; exact Nat.le_refl _
 ·cases hv; exact h1
structure HeapAt (W : World) (N hb off : Nat) (t : TypeId) (cs : List Value) (vs vd : Value) (l : List Pc) : Prop where
 bx : Bx W hb t cs
 c0 : cs[off]? = some vs
 c1 : cs[off + 1]? = some vd
 rs : RowO N W 75 2 vs l.length (l.flatMap pcC)
 rd : RowO N W 9 1 vd l.length (l.map fun p => Value.string p.d)
 ap : ∀ q, vs.ownBlock = some q → vd.ownBlock ≠ some q
 hs : vs.ownBlock ≠ some hb
 hd : vd.ownBlock ≠ some hb
theorem HeapAt.up {W W' : World} {N hb off : Nat} {t : TypeId} {cs : List Value} {vs vd : Value} {l : List Pc} (h : HeapAt W N hb off t cs vs vd l) (hb9 : Below W.heap.size W W') : HeapAt W' N hb off t cs vs vd l :=
 ⟨h.bx.up hb9, h.c0, h.c1, h.rs.up hb9, h.rd.up hb9, h.ap, h.hs, h.hd⟩
structure PutR (w w' : World) (N hb off : Nat) (t : TypeId) (cs : List Value) (vs vd : Value) (l : List Pc) : Prop where
 ex : ∃ us ud, HeapAt w' N hb off t ((cs.set off us).set (off + 1) ud) us ud l ∧ (∀ q, us.ownBlock = some q → vs.ownBlock = some q ∨ w.heap.size ≤ q) ∧ (∀ q, ud.ownBlock = some q → vd.ownBlock = some q ∨ w.heap.size ≤ q)
 kept : Kept (fun q => q = hb ∨ vs.ownBlock = some q ∨ vd.ownBlock = some q) w w'
theorem set_here {α : Type} {cs : List α} {i : Nat} {v : α} (h : cs[i]? = some v) : cs.set i v = cs := by
 obtain ⟨hi, rfl⟩ := List.getElem?_eq_some_iff.1 h
 exact List.set_getElem_self hi
theorem HeapAt.fill {W : World} {N hb off : Nat} {t : TypeId} {cs : List Value} {vs vd : Value} {l : List Pc} (h : HeapAt W N hb off t cs vs vd l) : HeapAt W N hb off t ((cs.set off vs).set (off + 1) vd) vs vd l := by
 rw [set_here h.c0, set_here h.c1]; exact h
theorem HeapAt.cells {W : World} {N hb off g q n n' c c' : Nat} {t : TypeId} {cs : List Value} {l : List Pc} (h : HeapAt W N hb off t cs (.slice (some ⟨g, 0, none⟩) n c) (.slice (some ⟨q, 0, none⟩) n' c') l) (j : Nat) (hj : j < l.length) :
  W.cell? ⟨g, j * 2, none⟩ = some (.int .i64 (l[j].lo : Int)) ∧ W.cell? ⟨g, j * 2 + 1, none⟩ = some (.int .i64 (l[j].hi : Int)) ∧ W.cell? ⟨q, j, none⟩ = some (.string l[j].d) ∧ g < W.heap.size ∧ q < W.heap.size := by
 have hn := h.rs.form
 obtain ⟨_, _, e⟩ := hn
 cases e
 have hn := h.rd.form
 obtain ⟨_, _, e⟩ := hn
 cases e
 obtain ⟨b, o, e, hlt, hc⟩ := h.rs.sl.elem pcC_len (by omega) j hj
 cases e
 obtain ⟨b, o, e, hlt', hc'⟩ := h.rd.sl.at j (by rw [List.length_map]; exact hj)
 cases e
 have h0 := hc 0 _ rfl
 have h1 := hc 1 _ rfl
 rw [Nat.zero_add] at h0 h1 hc'
 rw [Nat.add_zero] at h0
 rw [List.getElem_map] at hc'
 exact ⟨h0, h1, hc', hlt, hlt'⟩
theorem set_twice {α : Type} (cs : List α) (a : Nat) (x y x' y' : α) : (((cs.set a x).set (a + 1) y).set a x').set (a + 1) y' = (cs.set a x').set (a + 1) y' := by
 rw [List.set_comm x' y' (by omega), List.set_set, List.set_comm x y' (by omega), List.set_set]
 rw [List.set_comm x' y' (by omega)]
theorem flat_take (l : List Pc) (j : Nat) (hj : j < l.length) : ((l.take (j + 1)).flatMap pcC).take (j * 2) = (l.take j).flatMap pcC := by
 rw [flat_snoc pcC l j hj, List.take_append_of_le_length (by rw [flat_len pcC 2 pcC_len, List.length_take]; omega), List.take_of_length_le (by rw [flat_len pcC 2 pcC_len, List.length_take]; omega)]
theorem kept_gr {b : Nat} {W w : World} (h : Kept (fun q => q = b) W w) : W.grownBy w (some b) :=
 ⟨h.os, h.tape, h.output, h.size, fun q hq hne => h.block q hq (fun e => hne (by rw [e]))⟩
theorem HeapAt.pop {W' : World} {N hb off g q n c n' c' j : Nat} {t : TypeId} {cs : List Value} {l : List Pc} {W : World} (hj : j < l.length) (hn : n = j + 1) (hn' : n' = j + 1)
  (h : HeapAt W N hb off t ((cs.set off (.slice (some ⟨g, 0, none⟩) n c)).set (off + 1) (.slice (some ⟨q, 0, none⟩) n' c')) (.slice (some ⟨g, 0, none⟩) n c) (.slice (some ⟨q, 0, none⟩) n' c') (l.take (j + 1)))
  (hx : Bx W' hb t ((((cs.set off (.slice (some ⟨g, 0, none⟩) n c)).set (off + 1) (.slice (some ⟨q, 0, none⟩) n' c')).set off (.slice (some ⟨g, 0, none⟩) j c)).set (off + 1) (.slice (some ⟨q, 0, none⟩) j c')))
  (hrs : RowO N W' 75 2 (.slice (some ⟨g, 0, none⟩) n c) (l.take (j + 1)).length ((l.take (j + 1)).flatMap pcC)) (hrd : RowO N W' 9 1 (.slice (some ⟨q, 0, none⟩) n' c') (l.take (j + 1)).length ((l.take (j + 1)).map fun p => Value.string p.d)) :
  HeapAt W' N hb off t ((cs.set off (.slice (some ⟨g, 0, none⟩) j c)).set (off + 1) (.slice (some ⟨q, 0, none⟩) j c')) (.slice (some ⟨g, 0, none⟩) j c) (.slice (some ⟨q, 0, none⟩) j c') (l.take j) := by
 subst hn
 subst hn'
 have hl1 : (l.take (j + 1)).length = j + 1 := by rw [List.length_take]; omega
 have hl0 : (l.take j).length = j := by rw [List.length_take]; omega
 have e0 := (List.getElem?_eq_some_iff.1 h.c0).1
 have e1 := (List.getElem?_eq_some_iff.1 h.c1).1
 simp only [List.length_set] at e0 e1
 rw [set_twice] at hx
 refine ⟨hx, ?_, ?_, ?_, ?_, h.ap, h.hs, h.hd⟩
 ·rw [List.getElem?_set_ne (by omega), List.getElem?_set_self (by omega)]
 ·rw [List.getElem?_set_self (by simp; omega)]
 ·rw [hl1] at hrs
  exact (hrs.cut (Nat.le_succ j)).eq (flat_take l j hj) hl0.symm
 ·rw [hl1] at hrd
  refine (hrd.cut (Nat.le_succ j)).eq ?_ hl0.symm
  rw [← List.map_take, List.take_take]
  congr 2
  omega
theorem take_rev (l : List Pc) (j : Nat) (h : j < l.length) : (l.take (j + 1)).reverse = l[j] :: (l.take j).reverse := by
 rw [List.take_succ_eq_append_getElem h]; simp
theorem Kept.mono {P P' : Nat → Prop} {W w : World} (h : Kept P W w) (hp : ∀ q, P q → P' q) : Kept P' W w := ⟨h.os, h.tape, h.output, h.size, fun q hq hn => h.block q hq (fun e => hn (hp q e))⟩
structure Keeps (P : Nat → Prop) (W : World) where
 w : World
 h : Kept P W w
theorem Keeps.cell {P : Nat → Prop} {W : World} (E : Keeps P W) {b : Nat} (o : Nat) (hb : b < W.heap.size) (hn : ¬ P b) : E.w.cell? ⟨b, o, none⟩ = W.cell? ⟨b, o, none⟩ := cell_of_block (E.h.block b hb hn) o
instance (P : Nat → Prop) (W : World) : Nonempty (Keeps P W) := ⟨⟨W, Kept.refl P W⟩⟩
structure TwoAt (U V : Nat → Prop) (W w : World) (N : Nat) (us ud : Value) (n m : Nat) (xs ys : List Value) : Prop where
 k : Kept (fun q => U q ∨ V q) W w
 rs : RowO N w 75 2 us n xs
 rd : RowO N w 9 1 ud m ys
 ap : ∀ q, us.ownBlock = some q → ud.ownBlock ≠ some q
 hu : ∀ q, us.ownBlock = some q → U q ∨ W.heap.size ≤ q
 hv : ∀ q, ud.ownBlock = some q → V q ∨ W.heap.size ≤ q
section
variable {U V : Nat → Prop} {W w w' : World} {N n m g c : Nat} {us ud : Value} {xs ys zs : List Value}
theorem TwoAt.up (h : TwoAt U V W w N us ud n m xs ys) (hb : Below w.heap.size w w') : TwoAt U V W w' N us ud n m xs ys :=
 ⟨h.k.up hb, h.rs.up hb, h.rd.up hb, h.ap, h.hu, h.hv⟩
theorem TwoAt.pushS (h : TwoAt U V W w N us ud n m xs ys) (hr : RowO N w' 75 2 (.slice (some ⟨g, 0, none⟩) (n + 1) c) (n + 1) zs) (hg : w.grownBy w' us.ownBlock) (ha : us.ownBlock = some g ∨ g = w.heap.size) : TwoAt U V W w' N (.slice (some ⟨g, 0, none⟩) (n + 1) c) ud (n + 1) m zs ys := by
 have hs := h.k.size
 refine ⟨h.k.grown hg (fun q e => ?_), hr, h.rd.grown hg (fun q e e2 => h.ap q e2 e), ?_, ?_, h.hv⟩
 ·rcases h.hu q e with h1 | h1
  ·exact Or.inr (Or.inl h1)
  ·exact Or.inl h1
 ·intro q e e2
  have e' : some g = some q := e
  cases e'
  rcases ha with h1 | h1
  ·exact h.ap g h1 e2
  ·have := (h.rd.lt g e2).2; omega
 ·intro q e
  have e' : some g = some q := e
  cases e'
  rcases ha with h1 | h1
  ·exact h.hu g h1
  ·exact Or.inr (by omega)
theorem TwoAt.pushD (h : TwoAt U V W w N us ud n m xs ys) (hr : RowO N w' 9 1 (.slice (some ⟨g, 0, none⟩) (m + 1) c) (m + 1) zs) (hg : w.grownBy w' ud.ownBlock) (ha : ud.ownBlock = some g ∨ g = w.heap.size) : TwoAt U V W w' N us (.slice (some ⟨g, 0, none⟩) (m + 1) c) n (m + 1) xs zs := by
 have hs := h.k.size
 refine ⟨h.k.grown hg (fun q e => ?_), h.rs.grown hg (fun q e e2 => h.ap q e e2), hr, ?_, h.hu, ?_⟩
 ·rcases h.hv q e with h1 | h1
  ·exact Or.inr (Or.inr h1)
  ·exact Or.inl h1
 ·intro q e e2
  have e' : some g = some q := e2
  cases e'
  rcases ha with h1 | h1
  ·exact h.ap g e h1
  ·have := (h.rs.lt g e).2; omega
 ·intro q e
  have e' : some g = some q := e
  cases e'
  rcases ha with h1 | h1
  ·exact h.hv g h1
  ·exact Or.inr (by omega)
end
theorem put_close {w wc wz wy : World} {N hb off n m : Nat} {t : TypeId} {cs : List Value} {vs vd us ud xs ys : Value} {l l2 : List Pc} {c : Pc} {H : ByteArray → ByteArray → ByteArray} {s : Pc}
  (hL : mergeH H l.reverse s = c :: l2.reverse) (hH : HeapAt wc N hb off t ((cs.set off us).set (off + 1) ud) us ud l2) (hO : us.ownBlock = vs.ownBlock ∧ ud.ownBlock = vd.ownBlock) (hK : Kept (fun q => q = hb) w wc) (_ : hb < w.heap.size)
  (hT : TwoAt (fun q => us.ownBlock = some q) (fun q => ud.ownBlock = some q) wc wz N xs ys n m (l2.flatMap pcC ++ pcC c) ((l2.map fun p => Value.string p.d) ++ [Value.string c.d])) (hn : n = l2.length + 1) (hm : m = l2.length + 1)
  (hx : Bx wy hb t ((((cs.set off us).set (off + 1) ud).set off xs).set (off + 1) ys)) (hg : wz.grownBy wy (some hb)) : PutR w wy N hb off t cs vs vd (mergeH H l.reverse s).reverse := by
 have e0 := (List.getElem?_eq_some_iff.1 hH.c0).1
 have e1 := (List.getElem?_eq_some_iff.1 hH.c1).1
 simp only [List.length_set] at e0 e1
 have hlt := hH.bx.lt
 have hsz := hK.size
 rw [set_twice] at hx
 rw [hL, List.reverse_cons, List.reverse_reverse]
 have hxb : xs.ownBlock ≠ some hb := fun e => by
  rcases hT.hu hb e with h1 | h1
  ·exact hH.hs h1
  ·omega
 have hyb : ys.ownBlock ≠ some hb := fun e => by
  rcases hT.hv hb e with h1 | h1
  ·exact hH.hd h1
  ·omega
 refine ⟨⟨xs, ys, ⟨hx, ?_, ?_, ?_, ?_, hT.ap, hxb, hyb⟩, ?_, ?_⟩, ?_⟩
 ·rw [List.getElem?_set_ne (by omega), List.getElem?_set_self (by omega)]
 ·rw [List.getElem?_set_self (by simp; omega)]
 ·exact (hT.rs.grown hg (fun q e e2 => hxb (e.trans e2.symm))).eq (by rw [List.flatMap_append]; simp) (by rw [hn]; simp)
 ·exact (hT.rd.grown hg (fun q e e2 => hyb (e.trans e2.symm))).eq (by rw [List.map_append]; rfl) (by rw [hm]; simp)
 ·intro q e
  rcases hT.hu q e with h1 | h1
  ·exact Or.inl (hO.1 ▸ h1)
  ·exact Or.inr (by omega)
 ·intro q e
  rcases hT.hv q e with h1 | h1
  ·exact Or.inl (hO.2 ▸ h1)
  ·exact Or.inr (by omega)
 ·refine ((hK.mono (fun q e => Or.inl e)).trans (hT.k.mono (fun q e => ?_))).grown hg (fun q e => Or.inr (Or.inl (Option.some.inj e).symm))
  rcases e with e | e
  ·exact Or.inr (Or.inl (hO.1 ▸ e))
  ·exact Or.inr (Or.inr (hO.2 ▸ e))
theorem infoStrP : (Try.prog.info? 9).map (fun i => (i.zero, i.size, i.bytes)) = some (some (.string ⟨#[]⟩), 1, 16) := by kernel_rfl
theorem put_step {H : ByteArray → ByteArray → ByteArray} (hH : ∀ a b, (H a b).size = 32) {a0 : Nat} {m : List Pc} {s c p : Pc} {r t : List Pc} (e : t = p :: r) (h : mergeH H t c = mergeH H m s ∧ RunR a0 t c.lo ∧ c.lo < c.hi ∧ c.hi ≤ 1048576 ∧ c.d.size < 140737488355328) (hh : halves p c = true) :
  mergeH H r ⟨p.lo, c.hi, H p.d c.d⟩ = mergeH H m s ∧ RunR a0 r p.lo ∧ p.lo < c.hi ∧ c.hi ≤ 1048576 ∧ (H p.d c.d).size < 140737488355328 := by
 subst e
 obtain ⟨h1, ⟨h2, h3, h4⟩, h5, h6, _⟩ := h
 rw [mergeH, if_pos hh] at h1
 exact ⟨h1, h4, by omega, h6, by rw [hH]; decide⟩
theorem put_less {j : Nat} (h : wrap64 (j : Int) = (j : Int)) : (intOf (.int .i64 (wrap64 (j : Int)))).toNat < (intOf (.int .i64 ((j + 1 : Nat) : Int))).toNat := by
 rw [h]; simp [intOf]
theorem put_stop {H : ByteArray → ByteArray → ByteArray} {a0 : Nat} {m : List Pc} {s c p : Pc} {r t : List Pc} (e : t = p :: r) (h : mergeH H t c = mergeH H m s ∧ RunR a0 t c.lo ∧ c.lo < c.hi ∧ c.hi ≤ 1048576 ∧ c.d.size < 140737488355328) (hh : halves p c = false) : mergeH H m s = c :: t := by
 subst e
 rw [← h.1, mergeH, if_neg (by rw [hh]; decide)]
def TagCalls (f : FuncId) (label : ByteArray) (T : List ByteArray → ByteArray) : Prop := ∀ (ps : List ByteArray), ps.length ≤ 3 → (∀ x ∈ ps, x.size < 140737488355328) → ∀ (a : Option Addr) (c : Nat) (w : World), Sl w w.heap.size a (ps.map Value.string) → Calls Try.prog f #[.string label, .slice a ps.length c] w fun e w' => e = .returned (.string (T ps)) ∧ Below w.heap.size w w'
theorem put_gen (H : ByteArray → ByteArray → ByteArray) (h32 : ∀ a b, (H a b).size = 32) (T : List ByteArray → ByteArray) (hT : ∀ a b, T [a, b] = H a b) (hTC : TagCalls 103 blockB T) (N hb off : Nat) (t : TypeId) (cs : List Value) (vs vd : Value) (l : List Pc) (s : Pc) (a0 : Nat) (hr : RunR a0 l.reverse s.lo) (hs : s.lo < s.hi) (hh : s.hi ≤ 1048576) (hd : ∀ p ∈ l, p.d.size < 140737488355328) (hsd : s.d.size < 140737488355328) (hl : l.length ≤ 1048576) (w : World) (hN : N ≤ w.heap.size) (hH : HeapAt w N hb off t cs vs vd l) :
  Calls Try.prog 38 #[.pointer (some ⟨hb, off, none⟩), .agg #[.int .i64 (s.lo : Int), .int .i64 (s.hi : Int)], .string s.d] w fun e w' => e = .returned (.tuple #[]) ∧ PutR w w' N hb off t cs vs vd ((mergeH H l.reverse s).reverse) := by
 have HHZ := Lib.hid h32
 have HTC := Lib.hid (fun x y hx hy a c w hX => hT x y ▸ hTC [x, y] (by simp) (by intro z hz; rcases List.mem_cons.1 hz with rfl | hz; exact hx; rcases List.mem_cons.1 hz with rfl | hz; exact hy; cases hz) a c w hX)
 clear h32 hTC hT
 have HL := Lib.hid hl
 have HDS := Lib.hid hd
 have HHB := Lib.hid hH.bx.lt
 have hc0 := hH.bx.cell hH.c0
 have hc1 := hH.bx.cell hH.c1
 have HH := Lib.hid hH
 have HN := Lib.hid hN
 clear hH hN hd hl
 obtain ⟨ga, gc, rfl⟩ := HH.out.rs.form
 obtain ⟨da, dc, rfl⟩ := HH.out.rd.form
 have HOL := Lib.hid (show (∀ q, (Value.slice ga l.length gc).ownBlock = some q → q < w.heap.size) ∧ (∀ q, (Value.slice da l.length dc).ownBlock = some q → q < w.heap.size) from ⟨fun q e => (HH.out.rs.lt q e).2, fun q e => (HH.out.rd.lt q e).2⟩)
 go_enter Try.func38, Try.ntmps38
 go_upto_region 1 with (fail)
 obtain ⟨w1, hq1, hb9, hz9, Hsb⟩ := new1 w 75 [.int .i64 (s.lo : Int), .int .i64 (s.hi : Int)]
 rw [hq1]
 clear hq1
 have HB := Lib.hid hb9
 have HZS := hz9
 clear hb9 hz9
 have sb_ := Hsb.out.c2
 have hcu0 := (HB.out.cell (p := ⟨hb, off, none⟩) HHB.out).trans hc0
 have hcu1 := (HB.out.cell (p := ⟨hb, off + 1, none⟩) HHB.out).trans hc1
 go_upto_block 0 with fail
 go_cut [2] from 6 (fun d wq => ∃ (m : Nat) (c : Pc) (us ud : Value), m ≤ l.length ∧ d = .string c.d ∧ Hid (mergeH H l.reverse s = c :: (l.take m).reverse) ∧ Hid (Bx wq w.heap.size 75 [.int .i64 (c.lo : Int), .int .i64 (c.hi : Int)]) ∧ Hid (HeapAt wq N hb off t ((cs.set off us).set (off + 1) ud) us ud (l.take m)) ∧ Hid (us.ownBlock = (Value.slice ga l.length gc).ownBlock ∧ ud.ownBlock = (Value.slice da l.length dc).ownBlock) ∧ Hid (Kept (fun q => q = hb) w wq))
 case first =>
  go_wp2_with fail
  go_loopw [6, 2] (fun n d wr => ∃ (m : Nat) (c : Pc) (us ud : Value), m ≤ l.length ∧ n = .int .i64 (m : Int) ∧ d = .string c.d ∧ Hid (mergeH H (l.take m).reverse c = mergeH H l.reverse s ∧ RunR a0 (l.take m).reverse c.lo ∧ c.lo < c.hi ∧ c.hi ≤ 1048576 ∧ c.d.size < 140737488355328) ∧ Hid (Bx wr w.heap.size 75 [.int .i64 (c.lo : Int), .int .i64 (c.hi : Int)]) ∧ Hid (HeapAt wr N hb off t ((cs.set off us).set (off + 1) ud) us ud (l.take m)) ∧ Hid (us.ownBlock = (Value.slice ga l.length gc).ownBlock ∧ ud.ownBlock = (Value.slice da l.length dc).ownBlock) ∧ Hid (Kept (fun q => q = hb) w wr)) (fun n _ _ => (intOf n).toNat)
  case atStart => exact ⟨l.length, s, _, _, Nat.le_refl _, rfl, rfl, by rw [List.take_length]; exact ⟨rfl, hr, hs, hh, hsd⟩, Hsb, by rw [List.take_length]; exact (HH.out.up HB.out).fill, ⟨rfl, rfl⟩, (Kept.refl _ _).up HB.out⟩
  case round =>
   clear Hsb HB sb_ hcu0 hcu1 HH hs hh hsd hr hc0 hc1
   obtain ⟨m, c, us, ud, hm, rfl, rfl, HC, Hsb, HH, HO, HK⟩ := hrel
   have HBB := Lib.hid (HH.out.bx.lt)
   have HSZ := Lib.hid (HK.out.size)
   have hcu0 := HH.out.bx.cell HH.out.c0
   have hcu1 := HH.out.bx.cell HH.out.c1
   rcases m with _ | j
   ·go_wp2_with fail
    go_meet
    case rel => exact ⟨0, c, us, ud, Nat.zero_le _, rfl, HC.out.1.symm, Hsb, HH, HO, HK⟩
   ·have hj : j < l.length := hm
    have HTR := Lib.hid (take_rev l j hj)
    obtain ⟨g, gc', rfl⟩ := HH.out.rs.addr (by rw [List.length_take]; omega)
    obtain ⟨q, qc', rfl⟩ := HH.out.rd.addr (by rw [List.length_take]; omega)
    have hln : (l.take (j + 1)).length = j + 1 := by rw [List.length_take]; omega
    obtain ⟨hp0, hp1, hp2, hgl, hql⟩ := HH.out.cells j (by omega)
    rw [List.getElem_take] at hp0 hp1 hp2
    rw [hln] at *
    obtain ⟨p, hp⟩ : ∃ p, l[j] = p := ⟨_, rfl⟩
    have HPD := Lib.hid (HDS.out _ (List.getElem_mem hj))
    rw [hp] at hp0 hp1 hp2 HTR HPD
    have hr2 := HC.out.2.1
    rw [HTR.out] at hr2
    have HRP := Lib.hid hr2
    have hr0 := hr2.1
    have hr1 := hr2.2.1
    obtain ⟨_, _, hcl, hch, _⟩ := HC.out
    obtain ⟨y, hy⟩ : ∃ y, p.hi - p.lo = y := ⟨_, rfl⟩
    obtain ⟨z, hz⟩ : ∃ z, c.hi - c.lo = z := ⟨_, rfl⟩
    have hwj : wrap64 (j : Int) = (j : Int) := by have := HL.out; unfold wrap64; omega
    have HWJ := Lib.hid hwj
    have hwy : wrap64 ((p.hi : Int) - (p.lo : Int)) = (y : Int) := by unfold wrap64; omega
    have hwz : wrap64 ((c.hi : Int) - (c.lo : Int)) = (z : Int) := by unfold wrap64; omega
    have hw2 : wrap64 (2 * (z : Int)) = ((2 * z : Nat) : Int) := by unfold wrap64; omega
    have hz0 : ¬ (((2 * z : Nat) : Int) = 0) := by omega
    have HYZ := Lib.hid (show halves p c = (decide (z = y) && decide (p.lo % (2 * z) = 0)) by unfold halves; rw [hy, hz])
    have Hh := Lib.hid HH.out.bx
    have Hrs := Lib.hid HH.out.rs
    have Hrd := Lib.hid HH.out.rd
    have HS1 := Lib.hid (show w.heap.size < wr.heap.size from Hsb.out.lt)
    have HS2 := Lib.hid (show g < w.heap.size ∧ q < w.heap.size from ⟨HOL.out.1 g HO.out.1.symm, HOL.out.2 q HO.out.2.symm⟩)
    have HJ := Lib.hid hj
    generalize 2 * z = zz at *
    clear hp hm hr2 hr0 hr1 hcl hch hy hz hj hln
    by_cases hyz : z = y
    ·subst hyz
     by_cases hrm : p.lo % zz = 0
     ·have hb2 : (((p.lo : Int) % (zz : Int)) != 0) = false := by
       have : ((p.lo : Int) % (zz : Int)) = ((p.lo % zz : Nat) : Int) := rfl
       rw [this, hrm]; rfl
      have hb1 : ((z : Int) != (z : Int)) = false := by simp
      have HHV := Lib.hid (show halves p c = true by rw [HYZ.out, decide_eq_true hrm]; simp)
      clear hrm HYZ
      replace HZS := sz HZS HBB.out
      replace HZS := sz HZS HSZ.out
      replace HZS := sz HZS HS1.out
      replace HZS := sz HZS HS2.out
      replace HZS := sz HZS HHB.out
      replace HZS := sz HZS HN.out
      have sb_ := Hsb.out.c2
      have BW := Lib.hid (Below.refl wr.heap.size wr)
      have HKS := Lib.hid (Kept.refl (fun q9 => q9 = w.heap.size) wr)
      have o2_sb_ := sb_; clear sb_
      obtain ⟨w2, hq2, hb9, hz9, Hlast⟩ := new1 wr 75 [.int .i64 (p.lo : Int), .int .i64 (p.hi : Int)]
      replace Hsb := Lib.hid (Hsb.out.up hb9)
      replace Hh := Lib.hid (Hh.out.up hb9)
      replace BW := hbu BW hb9
      replace HK := Lib.hid (Kept.up HK.out hb9)
      replace HKS := Lib.hid (Kept.up HKS.out hb9)
      replace HZS := sz HZS hz9.out
      clear hb9 hz9
      have sb_ := Hsb.out.c2
      have last_ := Hlast.out.c2
      go_wp2_with fail
      clear hq2 o2_sb_
      have HTG := Lib.hid (fun a c' w hX => HTC.out p.d c.d HPD.out HC.out.2.2.2.2 a c' w hX)
      have hql2 : q < w2.heap.size := by have := HZS.out; omega
      have hbl2 : hb < w2.heap.size := by have := HZS.out; omega
      have hcv1 := Hh.out.cell HH.out.c1
      replace hp2 := (BW.out.cell (p := ⟨q, j, none⟩) hql).trans hp2
      clear BW
      have HT := Lib.hid (show Below w2.heap.size w2 w2.drew from (Below.refl _ _).drew)
      have hl_sb := Hsb.out.lt
      have hl_last := Hlast.out.lt
      refine wp_region_treek (fun wq9 => ∃ E : Over w2, wq9 = E.w) 16 ((.qs [0] (.e 1 [] (.qs [2] (.e 3 [] (.qs [4, 5, 6, 7] (.e 8 [11, 12, 14, 15] (.qs [9, 10, 11] (.e 12 [14, 15] (.qs [13] (.a 14 (.a 15 (.a 16 (.qs [17] .done)))))))))))))) (by kernel_rfl) (by kernel_rfl) (fun _ _ d _ _ h => by cases d <;> exact h) ⟨⟨_, HT.out⟩, rfl⟩ ?_
      have hov_sb := fun (E : Over w2) o => E.cell (b := w.heap.size) o hl_sb
      have hov_last := fun (E : Over w2) o => E.cell (b := wr.heap.size) o hl_last
      have hov_q := fun (E : Over w2) o => E.cell (b := q) o hql2
      have hov_hb := fun (E : Over w2) o => E.cell (b := hb) o hbl2
      simp only [TreeK.qs]
      repeat (first | (refine treek_q rfl rfl ?_; go_big_quiet_step (fail); refine wpQuiet_nil ?_) | (refine treek_e rfl rfl ?_; go_big_quiet_step (fail); refine wpQuiet_nil ?_))
      refine treek_a rfl (fun K hK => ?_)
      go_simp
      obtain ⟨w3, hq9, hb9, hz9, Hr⟩ := new1D w2 9 [.string p.d, .string c.d]
      rw [hq9]
      clear hq9
      have HAr := Lib.hid HT.out.size
      replace HT := Lib.hid hb9
      replace HZS := sz HZS (show w2.heap.size ≤ w3.heap.size from HT.out.size)
      clear hb9 hz9
      refine hK _ _ ⟨fun _ => ⟨⟨w3, HT.out⟩, rfl⟩, ?_⟩
      clear hK K
      repeat (first | (refine treek_q rfl rfl ?_; go_big_quiet_step (fail); refine wpQuiet_nil ?_) | (refine treek_e rfl rfl ?_; go_big_quiet_step (fail); refine wpQuiet_nil ?_))
      refine treek_a rfl (fun K hK => ?_)
      go_simp
      refine (HTG.out _ _ _ (Sl.ofB Hr.out)).mono ?_
      rintro e w4 ⟨rfl, hb9⟩
      replace Hr := Lib.hid (Hr.out.up hb9)
      replace HT := Lib.hid (below_up HT.out hb9)
      replace HZS := sz HZS (show w2.heap.size ≤ w4.heap.size from HT.out.size)
      clear hb9
      refine hK _ _ ⟨fun _ => ⟨⟨w4, HT.out⟩, rfl⟩, ?_⟩
      clear hK K
      repeat (first | (refine treek_q rfl rfl ?_; go_big_quiet_step (fail); refine wpQuiet_nil ?_) | (refine treek_e rfl rfl ?_; go_big_quiet_step (fail); refine wpQuiet_nil ?_))
      clear hov_sb hl_sb hov_last hl_last hov_q hov_hb
      refine treek_a rfl (fun K hK => ?_)
      clear sb_
      replace Hsb := Lib.hid (Hsb.out.up HT.out)
      replace Hh := Lib.hid (Hh.out.up HT.out)
      clear last_
      replace Hlast := Lib.hid (Hlast.out.up HT.out)
      replace HK := Lib.hid (Kept.up HK.out HT.out)
      replace HKS := Lib.hid (Kept.up HKS.out HT.out)
      replace HZS := sz HZS HT.out.size
      clear HT Hr
      have sb_ := Hsb.out.c2
      have last_ := Hlast.out.c2
      have f5_sb := Hsb.out.frozen
      have o5_sb_ := sb_; clear sb_
      have o5_last_ := last_; clear last_
      obtain ⟨w5, hq5, hg9, hz9, hx9⟩ := put2 Hsb 0 (.int .i64 (p.lo : Int)) 1 (.int .i64 (c.hi : Int)) [.int .i64 (p.lo : Int), .int .i64 (c.hi : Int)] rfl
      replace Hh := Lib.hid (Hh.out.grown hg9.out (sne (by have g0 := HZS.out; omega)))
      replace Hlast := Lib.hid (Hlast.out.grown hg9.out (sne (by have g0 := HZS.out; omega)))
      replace HK := Lib.hid (Kept.grown HK.out hg9.out (fun q9 e9 => by obtain rfl := Option.some.inj e9; exact Or.inl (show w.heap.size ≤ w.heap.size by have g0 := HZS.out; omega)))
      replace HKS := Lib.hid (Kept.grown HKS.out hg9.out (fun q9 e9 => by obtain rfl := Option.some.inj e9; exact Or.inr (rfl)))
      replace HZS := sz HZS hz9.out
      replace Hsb := hx9
      clear hx9 hg9 hz9
      have sb_ := Hsb.out.c2
      have last_ := Hlast.out.c2
      go_simp
      try rw [hq5]
      refine hK _ _ ⟨fun h9 => absurd rfl h9, ?_⟩
      clear hK K hq5 o5_last_ o5_sb_ f5_sb
      repeat (first | (refine treek_q rfl rfl ?_; go_big_quiet_step (fail); refine wpQuiet_nil ?_) | (refine treek_e rfl rfl ?_; go_big_quiet_step (fail); refine wpQuiet_nil ?_))
      refine treek_end ?_
      go_wp2_with fail
      have HCAP := Lib.hid (show j + 1 ≤ gc' ∧ j + 1 ≤ qc' from by have h1 := Hrs.out.cap; have h2 := Hrd.out.cap; have h3 := HJ.out; rw [List.length_take] at h1 h2; omega)
      have HRS8 := Lib.hid (Hrs.out.grown (kept_gr HKS.out) (fun q9 e8 e9 => by have a1 : some g = some q9 := e8; have a2 := Option.some.inj a1; have a3 := Option.some.inj e9; have a4 := HS2.out; omega))
      have HRD8 := Lib.hid (Hrd.out.grown (kept_gr HKS.out) (fun q9 e8 e9 => by have a1 : some q = some q9 := e8; have a2 := Option.some.inj a1; have a3 := Option.some.inj e9; have a4 := HS2.out; omega))
      clear HKS
      have HKH := Lib.hid (Kept.refl (fun q9 => q9 = hb) w5)
      have hbl3 : hb < w5.heap.size := by have := HZS.out; omega
      have hcv0 := Hh.out.cell HH.out.c0
      have hcv2 := Hh.out.cell HH.out.c1
      have hf0 := Hh.out.frozen off
      have hf1 := Hh.out.frozen (off + 1)
      have hcp0 := HCAP.out.1
      have hcp1 := HCAP.out.2
      have HT := Lib.hid (show Below w5.heap.size w5 w5.drew from (Below.refl _ _).drew)
      have hl_sb := Hsb.out.lt
      have hl_last := Hlast.out.lt
      refine wp_region_treek (fun wq9 => ∃ E : Over w5, wq9 = E.w) 18 ((.qs [0, 1, 2, 3, 4] (.e 5 [] (.qs [6, 7, 8, 9, 10, 11] (.e 12 [] (.qs [13, 14, 15, 16, 17] (.a 18 (.qs [19, 20] (.z 21 .done))))))))) (by kernel_rfl) (by kernel_rfl) (fun _ _ d _ _ h => by cases d <;> exact h) ⟨⟨_, HT.out⟩, rfl⟩ ?_
      have hov_sb := fun (E : Over w5) o => E.cell (b := w.heap.size) o hl_sb
      have hov_last := fun (E : Over w5) o => E.cell (b := wr.heap.size) o hl_last
      have hov_hb := fun (E : Over w5) o => E.cell (b := hb) o hbl3
      simp only [TreeK.qs]
      repeat (first | (refine treek_q rfl rfl ?_; go_big_quiet_step (fail); refine wpQuiet_nil ?_) | (refine treek_e rfl rfl ?_; go_big_quiet_step (fail); refine wpQuiet_nil ?_))
      clear hov_sb hl_sb hov_last hl_last hov_hb
      refine treek_a rfl (fun K hK => ?_)
      clear sb_
      replace Hsb := Lib.hid (Hsb.out.up HT.out)
      replace Hh := Lib.hid (Hh.out.up HT.out)
      clear last_
      replace Hlast := Lib.hid (Hlast.out.up HT.out)
      replace HK := Lib.hid (Kept.up HK.out HT.out)
      replace HKH := Lib.hid (Kept.up HKH.out HT.out)
      replace HZS := sz HZS HT.out.size
      clear HT
      have sb_ := Hsb.out.c2
      have last_ := Hlast.out.c2
      have f6_h := Hh.out.frozen
      have o6_sb_ := sb_; clear sb_
      have o6_last_ := last_; clear last_
      obtain ⟨w6, hq6, hg9, hz9, hx9⟩ := put1 Hh off (.slice (some ⟨g, 0, none⟩) j gc') _ rfl
      replace Hsb := Lib.hid (Hsb.out.grown hg9.out (sne (by have g0 := HZS.out; omega)))
      replace Hlast := Lib.hid (Hlast.out.grown hg9.out (sne (by have g0 := HZS.out; omega)))
      replace HK := Lib.hid (Kept.grown HK.out hg9.out (fun q9 e9 => by obtain rfl := Option.some.inj e9; exact Or.inr (rfl)))
      replace HKH := Lib.hid (Kept.grown HKH.out hg9.out (fun q9 e9 => by obtain rfl := Option.some.inj e9; exact Or.inr (rfl)))
      replace HZS := sz HZS hz9.out
      replace Hh := hx9
      clear hx9 hg9 hz9
      have sb_ := Hsb.out.c2
      have last_ := Hlast.out.c2
      go_simp
      try rw [hq6]
      refine hK _ _ ⟨fun h9 => absurd rfl h9, ?_⟩
      clear hK K hq6 o6_last_ o6_sb_ f6_h
      repeat (first | (refine treek_q rfl rfl ?_; go_big_quiet_step (fail); refine wpQuiet_nil ?_) | (refine treek_e rfl rfl ?_; go_big_quiet_step (fail); refine wpQuiet_nil ?_))
      have hcv3 := Hh.out.cell (i := off + 1) ((List.getElem?_set_ne (by omega)).trans HH.out.c1)
      have hf3 := Hh.out.frozen (off + 1)
      refine treek_z rfl (fun K hK => ?_)
      have f7_h := Hh.out.frozen
      have o7_sb_ := sb_; clear sb_
      have o7_last_ := last_; clear last_
      obtain ⟨w7, hq7, hg9, hz9, hx9⟩ := put1 Hh (off + 1) (.slice (some ⟨q, 0, none⟩) j qc') _ rfl
      replace Hsb := Lib.hid (Hsb.out.grown hg9.out (sne (by have g0 := HZS.out; omega)))
      replace Hlast := Lib.hid (Hlast.out.grown hg9.out (sne (by have g0 := HZS.out; omega)))
      replace HK := Lib.hid (Kept.grown HK.out hg9.out (fun q9 e9 => by obtain rfl := Option.some.inj e9; exact Or.inr (rfl)))
      replace HKH := Lib.hid (Kept.grown HKH.out hg9.out (fun q9 e9 => by obtain rfl := Option.some.inj e9; exact Or.inr (rfl)))
      replace HZS := sz HZS hz9.out
      replace Hh := hx9
      clear hx9 hg9 hz9
      have sb_ := Hsb.out.c2
      have last_ := Hlast.out.c2
      go_simp
      try rw [hq7]
      refine hK _ _ ?_
      clear hK K hq7 o7_last_ o7_sb_ f7_h
      repeat (first | (refine treek_q rfl rfl ?_; go_big_quiet_step (fail); refine wpQuiet_nil ?_) | (refine treek_e rfl rfl ?_; go_big_quiet_step (fail); refine wpQuiet_nil ?_))
      refine treek_end ?_
      go_wp2_with fail
      have HRS9 := Lib.hid (HRS8.out.grown (kept_gr HKH.out) (fun q9 e8 e9 => HH.out.hs (e8.trans e9.symm)))
      have HRD9 := Lib.hid (HRD8.out.grown (kept_gr HKH.out) (fun q9 e8 e9 => HH.out.hd (e8.trans e9.symm)))
      have HTL := Lib.hid (show (l.take (j + 1)).length = j + 1 by have := HJ.out; rw [List.length_take]; omega)
      go_roundw
      case rel => exact ⟨j, ⟨p.lo, c.hi, H p.d c.d⟩, _, _, Nat.le_of_lt HJ.out, by rw [HWJ.out], rfl, put_step HHZ.out HTR.out HC.out HHV.out, Hsb, HeapAt.pop HJ.out HTL.out HTL.out HH.out Hh.out HRS9.out HRD9.out, ⟨HO.out.1, HO.out.2⟩, HK⟩
      case measure => exact put_less HWJ.out
     ·have hb2 : (((p.lo : Int) % (zz : Int)) != 0) = true := by
       have : ((p.lo : Int) % (zz : Int)) = ((p.lo % zz : Nat) : Int) := rfl
       rw [this]; simp; omega
      have hb1 : ((z : Int) != (z : Int)) = false := by simp
      have HHV := Lib.hid (show halves p c = false by rw [HYZ.out, decide_eq_false hrm]; simp)
      clear hrm HYZ
      replace HZS := sz HZS HBB.out
      replace HZS := sz HZS HSZ.out
      replace HZS := sz HZS HS1.out
      replace HZS := sz HZS HS2.out
      replace HZS := sz HZS HHB.out
      replace HZS := sz HZS HN.out
      have sb_ := Hsb.out.c2
      have BW := Lib.hid (Below.refl wr.heap.size wr)
      have o2_sb_ := sb_; clear sb_
      obtain ⟨w2, hq2, hb9, hz9, Hlast⟩ := new1 wr 75 [.int .i64 (p.lo : Int), .int .i64 (p.hi : Int)]
      replace Hsb := Lib.hid (Hsb.out.up hb9)
      replace Hh := Lib.hid (Hh.out.up hb9)
      replace BW := hbu BW hb9
      replace HK := Lib.hid (Kept.up HK.out hb9)
      replace HZS := sz HZS hz9.out
      clear hb9 hz9
      have sb_ := Hsb.out.c2
      have last_ := Hlast.out.c2
      go_wp2_with fail
      clear hq2 o2_sb_
      go_meet
      case rel => exact ⟨j + 1, c, _, _, HJ.out, rfl, put_stop HTR.out HC.out HHV.out, Hsb, HH.out.up BW.out, HO, HK⟩
    ·have hb1 : ((z : Int) != (y : Int)) = true := by simp; omega
     have HHV := Lib.hid (show halves p c = false by rw [HYZ.out, decide_eq_false hyz]; rfl)
     clear hyz HYZ
     replace HZS := sz HZS HBB.out
     replace HZS := sz HZS HSZ.out
     replace HZS := sz HZS HS1.out
     replace HZS := sz HZS HS2.out
     replace HZS := sz HZS HHB.out
     replace HZS := sz HZS HN.out
     have sb_ := Hsb.out.c2
     have BW := Lib.hid (Below.refl wr.heap.size wr)
     have o2_sb_ := sb_; clear sb_
     obtain ⟨w2, hq2, hb9, hz9, Hlast⟩ := new1 wr 75 [.int .i64 (p.lo : Int), .int .i64 (p.hi : Int)]
     replace Hsb := Lib.hid (Hsb.out.up hb9)
     replace Hh := Lib.hid (Hh.out.up hb9)
     replace BW := hbu BW hb9
     replace HK := Lib.hid (Kept.up HK.out hb9)
     replace HZS := sz HZS hz9.out
     clear hb9 hz9
     have sb_ := Hsb.out.c2
     have last_ := Hlast.out.c2
     go_wp2_with fail
     clear hq2 o2_sb_
     go_meet
     case rel => exact ⟨j + 1, c, _, _, HJ.out, rfl, put_stop HTR.out HC.out HHV.out, Hsb, HH.out.up BW.out, HO, HK⟩
 case rest =>
  clear Hsb HB sb_ hcu0 hcu1 HH hs hh hsd hr hc0 hc1
  obtain ⟨m, c, us, ud, hm, rfl, HC, Hsb, HH, HO, HK⟩ := hcut
  have HLT := Lib.hid (show (l.take m).length ≤ 1048576 from Nat.le_trans (by rw [List.length_take]; omega) HL.out)
  clear hm
  generalize l.take m = l2 at *
  have HTW := Lib.hid (show TwoAt (fun q => us.ownBlock = some q) (fun q => ud.ownBlock = some q) wc wc N us ud l2.length l2.length _ _ from ⟨Kept.refl _ _, HH.out.rs, HH.out.rd, HH.out.ap, fun q e => Or.inl e, fun q e => Or.inl e⟩)
  have HHC := Lib.hid HH.out.bx
  have hcu0 := HHC.out.cell HH.out.c0
  have hcu1 := HHC.out.cell HH.out.c1
  have sb_ := Hsb.out.c2
  have HNC := Lib.hid (Nat.le_trans HN.out HK.out.size)
  have hlb := HHC.out.lt
  have hls := Hsb.out.lt
  have HNH := Lib.hid (show ¬ (us.ownBlock = some hb ∨ ud.ownBlock = some hb) from fun h => h.elim HH.out.hs HH.out.hd)
  have HNS := Lib.hid (show ¬ (us.ownBlock = some w.heap.size ∨ ud.ownBlock = some w.heap.size) from fun h => h.elim (fun e => Nat.lt_irrefl _ (HOL.out.1 _ (HO.out.1 ▸ e))) (fun e => Nat.lt_irrefl _ (HOL.out.2 _ (HO.out.2 ▸ e))))
  obtain ⟨ua, uc, rfl⟩ := HH.out.rs.form
  obtain ⟨va, vc, rfl⟩ := HH.out.rd.form
  obtain ⟨i9, hi9, hz90, hz91, hz92⟩ := info_parts infoSpan
  obtain ⟨i8, hi8, hz80, hz81, hz82⟩ := info_parts infoStrP
  go_wp2_with fail
  refine wp_region_treek (fun wq9 => ∃ E : Keeps (fun q => (Value.slice ua l2.length uc).ownBlock = some q ∨ (Value.slice va l2.length vc).ownBlock = some q) wc, wq9 = E.w) 18 (.qs [0, 1, 2, 3, 4] (.e 5 [] (.e 6 [] (.qs [9, 10, 11] (.e 12 [] (.qs [13] (.two 7 (.two 8 (.a 14 (.a 15 (.qs [16, 17] (.a 18 (.qs [19, 20] (.z 21 .done)))))) 14 (.a 8 (.a 15 (.qs [16, 17] (.a 18 (.qs [19, 20] (.z 21 .done))))))) 14 (.a 7 (.a 8 (.a 15 (.qs [16, 17] (.a 18 (.qs [19, 20] (.z 21 .done)))))))))))))) (by kernel_rfl) (by kernel_rfl) (fun _ _ d _ _ h => by cases d <;> exact h) ⟨⟨_, (Kept.refl _ _).up (Below.refl _ _).drew⟩, rfl⟩ ?_
  have hov_h := fun (E : Keeps (fun q => (Value.slice ua l2.length uc).ownBlock = some q ∨ (Value.slice va l2.length vc).ownBlock = some q) wc) o => E.cell (b := hb) o hlb HNH.out
  have hov_s := fun (E : Keeps (fun q => (Value.slice ua l2.length uc).ownBlock = some q ∨ (Value.slice va l2.length vc).ownBlock = some q) wc) o => E.cell (b := w.heap.size) o hls HNS.out
  simp only [TreeK.qs]
  repeat (first | (refine treek_q rfl rfl ?_; go_big_quiet_step (fail); refine wpQuiet_nil ?_) | (refine treek_e rfl rfl ?_; go_big_quiet_step (fail); refine wpQuiet_nil ?_))
  clear hov_h hov_s
  have HTwc := HTW
  refine treek_two rfl rfl (fun K hK => ?_) (fun K hK => ?_)
  ·go_simp
   obtain ⟨wa, hq9, hb9, hz9, Hb1⟩ := new1D wc 75 [.int .i64 (c.lo : Int), .int .i64 (c.hi : Int)]
   rw [hq9]
   clear hq9
   have HTwa := Lib.hid (HTwc.out.up hb9)
   refine hK _ _ ⟨fun _ => ⟨⟨wa, HTwa.out.k⟩, rfl⟩, ?_⟩
   clear hK K hz9
   repeat (first | (refine treek_q rfl rfl ?_; go_big_quiet_step (fail); refine wpQuiet_nil ?_) | (refine treek_e rfl rfl ?_; go_big_quiet_step (fail); refine wpQuiet_nil ?_))
   clear hb9
   refine treek_two rfl rfl (fun K hK => ?_) (fun K hK => ?_)
   ·refine step_append_lies _ rfl _ _ 64 rfl N 75 i9 _ 2 16 Try.underlying64 hi9 hz90 hz91 hz92 rfl (by omega) (.slice ua l2.length uc) l2.length (l2.flatMap pcC) rfl HTwa.out.rs ⟨wc.heap.size, 0, none⟩ 1 1 (pcC c) rfl rfl (World.news_of_block Hb1.out) (by simp [pcC, Value.oneCell']) (by omega) (by have h9 := HLT.out; unfold maxLen; omega) (by have h9 := HLT.out; omega) (Nat.le_trans HNC.out HTwa.out.k.size) _ rfl ?_
    intro g1 c1 wb hown hg9 hat hlt
    have HTwb := Lib.hid (HTwa.out.pushS hown hg9 hat)
    refine hK _ _ ⟨fun _ => ⟨⟨wb, HTwb.out.k⟩, rfl⟩, ?_⟩
    clear hK K hown hg9 hat hlt
    try simp only [Act.put, List.setIfInBounds_toArray, List.set_cons_succ, List.set_cons_zero]
    repeat (first | (refine treek_q rfl rfl ?_; go_big_quiet_step (fail); refine wpQuiet_nil ?_) | (refine treek_e rfl rfl ?_; go_big_quiet_step (fail); refine wpQuiet_nil ?_))
    refine treek_a rfl (fun K hK => ?_)
    go_simp
    obtain ⟨wd, hq9, hb9, hz9, Hb2⟩ := new1 wb 9 [.string c.d]
    rw [hq9]
    clear hq9
    have HTwd := Lib.hid (HTwb.out.up hb9)
    refine hK _ _ ⟨fun _ => ⟨⟨wd, HTwd.out.k⟩, rfl⟩, ?_⟩
    clear hK K hz9
    repeat (first | (refine treek_q rfl rfl ?_; go_big_quiet_step (fail); refine wpQuiet_nil ?_) | (refine treek_e rfl rfl ?_; go_big_quiet_step (fail); refine wpQuiet_nil ?_))
    clear hb9
    refine treek_a rfl (fun K hK => ?_)
    refine step_append_lies _ rfl _ _ 22 rfl N 9 i8 _ 1 16 Try.underlying22 hi8 hz80 hz81 hz82 rfl (by omega) (.slice va l2.length vc) l2.length (l2.map fun p : Pc => Value.string p.d) rfl HTwd.out.rd ⟨wb.heap.size, 0, none⟩ 1 1 [Value.string c.d] rfl rfl (World.news_of_block Hb2.out) (by simp [Value.oneCell']) (by omega) (by have h9 := HLT.out; unfold maxLen; omega) (by have h9 := HLT.out; omega) (Nat.le_trans HNC.out HTwd.out.k.size) _ rfl ?_
    intro g2 c2 we hown hg9 hat hlt
    have HTwe := Lib.hid (HTwd.out.pushD hown hg9 hat)
    refine hK _ _ ⟨fun _ => ⟨⟨we, HTwe.out.k⟩, rfl⟩, ?_⟩
    clear hK K hown hg9 hat hlt
    try simp only [Act.put, List.setIfInBounds_toArray, List.set_cons_succ, List.set_cons_zero]
    repeat (first | (refine treek_q rfl rfl ?_; go_big_quiet_step (fail); refine wpQuiet_nil ?_) | (refine treek_e rfl rfl ?_; go_big_quiet_step (fail); refine wpQuiet_nil ?_))
    have HXwe := Lib.hid (HHC.out.keptP HTwe.out.k HNH.out)
    have hcx := HXwe.out.cell HH.out.c0
    have hcy := HXwe.out.cell HH.out.c1
    have hfx := HXwe.out.frozen off
    refine treek_a rfl (fun K hK => ?_)
    obtain ⟨wy, hqy, hgy, hzy, hxy⟩ := put1 HXwe off (.slice (some ⟨g1, 0, none⟩) (l2.length + 1) c1) _ rfl
    go_simp
    try rw [hqy]
    refine hK _ _ ⟨fun h9 => absurd rfl h9, ?_⟩
    clear hK K hcx hcy hfx hqy
    repeat (first | (refine treek_q rfl rfl ?_; go_big_quiet_step (fail); refine wpQuiet_nil ?_) | (refine treek_e rfl rfl ?_; go_big_quiet_step (fail); refine wpQuiet_nil ?_))
    have hcz := hxy.out.cell (i := off + 1) ((List.getElem?_set_ne (by omega)).trans HH.out.c1)
    have hfz := hxy.out.frozen (off + 1)
    refine treek_z rfl (fun K hK => ?_)
    obtain ⟨wz, hqz, hgz, hzz, hxz⟩ := put1 hxy (off + 1) (.slice (some ⟨g2, 0, none⟩) (l2.length + 1) c2) _ rfl
    go_simp
    try rw [hqz]
    refine hK _ _ ?_
    clear hK K hcz hfz hqz
    repeat (first | (refine treek_q rfl rfl ?_; go_big_quiet_step (fail); refine wpQuiet_nil ?_) | (refine treek_e rfl rfl ?_; go_big_quiet_step (fail); refine wpQuiet_nil ?_))
    refine treek_end ?_
    go_wp2_with fail
    go_end0
    exact ⟨rfl, put_close HC.out HH.out HO.out HK.out HHB.out HTwe.out rfl rfl hxz.out (hgy.out.trans hgz.out)⟩
   ·go_simp
    obtain ⟨wb, hq9, hb9, hz9, Hb2⟩ := new1 wa 9 [.string c.d]
    rw [hq9]
    clear hq9
    have HTwb := Lib.hid (HTwa.out.up hb9)
    refine hK _ _ ⟨fun _ => ⟨⟨wb, HTwb.out.k⟩, rfl⟩, ?_⟩
    clear hK K hz9
    repeat (first | (refine treek_q rfl rfl ?_; go_big_quiet_step (fail); refine wpQuiet_nil ?_) | (refine treek_e rfl rfl ?_; go_big_quiet_step (fail); refine wpQuiet_nil ?_))
    replace Hb1 := Lib.hid (Hb1.out.up hb9)
    clear hb9
    have HNB := Lib.hid (fun e => Nat.lt_irrefl _ (HTwa.out.rs.lt wa.heap.size e).2)
    refine treek_a rfl (fun K hK => ?_)
    refine step_append_lies _ rfl _ _ 64 rfl N 75 i9 _ 2 16 Try.underlying64 hi9 hz90 hz91 hz92 rfl (by omega) (.slice ua l2.length uc) l2.length (l2.flatMap pcC) rfl HTwb.out.rs ⟨wc.heap.size, 0, none⟩ 1 1 (pcC c) rfl rfl (World.news_of_block Hb1.out) (by simp [pcC, Value.oneCell']) (by omega) (by have h9 := HLT.out; unfold maxLen; omega) (by have h9 := HLT.out; omega) (Nat.le_trans HNC.out HTwb.out.k.size) _ rfl ?_
    intro g1 c1 wd hown hg9 hat hlt
    have HTwd := Lib.hid (HTwb.out.pushS hown hg9 hat)
    replace Hb2 := Lib.hid (Hb2.out.grown hg9 HNB.out)
    refine hK _ _ ⟨fun _ => ⟨⟨wd, HTwd.out.k⟩, rfl⟩, ?_⟩
    clear hK K hown hg9 hat hlt
    try simp only [Act.put, List.setIfInBounds_toArray, List.set_cons_succ, List.set_cons_zero]
    repeat (first | (refine treek_q rfl rfl ?_; go_big_quiet_step (fail); refine wpQuiet_nil ?_) | (refine treek_e rfl rfl ?_; go_big_quiet_step (fail); refine wpQuiet_nil ?_))
    refine treek_a rfl (fun K hK => ?_)
    refine step_append_lies _ rfl _ _ 22 rfl N 9 i8 _ 1 16 Try.underlying22 hi8 hz80 hz81 hz82 rfl (by omega) (.slice va l2.length vc) l2.length (l2.map fun p : Pc => Value.string p.d) rfl HTwd.out.rd ⟨wa.heap.size, 0, none⟩ 1 1 [Value.string c.d] rfl rfl (World.news_of_block Hb2.out) (by simp [Value.oneCell']) (by omega) (by have h9 := HLT.out; unfold maxLen; omega) (by have h9 := HLT.out; omega) (Nat.le_trans HNC.out HTwd.out.k.size) _ rfl ?_
    intro g2 c2 we hown hg9 hat hlt
    have HTwe := Lib.hid (HTwd.out.pushD hown hg9 hat)
    refine hK _ _ ⟨fun _ => ⟨⟨we, HTwe.out.k⟩, rfl⟩, ?_⟩
    clear hK K hown hg9 hat hlt
    try simp only [Act.put, List.setIfInBounds_toArray, List.set_cons_succ, List.set_cons_zero]
    repeat (first | (refine treek_q rfl rfl ?_; go_big_quiet_step (fail); refine wpQuiet_nil ?_) | (refine treek_e rfl rfl ?_; go_big_quiet_step (fail); refine wpQuiet_nil ?_))
    have HXwe := Lib.hid (HHC.out.keptP HTwe.out.k HNH.out)
    have hcx := HXwe.out.cell HH.out.c0
    have hcy := HXwe.out.cell HH.out.c1
    have hfx := HXwe.out.frozen off
    refine treek_a rfl (fun K hK => ?_)
    obtain ⟨wy, hqy, hgy, hzy, hxy⟩ := put1 HXwe off (.slice (some ⟨g1, 0, none⟩) (l2.length + 1) c1) _ rfl
    go_simp
    try rw [hqy]
    refine hK _ _ ⟨fun h9 => absurd rfl h9, ?_⟩
    clear hK K hcx hcy hfx hqy
    repeat (first | (refine treek_q rfl rfl ?_; go_big_quiet_step (fail); refine wpQuiet_nil ?_) | (refine treek_e rfl rfl ?_; go_big_quiet_step (fail); refine wpQuiet_nil ?_))
    have hcz := hxy.out.cell (i := off + 1) ((List.getElem?_set_ne (by omega)).trans HH.out.c1)
    have hfz := hxy.out.frozen (off + 1)
    refine treek_z rfl (fun K hK => ?_)
    obtain ⟨wz, hqz, hgz, hzz, hxz⟩ := put1 hxy (off + 1) (.slice (some ⟨g2, 0, none⟩) (l2.length + 1) c2) _ rfl
    go_simp
    try rw [hqz]
    refine hK _ _ ?_
    clear hK K hcz hfz hqz
    repeat (first | (refine treek_q rfl rfl ?_; go_big_quiet_step (fail); refine wpQuiet_nil ?_) | (refine treek_e rfl rfl ?_; go_big_quiet_step (fail); refine wpQuiet_nil ?_))
    refine treek_end ?_
    go_wp2_with fail
    go_end0
    exact ⟨rfl, put_close HC.out HH.out HO.out HK.out HHB.out HTwe.out rfl rfl hxz.out (hgy.out.trans hgz.out)⟩
  ·go_simp
   obtain ⟨wa, hq9, hb9, hz9, Hb2⟩ := new1D wc 9 [.string c.d]
   rw [hq9]
   clear hq9
   have HTwa := Lib.hid (HTwc.out.up hb9)
   refine hK _ _ ⟨fun _ => ⟨⟨wa, HTwa.out.k⟩, rfl⟩, ?_⟩
   clear hK K hz9
   repeat (first | (refine treek_q rfl rfl ?_; go_big_quiet_step (fail); refine wpQuiet_nil ?_) | (refine treek_e rfl rfl ?_; go_big_quiet_step (fail); refine wpQuiet_nil ?_))
   clear hb9
   have HNB := Lib.hid (fun e => Nat.lt_irrefl _ (HTwc.out.rs.lt wc.heap.size e).2)
   refine treek_a rfl (fun K hK => ?_)
   go_simp
   obtain ⟨wb, hq9, hb9, hz9, Hb1⟩ := new1 wa 75 [.int .i64 (c.lo : Int), .int .i64 (c.hi : Int)]
   rw [hq9]
   clear hq9
   have HTwb := Lib.hid (HTwa.out.up hb9)
   refine hK _ _ ⟨fun _ => ⟨⟨wb, HTwb.out.k⟩, rfl⟩, ?_⟩
   clear hK K hz9
   repeat (first | (refine treek_q rfl rfl ?_; go_big_quiet_step (fail); refine wpQuiet_nil ?_) | (refine treek_e rfl rfl ?_; go_big_quiet_step (fail); refine wpQuiet_nil ?_))
   replace Hb2 := Lib.hid (Hb2.out.up hb9)
   clear hb9
   refine treek_a rfl (fun K hK => ?_)
   refine step_append_lies _ rfl _ _ 64 rfl N 75 i9 _ 2 16 Try.underlying64 hi9 hz90 hz91 hz92 rfl (by omega) (.slice ua l2.length uc) l2.length (l2.flatMap pcC) rfl HTwb.out.rs ⟨wa.heap.size, 0, none⟩ 1 1 (pcC c) rfl rfl (World.news_of_block Hb1.out) (by simp [pcC, Value.oneCell']) (by omega) (by have h9 := HLT.out; unfold maxLen; omega) (by have h9 := HLT.out; omega) (Nat.le_trans HNC.out HTwb.out.k.size) _ rfl ?_
   intro g1 c1 wd hown hg9 hat hlt
   have HTwd := Lib.hid (HTwb.out.pushS hown hg9 hat)
   replace Hb2 := Lib.hid (Hb2.out.grown hg9 HNB.out)
   refine hK _ _ ⟨fun _ => ⟨⟨wd, HTwd.out.k⟩, rfl⟩, ?_⟩
   clear hK K hown hg9 hat hlt
   try simp only [Act.put, List.setIfInBounds_toArray, List.set_cons_succ, List.set_cons_zero]
   repeat (first | (refine treek_q rfl rfl ?_; go_big_quiet_step (fail); refine wpQuiet_nil ?_) | (refine treek_e rfl rfl ?_; go_big_quiet_step (fail); refine wpQuiet_nil ?_))
   refine treek_a rfl (fun K hK => ?_)
   refine step_append_lies _ rfl _ _ 22 rfl N 9 i8 _ 1 16 Try.underlying22 hi8 hz80 hz81 hz82 rfl (by omega) (.slice va l2.length vc) l2.length (l2.map fun p : Pc => Value.string p.d) rfl HTwd.out.rd ⟨wc.heap.size, 0, none⟩ 1 1 [Value.string c.d] rfl rfl (World.news_of_block Hb2.out) (by simp [Value.oneCell']) (by omega) (by have h9 := HLT.out; unfold maxLen; omega) (by have h9 := HLT.out; omega) (Nat.le_trans HNC.out HTwd.out.k.size) _ rfl ?_
   intro g2 c2 we hown hg9 hat hlt
   have HTwe := Lib.hid (HTwd.out.pushD hown hg9 hat)
   refine hK _ _ ⟨fun _ => ⟨⟨we, HTwe.out.k⟩, rfl⟩, ?_⟩
   clear hK K hown hg9 hat hlt
   try simp only [Act.put, List.setIfInBounds_toArray, List.set_cons_succ, List.set_cons_zero]
   repeat (first | (refine treek_q rfl rfl ?_; go_big_quiet_step (fail); refine wpQuiet_nil ?_) | (refine treek_e rfl rfl ?_; go_big_quiet_step (fail); refine wpQuiet_nil ?_))
   have HXwe := Lib.hid (HHC.out.keptP HTwe.out.k HNH.out)
   have hcx := HXwe.out.cell HH.out.c0
   have hcy := HXwe.out.cell HH.out.c1
   have hfx := HXwe.out.frozen off
   refine treek_a rfl (fun K hK => ?_)
   obtain ⟨wy, hqy, hgy, hzy, hxy⟩ := put1 HXwe off (.slice (some ⟨g1, 0, none⟩) (l2.length + 1) c1) _ rfl
   go_simp
   try rw [hqy]
   refine hK _ _ ⟨fun h9 => absurd rfl h9, ?_⟩
   clear hK K hcx hcy hfx hqy
   repeat (first | (refine treek_q rfl rfl ?_; go_big_quiet_step (fail); refine wpQuiet_nil ?_) | (refine treek_e rfl rfl ?_; go_big_quiet_step (fail); refine wpQuiet_nil ?_))
   have hcz := hxy.out.cell (i := off + 1) ((List.getElem?_set_ne (by omega)).trans HH.out.c1)
   have hfz := hxy.out.frozen (off + 1)
   refine treek_z rfl (fun K hK => ?_)
   obtain ⟨wz, hqz, hgz, hzz, hxz⟩ := put1 hxy (off + 1) (.slice (some ⟨g2, 0, none⟩) (l2.length + 1) c2) _ rfl
   go_simp
   try rw [hqz]
   refine hK _ _ ?_
   clear hK K hcz hfz hqz
   repeat (first | (refine treek_q rfl rfl ?_; go_big_quiet_step (fail); refine wpQuiet_nil ?_) | (refine treek_e rfl rfl ?_; go_big_quiet_step (fail); refine wpQuiet_nil ?_))
   refine treek_end ?_
   go_wp2_with fail
   go_end0
   exact ⟨rfl, put_close HC.out HH.out HO.out HK.out HHB.out HTwe.out rfl rfl hxz.out (hgy.out.trans hgz.out)⟩
theorem tag_calls (label : ByteArray) (hl : label.size < 140737488355328) : TagCalls 103 label (tagS label) := fun ps h3 hz a c w hX => Tag_any label ps ps.length rfl (join_small label ps 0 h3 hz hl) a c w hX
theorem put_any (N hb off : Nat) (t : TypeId) (cs : List Value) (vs vd : Value) (l : List Pc) (s : Pc) (a0 : Nat) (hr : RunR a0 l.reverse s.lo) (hs : s.lo < s.hi) (hh : s.hi ≤ 1048576) (hd : ∀ p ∈ l, p.d.size < 140737488355328) (hsd : s.d.size < 140737488355328) (hl : l.length ≤ 1048576) (w : World) (hN : N ≤ w.heap.size) (hH : HeapAt w N hb off t cs vs vd l) :
  Calls Try.prog 38 #[.pointer (some ⟨hb, off, none⟩), .agg #[.int .i64 (s.lo : Int), .int .i64 (s.hi : Int)], .string s.d] w fun e w' => e = .returned (.tuple #[]) ∧ PutR w w' N hb off t cs vs vd ((mergeH bothS l.reverse s).reverse) :=
 put_gen bothS bothS_size (tagS blockB) (fun _ _ => rfl) (tag_calls blockB (by decide)) N hb off t cs vs vd l s a0 hr hs hh hd hsd hl w hN hH
end Go.Proofs.Ytjmeakfjfpnciaa
namespace Go.Proofs.Ytjmeakfjfpnciaa
open Go.RowKit
theorem mergeH_sizes {H : ByteArray → ByteArray → ByteArray} (h32 : ∀ a b, (H a b).size = 32) : ∀ (st : List Pc) (s : Pc), (∀ p ∈ st, p.d.size = 32) → s.d.size = 32 → ∀ p ∈ mergeH H st s, p.d.size = 32
 | [], s, _, hs => by intro p hp; simp only [mergeH, List.mem_singleton] at hp; rw [hp]; exact hs
 | t :: r, s, h, hs => by
  rw [mergeH]
  split
  ·exact mergeH_sizes h32 r _ (fun p hp => h p (List.mem_cons_of_mem _ hp)) (h32 _ _)
  ·intro p hp
   rcases List.mem_cons.1 hp with rfl | hp
   ·exact hs
   ·exact h p hp
theorem heapH_sizes {H : ByteArray → ByteArray → ByteArray} (h32 : ∀ a b, (H a b).size = 32) : ∀ (l st : List Pc), (∀ p ∈ st, p.d.size = 32) → (∀ p ∈ l, p.d.size = 32) → ∀ p ∈ heapH H st l, p.d.size = 32
 | [], _, h, _ => h
 | x :: l, st, h, h1 => heapH_sizes h32 l _ (mergeH_sizes h32 st x h (h1 x (by simp))) (fun p hp => h1 p (List.mem_cons_of_mem _ hp))
end Go.Proofs.Ytjmeakfjfpnciaa
namespace Go.Proofs.Ytjmeakfjfpnciaa
open Go.RowKit
def noDefer (o : Oper) : Bool := match o.op with | .defer _ => false | _ => true
theorem noDefer_ne {o : Oper} (h : noDefer o = true) : ∀ c, o.op ≠ .defer c := by
 intro c e
 unfold noDefer at h
 rw [e] at h
 cases h
section
variable {P : Program} {ops : Array Oper} {Q : Exit → Act → World → Prop} {n l : Nat}
theorem rowsIn_wide {row : String} {args : Array Value} {w : World} {R : Value → World → Prop} (h : Rows P row args w R) : RowsIn (Fence.wide.inRound l) n P row args w R :=
 fun c cs _ => let ⟨v, w', r, s⟩ := h c cs; ⟨v, w', r, stepsIn_wide.2 s⟩
theorem opIn_of_wp {o : Oper} {a : Act} {w : World} {K K' : Act → World → Prop} (hd : noDefer o = true) (hK : ∀ a w, K a w → K' a w) (h : o.wp P a w K Q) : o.wpIn (Fence.wide.inRound l) n P a w K' Q := by
 unfold Oper.wp at h
 refine ⟨fun _ _ => trivial, ?_⟩
 rw [Oper.semAt_plain _ _ _ (noDefer_ne hd)]
 generalize (execOp a.eval o).run P w = r at h
 cases r with
 | halt x w' =>
  cases x
  all_goals first
   | exact h
   | exact h.elim
 | ok x w' =>
  cases x with
  | value v => exact hK _ _ h
  | skip => exact hK _ _ h
  | defer d => exact hK _ _ h
  | enter f args =>
   refine ⟨fun h9 => by simp [Fence.wide] at h9, CallsIn.inRound l (callsIn_wide.2 (Calls.mono h ?_))⟩
   intro e w'' he
   cases e with
   | returned v => exact hK _ _ he
   | panicked c => exact he
   | outgrown => exact he
  | row r args => exact ⟨fun h9 => by simp [Fence.wide] at h9, rowsIn_wide (Rows.mono h fun _ _ he => hK _ _ he)⟩
  | _ => exact h.elim
theorem anyIn_of_wpAny (hd : ∀ (i : Nat) (o : Oper), ops[i]? = some o → noDefer o = true) (hL : ¬ LetsOut Q) : ∀ (fuel : Nat) (listed : Array Bool) (a : Act) (w : World), wpAny P .any ops Q fuel listed a w → wpAnyIn (Fence.wide.inRound l) n P .any ops Q fuel listed a w
 | 0, _, _, _, h => h
 | fuel + 1, listed, a, w, h => by
  refine ⟨h.1, fun i hi => ?_⟩
  have h1 := h.2 i hi
  unfold wpOp at h1
  unfold wpOpIn
  cases ho : ops[i]? with
  | none => rw [ho] at h1; exact anyIn_of_wpAny hd hL fuel _ a w h1
  | some o =>
   rw [ho] at h1
   simp only at h1 ⊢
   by_cases hw : Region.wanted o (yielded ops a.tmps) = true
   ·rw [if_pos hw] at h1 ⊢
    rcases h1 with h1 | h1
    ·exact opIn_of_wp (hd i o ho) (anyIn_of_wpAny hd hL fuel _) h1
    ·exact absurd h1.2 hL
   ·rw [if_neg hw] at h1 ⊢
    exact ⟨fun _ _ => trivial, anyIn_of_wpAny hd hL fuel _ _ w h1⟩
theorem wpIn_region_treek {id : Nat} {a : Act} {w : World} {lo : List Oper} (S : World → Prop) (k : Nat) (t : TreeK) (hm : P.follows .mixedOrders = true)
  (hB : (Region.noSelect lo.toArray && decide (t.size = lo.toArray.size) && treeKB .any lo.toArray k t (Array.replicate lo.toArray.size false)) = true) (hd : lo.all noDefer = true) (hL : ¬ LetsOut Q)
  (hQ : ∀ c a d v w, Q (.panic c) (a.put d v) w → Q (.panic c) a w) (hS : S w.drew) (h : wpTreeK P lo.toArray S Q k t a w.drew) : (Code.region id lo.toArray true).wpIn (Fence.wide.inRound l) n P Q a w := by
 simp only [Bool.and_eq_true, decide_eq_true_eq] at hB
 refine wpIn_region_any hm (anyIn_of_wpAny (fun i o ho => ?_) hL _ _ _ _ (any_of_K (S := S) (k := k) _ _ _ _ ?_))
 ·rw [List.getElem?_toArray] at ho
  exact List.all_eq_true.1 hd o (List.mem_of_getElem? ho)
 ·have := K_of_tree hB.1.1 hQ t _ a _ (fun _ => hS) hB.2 h
  rw [hB.1.2] at this
  exact this
end
end Go.Proofs.Ytjmeakfjfpnciaa
namespace Go.Proofs.Ytjmeakfjfpnciaa
open Go.RowKit
attribute [local go_sem] Oper.semAt_some
theorem Sl.cut {w : World} {B b off : Nat} {xs : List Value} (h : Sl w B (some ⟨b, off, none⟩) xs) (lo m : Nat) : Sl w B (some ⟨b, off + lo, none⟩) ((xs.drop lo).take m) := by
 rcases h with rfl | ⟨b', off', e, hb, hc⟩
 ·left; simp
 ·cases e
  refine Or.inr ⟨b, off + lo, rfl, hb, fun i v hv => ?_⟩
  have h1 : (xs.drop lo)[i]? = some v := by
   rw [List.getElem?_take] at hv
   split at hv
   ·exact hv
   ·cases hv
  rw [List.getElem?_drop] at h1
  rw [Nat.add_assoc]
  exact hc _ _ h1
section
variable {n0 N ob eb c h : Nat} {w : World} {ev : Value} {hi : Nat} {D : Int × Int → Value} {s : List (Int × Int)} {v : Value} {W : World}
end
end Go.Proofs.Ytjmeakfjfpnciaa
namespace Go.Proofs.Ytjmeakfjfpnciaa
end Go.Proofs.Ytjmeakfjfpnciaa
namespace Go.Proofs.Ytjmeakfjfpnciaa
open Go.RowKit
end Go.Proofs.Ytjmeakfjfpnciaa
namespace Go.Proofs.Ytjmeakfjfpnciaa
open Go.RowKit
end Go.Proofs.Ytjmeakfjfpnciaa
namespace Go.Proofs.Ytjmeakfjfpnciaa
open Go.RowKit
end Go.Proofs.Ytjmeakfjfpnciaa
namespace Go.Proofs.Ytjmeakfjfpnciaa
open Go.RowKit
end Go.Proofs.Ytjmeakfjfpnciaa
namespace Go.Proofs.Ytjmeakfjfpnciaa
open Go.RowKit
end Go.Proofs.Ytjmeakfjfpnciaa
namespace Go.Proofs.Ytjmeakfjfpnciaa
open Go.RowKit
end Go.Proofs.Ytjmeakfjfpnciaa
namespace Go.Proofs.Ytjmeakfjfpnciaa
open Go.RowKit
end Go.Proofs.Ytjmeakfjfpnciaa
namespace Go.Proofs.Ytjmeakfjfpnciaa
open Go.RowKit
end Go.Proofs.Ytjmeakfjfpnciaa
namespace Go.Proofs.Ytjmeakfjfpnciaa
open Go.RowKit
end Go.Proofs.Ytjmeakfjfpnciaa
namespace Go.Proofs.Ytjmeakfjfpnciaa
open Go.RowKit
end Go.Proofs.Ytjmeakfjfpnciaa
namespace Go.Proofs.Ytjmeakfjfpnciaa
open Go.RowKit
end Go.Proofs.Ytjmeakfjfpnciaa
namespace Go.Proofs.Ytjmeakfjfpnciaa
open Go.RowKit
end Go.Proofs.Ytjmeakfjfpnciaa
namespace Go.Proofs.Ytjmeakfjfpnciaa
open Go.RowKit
end Go.Proofs.Ytjmeakfjfpnciaa
namespace Go.Proofs.Ytjmeakfjfpnciaa
open Go.RowKit
end Go.Proofs.Ytjmeakfjfpnciaa
namespace Go.Proofs.Ytjmeakfjfpnciaa
open Go.RowKit
end Go.Proofs.Ytjmeakfjfpnciaa
namespace Go.Proofs.Ytjmeakfjfpnciaa
end Go.Proofs.Ytjmeakfjfpnciaa
namespace Go.Proofs.Ytjmeakfjfpnciaa
open Go.RowKit
def T (G : GP) (n : Nat) : ByteArray := textS n G.size
end Go.Proofs.Ytjmeakfjfpnciaa
namespace Go.Proofs.Ytjmeakfjfpnciaa
open Go.RowKit
section
variable {q p : Nat} (hq : 0 < q) (hp : p = 2 * q + 1)
include hq hp
omit hq in
omit hq in
omit hq in
omit hq in
end
end Go.Proofs.Ytjmeakfjfpnciaa
namespace Go.Proofs.Ytjmeakfjfpnciaa
open Go.RowKit
section
variable {G : GP}
variable {aq ap : Option Addr} {cq cp : Nat}
end
end Go.Proofs.Ytjmeakfjfpnciaa
namespace Go.Proofs.Ytjmeakfjfpnciaa
open Go.RowKit
def Gives (v : Value) (w : World) (e : Ending) (w' : World) : Prop := e = .returned v ∧ Below w.heap.size w w'
section
variable {G : GP}
end
end Go.Proofs.Ytjmeakfjfpnciaa
namespace Go.Proofs.Ytjmeakfjfpnciaa
open Go.RowKit
theorem good7_any (lo hi size : Int) (w : World) : Calls Try.prog 34 #[.int .i64 lo, .int .i64 hi, .int .i64 size] w fun e w' => e = .returned (.bool (decide (0 ≤ lo ∧ lo ≤ hi ∧ hi ≤ size))) ∧ w' = w := by
 by_cases h1 : 0 ≤ lo <;> by_cases h2 : lo ≤ hi <;> by_cases h3 : hi ≤ size <;>
  (go_enter Try.func34, Try.ntmps34
   go_wp2
   go_ret
   exact ⟨ret_bool (by simp [h1, h2, h3]), rfl⟩)
theorem four7_any (n : Nat) (hn : n < 9223372036854775808) (w : World) : Calls Try.prog 95 #[.int .i64 (n : Int)] w (Gives (.string (fourS n)) w) := by
 have hn0 : (0 : Int) ≤ (n : Int) := by omega
 unfold Gives
 go_enter Try.func95, Try.ntmps95
 obtain ⟨w1, hq1, hb9, hz9, Hr⟩ := new1 w 5 [.int .u8 ((n : Int) / 16777216 % 256), .int .u8 ((n : Int) / 65536 % 256), .int .u8 ((n : Int) / 256 % 256), .int .u8 ((n : Int) % 256)]
 have HB := Lib.hid hb9
 have HZS := hz9
 clear hb9 hz9
 have r_ := Hr.out.c4
 have hcv := run_convert_bytes_arg (P := Try.prog) w1 155 5 Try.underlying155 Try.underlying5 w.heap.size 0 4 4 [(n : Int) / 16777216 % 256, (n : Int) / 65536 % 256, (n : Int) / 256 % 256, (n : Int) % 256] rfl (fun i hi => by
  rcases (show i = 0 ∨ i = 1 ∨ i = 2 ∨ i = 3 by omega) with rfl | rfl | rfl | rfl
  ·exact Hr.out.cell (i := 0) rfl
  ·exact Hr.out.cell (i := 1) rfl
  ·exact Hr.out.cell (i := 2) rfl
  ·exact Hr.out.cell (i := 3) rfl) 9 Try.underlying9
 go_wp2_with fail
 clear hq1
 go_ret
 exact ⟨rfl, HB.out⟩
end Go.Proofs.Ytjmeakfjfpnciaa
namespace Go.Proofs.Ytjmeakfjfpnciaa
open Go.RowKit
theorem count_any (lo hi : Nat) (hlo : lo ≤ hi) (hhi : hi ≤ 1048576) (w : World) : Calls Try.prog 35 #[.int .i64 (lo : Int), .int .i64 (hi : Int)] w (Gives (.int .i64 ((cover lo hi).length : Int)) w) := by
 unfold Gives
 go_enter Try.func35, Try.ntmps35
 go_wp2_with fail
 refine (blocks_any lo hi w).mono ?_
 rintro e w2 ⟨rfl, hw2⟩
 have hb1 : Boxed w2 w.heap.size 3 (.int .i64 lo) := by rw [hw2]; exact (Boxed.new w _ _).alloc _
 have hb2 : Boxed w2 (w.heap.size + 1) 3 (.int .i64 hi) := by
  rw [hw2]
  have h := Boxed.new (w.alloc (.cells #[.int .i64 lo] 3)) 3 (.int .i64 hi)
  rwa [World.size_alloc] at h
 have hbl : Below w.heap.size w w2 := by rw [hw2]; exact ((Below.refl _ _).alloc (Nat.le_refl _) _).alloc (by simp) _
 have HB1 := Lib.hid hb1
 have HB2 := Lib.hid hb2
 have HBL := Lib.hid hbl
 clear hb1 hb2 hbl hw2
 go_wp2_with fail
 refine (collect_any w.heap.size w.heap.size (w.heap.size + 1) lo hi hlo hhi w2 HB1.out HB2.out (by omega) (Nat.le_refl _)).mono ?_
 rintro e w3 ⟨v, rfl, hr, hb⟩
 obtain ⟨x, c, rfl⟩ := RowO.form hr
 have HB := Lib.hid (HBL.out.trans hb)
 clear hr hb
 go_wp2_with fail
 go_ret
 exact ⟨rfl, HB.out⟩
def shortB (l : List ByteArray) : Bool := l.any fun x => decide (x.size ≠ 32)
theorem short1_any (x : ByteArray) (b : Bool) (hb : decide (x.size ≠ 32) = b) (w : World) : Calls Try.prog 100 #[.string x] w fun e w' => e = .returned (.bool b) ∧ Below w.heap.size w w' := by
 by_cases h : x.size = 32
 ·obtain rfl : b = false := by rw [← hb]; simp [h]
  have hd : ((x.size : Int) != 32) = false := by simp; omega
  clear hb h
  go_enter Try.func100, Try.ntmps100
  go_wp2_with fail
  go_ret
  exact ⟨rfl, Below.refl _ _⟩
 ·obtain rfl : b = true := by rw [← hb]; simp [h]
  have hd : ((x.size : Int) != 32) = true := by simp; omega
  clear hb h
  go_enter Try.func100, Try.ntmps100
  go_wp2_with fail
  go_ret
  exact ⟨rfl, Below.refl _ _⟩
theorem any_snoc7 {l : List ByteArray} {f : ByteArray → Bool} {j : Nat} (hj : j < l.length) (h : (l.take j).any f = false) (h1 : f l[j] = false) : (l.take (j + 1)).any f = false := by
 rw [List.take_succ_eq_append_getElem hj, List.any_append, h]; simp [h1]
theorem any_here7 {l : List ByteArray} {f : ByteArray → Bool} {j : Nat} (hj : j < l.length) (h1 : f l[j] = true) : l.any f = true := List.any_eq_true.2 ⟨_, List.getElem_mem hj, h1⟩
theorem idx7_any (l : List ByteArray) (n : Nat) (hn : l.length = n) (hl : n ≤ 1152921504606846976) (a : Option Addr) (c : Nat) (w : World) (hX : Sl w w.heap.size a (l.map Value.string)) :
  Calls Try.prog 155 #[.slice a n c, .func (.func 100) #[] #[]] w fun e w' => ∃ z : Int, e = .returned (.int .i64 z) ∧ decide (z ≥ 0) = shortB l ∧ Below w.heap.size w w' := by
 have HX := Lib.hid hX
 have HN := Lib.hid hn
 clear hX hn
 go_enter Try.func155, Try.ntmps155
 go_wp2_with fail
 go_loopw [8] (fun i wr => ∃ j : Nat, j ≤ n ∧ i = .int .i64 j ∧ Hid (Below w.heap.size w wr) ∧ Hid ((l.take j).any (fun x => decide (x.size ≠ 32)) = false)) (fun i _ => n - (intOf i).toNat)
 case atStart => exact ⟨0, Nat.zero_le _, rfl, Below.refl _ _, rfl⟩
 case round =>
  obtain ⟨j, hj, rfl, HB, HAL⟩ := hrel
  by_cases hjn : j < n
  ·have hjl : j < l.length := by rw [HN.out]; exact hjn
   obtain ⟨bl, ol, rfl, hbl, hc⟩ := (HX.out.up HB.out).at j (by rw [List.length_map]; exact hjl)
   rw [List.getElem_map] at hc
   obtain ⟨bj, hbj⟩ : ∃ x, decide (l[j].size ≠ 32) = x := ⟨_, rfl⟩
   have HBJ := Lib.hid hbj
   clear hbj
   go_wp2_with fail
   refine (short1_any l[j] bj HBJ.out wr).mono ?_
   rintro e w1 ⟨rfl, hb9⟩
   replace HB := hbu HB hb9
   have HZS := Lib.hid hb9.size
   clear hb9
   cases bj
   ·go_wp2_with fail
    go_roundw
    case rel => exact ⟨j + 1, hjn, by go_num, HB, any_snoc7 hjl HAL.out HBJ.out⟩
    case measure => simp [intOf]; omega
   ·go_wp2_with fail
    go_ret
    exact ⟨j, rfl, by unfold shortB; rw [any_here7 hjl HBJ.out]; simp, HB.out⟩
  ·have hjn : j = n := by omega
   subst hjn
   go_wp2_with fail
   go_ret
   rw [List.take_of_length_le (by rw [HN.out]; exact Nat.le_refl _)] at HAL
   exact ⟨-1, rfl, by unfold shortB; rw [HAL.out]; rfl, HB.out⟩
theorem short_any (l : List ByteArray) (n : Nat) (hn : l.length = n) (hl : n ≤ 1152921504606846976) (a : Option Addr) (c : Nat) (w : World) (hX : Sl w w.heap.size a (l.map Value.string)) :
  Calls Try.prog 36 #[.slice a n c] w (Gives (.bool (shortB l)) w) := by
 have H1 : Calls Try.prog 99 #[.slice a n c, .func (.func 100) #[] #[]] w fun e w' => e = .returned (.bool (shortB l)) ∧ Below w.heap.size w w' := by
  have HI := Lib.hid (idx7_any l n hn hl a c w hX)
  generalize shortB l = b at *
  clear hn hX
  go_enter Try.func99, Try.ntmps99
  go_wp2_with fail
  refine (HI.out).mono ?_
  rintro e w1 ⟨z, rfl, hz, hb9⟩
  have HB := Lib.hid hb9
  have HZS := Lib.hid hb9.size
  clear hb9
  go_wp2_with fail
  go_ret
  exact ⟨rfl, HB.out⟩
 have HI := Lib.hid H1
 generalize shortB l = b at *
 clear H1 hn hX
 unfold Gives
 go_enter Try.func36, Try.ntmps36
 go_wp2_with fail
 refine (HI.out).mono ?_
 rintro e w1 ⟨rfl, hb9⟩
 have HB := Lib.hid hb9
 have HZS := Lib.hid hb9.size
 clear hb9
 go_wp2_with fail
 go_ret
 exact ⟨rfl, HB.out⟩
end Go.Proofs.Ytjmeakfjfpnciaa
namespace Go.Proofs.Ytjmeakfjfpnciaa
open Go.RowKit
abbrev headB : ByteArray := ⟨#[104, 101, 97, 100]⟩
def headS (n : Nat) (ds : List ByteArray) : ByteArray := tagS headB (fourS n :: ds)
theorem join_many (l : ByteArray) (ps : List ByteArray) (h : ∀ p ∈ ps, p.size ≤ 32) (hn : ps.length ≤ 2097152) (hl : l.size ≤ 32) : (joinL l ps).length < 2305843009213693952 := by
 have key : ∀ x : ByteArray, (pfxL x).length = 4 + x.size := fun x => by unfold pfxL; rw [List.length_append, bytesOf_len]; rfl
 have gen : ∀ qs : List ByteArray, (∀ p ∈ qs, p.size ≤ 32) → (qs.flatMap pfxL).length ≤ qs.length * 36 := by
  intro qs
  induction qs with
  | nil => intro _; simp
  | cons q qs ih =>
   intro hq
   have h1 := ih (fun p hp => hq p (List.mem_cons_of_mem _ hp))
   have h2 := hq q (by simp)
   rw [List.flatMap_cons, List.length_append, key, List.length_cons, Nat.add_mul]
   omega
 have h1 := gen ps h
 unfold joinL
 rw [List.length_append, key]
 omega
theorem head_any (n : Nat) (hn : n ≤ 1048576) (ds : List ByteArray) (m : Nat) (hm : ds.length = m) (hm2 : m ≤ 1048576) (hz : ∀ x ∈ ds, x.size ≤ 32) (a : Option Addr) (c : Nat) (hac : a = none → c = 0) (w : World) (hX : Sl w w.heap.size a (ds.map Value.string)) :
  Calls Try.prog 39 #[.int .i64 (n : Int), .slice a m c] w (Gives (.string (headS n ds)) w) := by
 have HT := Lib.hid (fun a c w hX => Tag_any headB (fourS n :: ds) (1 + m) (by simp; omega) (join_many headB (fourS n :: ds) (by intro p hp; rcases List.mem_cons.1 hp with rfl | hp; exact (by rw [fourS_size]; decide); exact hz p hp) (by simp; omega) (by decide)) a c w hX)
 have HF := Lib.hid (four7_any n (by omega))
 unfold headS
 obtain ⟨v, hv⟩ : ∃ v, tagS headB (fourS n :: ds) = v := ⟨_, rfl⟩
 rw [hv] at HT ⊢
 unfold Gives at *
 obtain ⟨f4, hf4⟩ : ∃ v, fourS n = v := ⟨_, rfl⟩
 rw [hf4] at HF HT
 have HM := Lib.hid hm
 have HX := Lib.hid hX
 clear hv hf4 hm hz hX
 go_enter Try.func39, Try.ntmps39
 go_upto_region 1 with fail
 go_wp2_with fail
 refine (HF.out w).mono ?_
 rintro e w1 ⟨rfl, hb9⟩
 have HB := Lib.hid hb9
 have HZS := Lib.hid hb9.size
 clear hb9
 obtain ⟨w2, hq2, hb9, hz9, Hr⟩ := new1 w1 9 [.string f4]
 replace HB := hbu HB hb9
 replace HZS := sz HZS hz9.out
 clear hb9 hz9
 have r_ := Hr.out.c1
 have Hr9 := Lib.hid (RowO.of_bx (n := 1) (size := 1) Hr.out (Nat.le_refl _) rfl (by decide))
 clear r_ Hr
 have Hr := Hr9
 clear Hr9
 obtain ⟨i9, hi9, hz90, hz91, hz92⟩ := info_parts infoStrP
 go_wp2_with (at_builtin; refine wpList_joinR (w1.heap.size) w2 (by have g0 := HZS.out; omega) rfl _ _ 22 rfl 9 i9 _ 1 16 Try.underlying22 hi9 hz90 hz91 hz92 rfl (by omega) ((.slice (some ⟨w1.heap.size, 0, none⟩) 1 1)) (1) ([.string f4]) rfl Hr.out (a) (m) (c) (ds.map Value.string) rfl (by rw [List.length_map, HM.out, Nat.mul_one]) ((HX.out.up HB.out)) (hac) (by simp [Value.oneCell']) (by omega) (by unfold maxLen; omega) ?_)
 intro a3 c3 w3 hown9 hg9
 clear hq2
 have hb9 := Below.grown HB.out hg9 (by have g0 := HZS.out; omega) (fun q hq => Nat.le_trans (show w.heap.size ≤ w1.heap.size by have g0 := HZS.out; omega) (Hr.out.lt q hq).1)
 replace HZS := sz HZS hg9.size
 clear Hr HB
 have Hr := Lib.hid hown9
 have HB := Lib.hid hb9
 clear hb9 hown9 hg9 hi9 hz90 hz91 hz92
 go_wp2_with fail
 refine (HT.out _ _ w3 Hr.out.sl).mono ?_
 rintro e w4 ⟨rfl, hb9⟩
 replace Hr := Lib.hid (Hr.out.up hb9)
 replace HB := hbu HB hb9
 replace HZS := sz HZS hb9.size
 clear hb9
 go_wp2_with fail
 go_ret
 exact ⟨rfl, HB.out⟩
def headR (n : Int) (ds : List ByteArray) : ByteArray × Int :=
 if 0 ≤ n ∧ n ≤ 1048576 then (if ds.length = (cover 0 n.toNat).length ∧ shortB ds = false then (headS n.toNat ds, 0) else (⟨#[]⟩, 2)) else (⟨#[]⟩, 4)
theorem short_sizes {ds : List ByteArray} (h : shortB ds = false) : ∀ x ∈ ds, x.size ≤ 32 := by
 intro x hx
 unfold shortB at h
 have h1 := List.any_eq_false.1 h x hx
 simp only [ne_eq, decide_eq_true_eq, Decidable.not_not] at h1
 omega
end Go.Proofs.Ytjmeakfjfpnciaa
namespace Go.Proofs.Ytjmeakfjfpnciaa
open Go.RowKit
def pcsOf (sp : List (Nat × Nat)) (ds : List ByteArray) : List Pc := List.zipWith (fun x d => ⟨x.1, x.2, d⟩) sp ds
theorem pcs_run : ∀ (f lo hi : Nat) (ds : List ByteArray), lo ≤ hi → hi - lo ≤ f → ds.length = (partsN f lo hi).length → RunP lo (pcsOf (partsN f lo hi) ds) hi
 | 0, lo, hi, ds, h1, h2, _ => by
  show RunP lo (pcsOf [] ds) hi
  unfold pcsOf
  rw [List.zipWith_nil_left]
  show lo = hi
  omega
 | f + 1, lo, hi, ds, h1, h2, h3 => by
  rw [partsN] at h3 ⊢
  by_cases hlt : lo < hi
  ·rw [if_pos hlt] at h3 ⊢
   have hle := down_le lo (hi - lo) (by omega) 20
   have hpos := down_pos lo (hi - lo) 20
   match ds, h3 with
   | d :: ds, h3 =>
    exact ⟨rfl, by show lo < lo + down 20 lo (hi - lo); omega, pcs_run f (lo + down 20 lo (hi - lo)) hi ds (by omega) (by omega) (by simpa using h3)⟩
  ·rw [if_neg hlt]
   show RunP lo (pcsOf [] ds) hi
   unfold pcsOf
   rw [List.zipWith_nil_left]
   show lo = hi
   omega
theorem RunP.app {b c : Nat} : ∀ {l m : List Pc} {a : Nat}, RunP a l b → RunP b m c → RunP a (l ++ m) c
 | [], _, _, h, h1 => by cases h; exact h1
 | _ :: _, _, _, h, h1 => ⟨h.1, h.2.1, RunP.app h.2.2 h1⟩
theorem pcs_mem {sp : List (Nat × Nat)} {ds : List ByteArray} {p : Pc} (h : p ∈ pcsOf sp ds) : (p.lo, p.hi) ∈ sp ∧ p.d ∈ ds := by
 unfold pcsOf at h
 obtain ⟨i, hi, rfl⟩ := List.getElem_of_mem h
 rw [List.getElem_zipWith]
 exact ⟨List.getElem_mem _, List.getElem_mem _⟩
theorem pcs_dy {lo hi : Nat} {ds : List ByteArray} {p : Pc} (h : p ∈ pcsOf (coverN lo hi) ds) : Dy p ∧ p.lo < p.hi ∧ p.hi ≤ hi := by
 obtain ⟨_, h2, k, h3, h4⟩ := coverN_ok (pcs_mem h).1
 have := Nat.pow_pos (n := k) (show 0 < 2 by decide)
 simp only at h2 h3 h4
 exact ⟨⟨k, h3, h4⟩, by omega, h2⟩
theorem pcsOf_span : ∀ {sp : List (Nat × Nat)} {ds : List ByteArray}, ds.length = sp.length → (pcsOf sp ds).map (fun p => (p.lo, p.hi)) = sp
 | [], ds, _ => by unfold pcsOf; rw [List.zipWith_nil_left]; rfl
 | x :: sp, [], h => by cases h
 | x :: sp, d :: ds, h => by
  have ih := pcsOf_span (sp := sp) (ds := ds) (by simpa using h)
  show (x.1, x.2) :: (pcsOf sp ds).map (fun p => (p.lo, p.hi)) = x :: sp
  rw [ih]
theorem pcsOf_d : ∀ {sp : List (Nat × Nat)} {ds : List ByteArray}, ds.length = sp.length → (pcsOf sp ds).map Pc.d = ds
 | [], ds, h => by
  have : ds = [] := List.length_eq_zero_iff.1 h
  rw [this]; rfl
 | x :: sp, [], h => by cases h
 | x :: sp, d :: ds, h => by
  have ih := pcsOf_d (sp := sp) (ds := ds) (by simpa using h)
  show d :: (pcsOf sp ds).map Pc.d = d :: ds
  rw [ih]
section
variable (lo hi size : Nat) (b i a : List ByteArray)
def meetL : List Pc := pcsOf (coverN 0 lo) b ++ (pcsOf (coverN lo hi) i ++ pcsOf (coverN hi size) a)
def meetOk : Bool := decide (b.length = (cover 0 lo).length) && (decide (i.length = (cover lo hi).length) && (decide (a.length = (cover hi size).length) && (!shortB b && (!shortB i && !shortB a))))
def meetD : List ByteArray := (leftH bothS (meetL lo hi size b i a)).map Pc.d
end
def meetB (h : ByteArray) (size lo hi : Int) (b i a : List ByteArray) : Bool :=
 decide (0 ≤ lo ∧ lo ≤ hi ∧ hi ≤ size ∧ size ≤ 1048576) && (meetOk lo.toNat hi.toNat size.toNat b i a && decide (headS size.toNat (meetD lo.toNat hi.toNat size.toNat b i a) = h))
section
variable {lo hi size : Nat} {b i a : List ByteArray}
theorem meetOk_iff : meetOk lo hi size b i a = true ↔ (b.length = (coverN 0 lo).length ∧ i.length = (coverN lo hi).length ∧ a.length = (coverN hi size).length) ∧ shortB b = false ∧ shortB i = false ∧ shortB a = false := by
 unfold meetOk
 rw [coverN_len, coverN_len, coverN_len]
 simp only [Bool.and_eq_true, decide_eq_true_eq, Bool.not_eq_true']
 constructor
 ·rintro ⟨h1, h2, h3, h4, h5, h6⟩; exact ⟨⟨h1, h2, h3⟩, h4, h5, h6⟩
 ·rintro ⟨⟨h1, h2, h3⟩, h4, h5, h6⟩; exact ⟨h1, h2, h3, h4, h5, h6⟩
theorem meet_spans (e1 : b.length = (cover 0 lo).length) (e2 : i.length = (cover lo hi).length) (e3 : a.length = (cover hi size).length) : (meetL lo hi size b i a).map (fun p => ((p.lo : Int), (p.hi : Int))) = cover 0 lo ++ (cover lo hi ++ cover hi size) := by
 have key : ∀ (lo hi : Nat) (ds : List ByteArray), ds.length = (cover lo hi).length → (pcsOf (coverN lo hi) ds).map (fun p => ((p.lo : Int), (p.hi : Int))) = cover lo hi := fun lo hi ds h => by
  rw [cover_coverN]
  conv => rhs; rw [← pcsOf_span (sp := coverN lo hi) (ds := ds) (by rw [h, coverN_len])]
  rw [List.map_map]
  rfl
 unfold meetL
 rw [List.map_append, List.map_append, key _ _ _ e1, key _ _ _ e2, key _ _ _ e3]
theorem meet_ds (e1 : b.length = (cover 0 lo).length) (e2 : i.length = (cover lo hi).length) (e3 : a.length = (cover hi size).length) : (meetL lo hi size b i a).map Pc.d = b ++ (i ++ a) := by
 unfold meetL
 rw [List.map_append, List.map_append, pcsOf_d (by rw [e1, coverN_len]), pcsOf_d (by rw [e2, coverN_len]), pcsOf_d (by rw [e3, coverN_len])]
theorem meet_run (h1 : lo ≤ hi) (h2 : hi ≤ size) (h : meetOk lo hi size b i a = true) : RunP 0 (meetL lo hi size b i a) size := by
 obtain ⟨⟨e1, e2, e3⟩, _⟩ := meetOk_iff.1 h
 exact RunP.app (pcs_run _ 0 lo b (Nat.zero_le _) (Nat.le_refl _) e1) (RunP.app (pcs_run _ lo hi i h1 (Nat.le_refl _) e2) (pcs_run _ hi size a h2 (Nat.le_refl _) e3))
theorem meet_mem (h1 : lo ≤ hi) (h2 : hi ≤ size) {p : Pc} (h : p ∈ meetL lo hi size b i a) : Dy p ∧ p.lo < p.hi ∧ p.hi ≤ size ∧ (p.d ∈ b ∨ p.d ∈ i ∨ p.d ∈ a) := by
 unfold meetL at h
 rcases List.mem_append.1 h with h | h
 ·obtain ⟨q1, q2, q3⟩ := pcs_dy h
  exact ⟨q1, q2, by omega, Or.inl (pcs_mem h).2⟩
 rcases List.mem_append.1 h with h | h
 ·obtain ⟨q1, q2, q3⟩ := pcs_dy h
  exact ⟨q1, q2, by omega, Or.inr (Or.inl (pcs_mem h).2)⟩
 ·obtain ⟨q1, q2, q3⟩ := pcs_dy h
  exact ⟨q1, q2, q3, Or.inr (Or.inr (pcs_mem h).2)⟩
theorem short_32 {l : List ByteArray} (h : shortB l = false) : ∀ x ∈ l, x.size = 32 := fun x hx => by
 unfold shortB at h
 have h1 := List.any_eq_false.1 h x hx
 simpa using h1
theorem meet_32 (h1 : lo ≤ hi) (h2 : hi ≤ size) (h : meetOk lo hi size b i a = true) : ∀ p ∈ meetL lo hi size b i a, p.d.size = 32 := fun p hp => by
 obtain ⟨_, g1, g2, g3⟩ := meetOk_iff.1 h
 rcases (meet_mem h1 h2 hp).2.2.2 with h9 | h9 | h9
 ·exact short_32 g1 _ h9
 ·exact short_32 g2 _ h9
 ·exact short_32 g3 _ h9
theorem meet_head (h1 : lo ≤ hi) (h2 : hi ≤ size) (h20 : size ≤ 1048576) (h : meetOk lo hi size b i a = true) : (meetD lo hi size b i a).length = (cover 0 size).length ∧ shortB (meetD lo hi size b i a) = false := by
 refine ⟨?_, ?_⟩
 ·unfold meetD
  rw [List.length_map, leftH_count bothS h20 (meet_run h1 h2 h) (fun p hp => (meet_mem h1 h2 hp).1), coverN_len]
 ·unfold shortB
  rw [List.any_eq_false]
  intro x hx
  unfold meetD at hx
  obtain ⟨p, hp, rfl⟩ := List.mem_map.1 hx
  have := heapH_sizes (H := bothS) bothS_size (meetL lo hi size b i a) [] (fun _ h => by cases h) (meet_32 h1 h2 h) p (List.mem_reverse.1 hp)
  simp [this]
end
end Go.Proofs.Ytjmeakfjfpnciaa
namespace Go.Proofs.Ytjmeakfjfpnciaa
open Go.RowKit
theorem Bx_putObj {W : World} {b l : Nat} {t : TypeId} {cs : List Value} {o : Obj} (h : Bx W b t cs) (o' : Obj) (hl : W.heap[l]? = some o) (ho : o.isCells = false) : Bx (W.putObj l o') b t cs := by
 have hne : b ≠ l := by
  intro e
  subst e
  rw [show W.heap[b]? = _ from h] at hl
  obtain rfl := Option.some.inj hl
  cases ho
 exact (World.putObj_heap_other hne).trans h
theorem RowO.isCells {N n size q : Nat} {w : World} {e : TypeId} {v : Value} {xs : List Value} (h : RowO N w e size v n xs) (hq : v.ownBlock = some q) {o : Obj} (ho : w.heap[q]? = some o) : o.isCells = true := by
 rcases h.2 with ⟨rfl, _⟩ | ⟨g, cap, cur, rfl, _, hg, _⟩
 ·cases hq
 ·have e8 : some g = some q := hq
  cases e8
  rw [hg] at ho
  cases ho
  rfl
def MeetG (n0 N M M2 hb ii pp ar c hh : Nat) : Prop := n0 ≤ hb ∧ hb < N ∧ n0 ≤ ar ∧ ar < N ∧ ar ≠ hb ∧ N ≤ M ∧ M ≤ pp ∧ pp < ii ∧ ii < c ∧ c < hh ∧ hh < M2
structure MeetI (n0 N M M2 : Nat) (w : World) (hb ii pp ar c hh : Nat) (tp : TypeId) (pv av : List Value) (hi : Nat) (Ds : List Nat) (k : Nat) (l : List Pc) (v : Value) (W : World) : Prop where
 heap : ∃ vs vd, HeapAt W N hb 0 66 [vs, vd] vs vd l ∧ ∀ q, vs.ownBlock = some q ∨ vd.ownBlock = some q → q < M ∨ M2 ≤ q
 cnt : Bx W ii 3 [.int .i64 (k : Int)]
 part : Bx W pp tp pv
 parts : Bx W ar tp av
 cur : Boxed W c 3 v
 top : Boxed W hh 3 (.int .i64 hi)
 marks : ∀ D ∈ Ds, D < M ∧ W.heap[D]? = some (.deferred (some []))
 below : Below n0 w W
 sz : M2 ≤ W.heap.size
section
variable {n0 N M M2 hb ii pp ar c hh hi k : Nat} {w W : World} {tp : TypeId} {pv av : List Value} {Ds : List Nat} {l : List Pc} {v : Value}
theorem MeetI.up {W' : World} (g : MeetI n0 N M M2 w hb ii pp ar c hh tp pv av hi Ds k l v W) (hn : n0 ≤ w.heap.size) (hb9 : Below W.heap.size W W') : MeetI n0 N M M2 w hb ii pp ar c hh tp pv av hi Ds k l v W' := by
 obtain ⟨vs, vd, hh9, hr⟩ := g.heap
 exact ⟨⟨vs, vd, hh9.up hb9, hr⟩, g.cnt.up hb9, g.part.up hb9, g.parts.up hb9, Bx.up (cs := [v]) g.cur hb9, Bx.up (cs := [.int .i64 hi]) g.top hb9, fun D hD => ⟨(g.marks D hD).1, (hb9.block D (Array.getElem?_eq_some_iff.1 (g.marks D hD).2).1).trans (g.marks D hD).2⟩, g.below.trans (hb9.mono (Nat.le_trans hn g.below.size)), Nat.le_trans g.sz hb9.size⟩
theorem MeetI.alloc (g : MeetI n0 N M M2 w hb ii pp ar c hh tp pv av hi Ds k l v W) (hn : n0 ≤ w.heap.size) (o : Obj) : MeetI n0 N M M2 w hb ii pp ar c hh tp pv av hi Ds k l v (W.alloc o) :=
 g.up hn ((Below.refl _ _).alloc (Nat.le_refl _) o)
theorem MeetI.put (g : MeetI n0 N M M2 w hb ii pp ar c hh tp pv av hi Ds k l v W) (hn : n0 ≤ w.heap.size) {q : Nat} {o : Obj} (o' : Obj) (hl : W.heap[q]? = some o) (ho : o.isCells = false) (hln : n0 ≤ q) (hm : M ≤ q) : MeetI n0 N M M2 w hb ii pp ar c hh tp pv av hi Ds k l v (W.putObj q o') := by
 obtain ⟨vs, vd, hh9, hr⟩ := g.heap
 exact ⟨⟨vs, vd, ⟨Bx_putObj hh9.bx o' hl ho, hh9.c0, hh9.c1, ownsRow_putObj hh9.rs o' hl ho, ownsRow_putObj hh9.rd o' hl ho, hh9.ap, hh9.hs, hh9.hd⟩, hr⟩, Bx_putObj g.cnt o' hl ho, Bx_putObj g.part o' hl ho, Bx_putObj g.parts o' hl ho, Boxed_putObj g.cur o' hl ho, Boxed_putObj g.top o' hl ho, fun D hd => ⟨(g.marks D hd).1, (World.putObj_heap_other (by have := (g.marks D hd).1; omega)).trans (g.marks D hd).2⟩, g.below.grown (grownBy_putObj' W q o') (Nat.le_trans hn g.below.size) (fun k e => by cases e; exact hln), Nat.le_trans g.sz (grownBy_putObj' W q o').size⟩
theorem MeetI.set (g : MeetI n0 N M M2 w hb ii pp ar c hh tp pv av hi Ds k l v W) (G : MeetG n0 N M M2 hb ii pp ar c hh) (v' : Value) : MeetI n0 N M M2 w hb ii pp ar c hh tp pv av hi Ds k l v' (W.setCell ⟨c, 0, none⟩ v') := by
 unfold MeetG at G
 obtain ⟨vs, vd, hh9, hr⟩ := g.heap
 exact ⟨⟨vs, vd, ⟨hh9.bx.other (by omega) 0 v', hh9.c0, hh9.c1, RowO.other hh9.rs (fun e => by have := hr c (Or.inl e); omega) 0 v', RowO.other hh9.rd (fun e => by have := hr c (Or.inr e); omega) 0 v', hh9.ap, hh9.hs, hh9.hd⟩, hr⟩, g.cnt.other (by omega) 0 v', g.part.other (by omega) 0 v', g.parts.other (by omega) 0 v', g.cur.set v', Boxed_setOther g.top (by omega) v', fun D hd => ⟨(g.marks D hd).1, (Below.heap_setCell W ⟨c, 0, none⟩ v' D (by have := (g.marks D hd).1; intro e; have e9 : D = c := e; omega)).trans (g.marks D hd).2⟩, g.below.setCell (show n0 ≤ c by omega) v', by rw [show (W.setCell ⟨c, 0, none⟩ v').heap.size = W.heap.size by simp [World.setCell]]; exact g.sz⟩
theorem MeetI.count (g : MeetI n0 N M M2 w hb ii pp ar c hh tp pv av hi Ds k l v W) (G : MeetG n0 N M M2 hb ii pp ar c hh) : MeetI n0 N M M2 w hb ii pp ar c hh tp pv av hi Ds (k + 1) l v (W.setCell ⟨ii, 0, none⟩ (.int .i64 ((k + 1 : Nat) : Int))) := by
 unfold MeetG at G
 obtain ⟨vs, vd, hh9, hr⟩ := g.heap
 exact ⟨⟨vs, vd, ⟨hh9.bx.other (by omega) 0 _, hh9.c0, hh9.c1, RowO.other hh9.rs (fun e => by have := hr ii (Or.inl e); omega) 0 _, RowO.other hh9.rd (fun e => by have := hr ii (Or.inr e); omega) 0 _, hh9.ap, hh9.hs, hh9.hd⟩, hr⟩, g.cnt.set 0 _, g.part.other (by omega) 0 _, g.parts.other (by omega) 0 _, Boxed_setOther g.cur (by omega) _, Boxed_setOther g.top (by omega) _, fun D hd => ⟨(g.marks D hd).1, (Below.heap_setCell W ⟨ii, 0, none⟩ _ D (by have := (g.marks D hd).1; intro e; have e9 : D = ii := e; omega)).trans (g.marks D hd).2⟩, g.below.setCell (show n0 ≤ ii by omega) _, by rw [show (W.setCell ⟨ii, 0, none⟩ (.int .i64 ((k + 1 : Nat) : Int))).heap.size = W.heap.size by simp [World.setCell]]; exact g.sz⟩
theorem MeetI.count' (g : MeetI n0 N M M2 w hb ii pp ar c hh tp pv av hi Ds k l v W) (G : MeetG n0 N M M2 hb ii pp ar c hh) {z : Int} {k' : Nat} (hz : z = k) (hk : k' = k + 1) : MeetI n0 N M M2 w hb ii pp ar c hh tp pv av hi Ds k' l v (W.setCell ⟨ii, 0, none⟩ (.int .i64 (z + 1))) := by
 subst hz
 subst hk
 exact g.count G
theorem heapAt_kept_cells {W W' : World} {vs vd : Value} {l l' : List Pc} (hH : HeapAt W N hb 0 66 [vs, vd] vs vd l) (hp : PutR W W' N hb 0 66 [vs, vd] vs vd l') {q : Nat} {o : Obj} (hq : W.heap[q]? = some o) (ho : o.isCells = false) : W'.heap[q]? = some o := by
 refine (hp.kept.block q (Array.getElem?_eq_some_iff.1 hq).1 ?_).trans hq
 rintro (rfl | h | h)
 ·rw [show W.heap[q]? = _ from hH.bx] at hq
  cases hq
  cases ho
 ·rw [hH.rs.isCells h hq] at ho; cases ho
 ·rw [hH.rd.isCells h hq] at ho; cases ho
theorem heapAt_others {W W' : World} {vs vd : Value} {l l' : List Pc} (hH : HeapAt W N hb 0 66 [vs, vd] vs vd l) (hp : PutR W W' N hb 0 66 [vs, vd] vs vd l') : KeepsOthers W W' :=
 ⟨hp.kept.size, fun _ _ hq ho => heapAt_kept_cells hH hp hq ho⟩
theorem MeetI.took {W' : World} {l' : List Pc} {vs vd : Value} (g : MeetI n0 N M M2 w hb ii pp ar c hh tp pv av hi Ds k l v W) (G : MeetG n0 N M M2 hb ii pp ar c hh) (hH : HeapAt W N hb 0 66 [vs, vd] vs vd l) (hr : ∀ q, vs.ownBlock = some q ∨ vd.ownBlock = some q → q < M ∨ M2 ≤ q) (hp : PutR W W' N hb 0 66 [vs, vd] vs vd l') (hn : n0 ≤ w.heap.size) : MeetI n0 N M M2 w hb ii pp ar c hh tp pv av hi Ds k l' v W' := by
 unfold MeetG at G
 obtain ⟨us, ud, hh9, h1, h2⟩ := hp.ex
 have hsz := g.sz
 have key : ∀ x, M ≤ x → x < M2 → ¬ (x = hb ∨ vs.ownBlock = some x ∨ vd.ownBlock = some x) := by
  rintro x h3 h4 (rfl | h | h)
  ·omega
  ·have := hr x (Or.inl h); omega
  ·have := hr x (Or.inr h); omega
 have keyA : ¬ (ar = hb ∨ vs.ownBlock = some ar ∨ vd.ownBlock = some ar) := by
  rintro (h | h | h)
  ·omega
  ·have := (hH.rs.lt ar h).1; omega
  ·have := (hH.rd.lt ar h).1; omega
 refine ⟨⟨us, ud, hh9, ?_⟩, g.cnt.keptP hp.kept (key _ (by omega) (by omega)), g.part.keptP hp.kept (key _ (by omega) (by omega)), g.parts.keptP hp.kept keyA, Bx.keptP (cs := [v]) g.cur hp.kept (key _ (by omega) (by omega)), Bx.keptP (cs := [.int .i64 hi]) g.top hp.kept (key _ (by omega) (by omega)), fun D hD => ⟨(g.marks D hD).1, heapAt_kept_cells hH hp (g.marks D hD).2 rfl⟩, Below.keptP g.below hp.kept (Nat.le_trans hn g.below.size) ?_, Nat.le_trans g.sz hp.kept.size⟩
 ·rintro q (h | h)
  ·rcases h1 q h with h | h
   ·exact hr q (Or.inl h)
   ·right; omega
  ·rcases h2 q h with h | h
   ·exact hr q (Or.inr h)
   ·right; omega
 ·rintro q (rfl | h | h)
  ·omega
  ·have := (hH.rs.lt q h).1; omega
  ·have := (hH.rd.lt q h).1; omega
end
theorem leaves_marks {F : Fence} {n : Nat} {P : Program} {fn : Func} {tmps : Array Value} {R : Ending → World → Prop} {n0 : Nat} {w : World} : ∀ (Ds : List Nat) (W : World), (∀ D ∈ Ds, W.heap[D]? = some (.deferred (some []))) → Ds.Nodup → (∀ D ∈ Ds, n0 ≤ D) → n0 ≤ W.heap.size → Below n0 w W → (∀ W', Below n0 w W' → LeavesIn F n P fn tmps R [] .returning W') → LeavesInM F n P fn tmps R (Ds.map fun D => { target := .collected D, args := #[] }) .returning W
 | [], W, _, _, _, _, hb, h => h W hb
 | D :: Ds, W, hm, hn, h0, hs, hb, h => by
  have hD := hm D (List.mem_cons_self ..)
  obtain ⟨hn1, hn2⟩ := List.nodup_cons.1 hn
  refine ⟨by simp, Or.inl ⟨D, _, rfl, run_takeDeferred hD, leaves_marks Ds _ (fun E hE => ?_) hn2 (fun E hE => h0 E (List.mem_cons_of_mem _ hE)) ?_ (hb.grown (grownBy_putObj' W D _) hs (fun k e => by cases e; exact h0 D (List.mem_cons_self ..))) h⟩⟩
  ·exact (World.putObj_heap_other (by rintro rfl; exact hn1 hE)).trans (hm E (List.mem_cons_of_mem _ hE))
  ·exact Nat.le_trans hs (grownBy_putObj' W D _).size
end Go.Proofs.Ytjmeakfjfpnciaa
namespace Go.Proofs.Ytjmeakfjfpnciaa
open Go.RowKit
attribute [local go_sem] Oper.semAt_some
theorem bMeets_range (h : ByteArray) (size lo hi : Int) (v1 v2 v3 : Value) (hno : ¬ (0 ≤ lo ∧ lo ≤ hi ∧ hi ≤ size ∧ size ≤ 1048576)) (w : World) :
  Calls Try.prog 10 #[.string h, .int .i64 size, .int .i64 lo, .int .i64 hi, v1, v2, v3] w (Gives (.bool false) w) := by
 unfold Gives
 by_cases hg : 0 ≤ lo ∧ lo ≤ hi ∧ hi ≤ size
 ·have HD := Lib.hid (show decide (0 ≤ lo ∧ lo ≤ hi ∧ hi ≤ size) = true from decide_eq_true hg)
  have hd2 : size > 1048576 := by omega
  clear hno hg
  refine (callsIn_wide (n := 6)).1 (callsIn_of_wp_marks Try.func10 rfl trivial ((wpIn_wide (n := 6)).2 ?_) rfl)
  simp only [Try.ntmps10, List.size_toArray, List.length_cons, List.length_nil, Nat.reduceAdd, Nat.reduceSub, Array.replicate_succ, Array.replicate_zero, List.push_toArray, List.append_toArray, List.nil_append, List.cons_append]
  go_wp2_with fail
  refine (good7_any lo hi size w).mono ?_
  rintro e wz ⟨rfl, hwz⟩
  replace hwz := hwz.symm
  subst hwz
  rw [HD.out]
  go_wp2_with fail
  exact ⟨_, results_tmp rfl _ _ _, rfl, Below.refl _ _⟩
 ·have HD := Lib.hid (show decide (0 ≤ lo ∧ lo ≤ hi ∧ hi ≤ size) = false from decide_eq_false hg)
  clear hno hg
  refine (callsIn_wide (n := 6)).1 (callsIn_of_wp_marks Try.func10 rfl trivial ((wpIn_wide (n := 6)).2 ?_) rfl)
  simp only [Try.ntmps10, List.size_toArray, List.length_cons, List.length_nil, Nat.reduceAdd, Nat.reduceSub, Array.replicate_succ, Array.replicate_zero, List.push_toArray, List.append_toArray, List.nil_append, List.cons_append]
  go_wp2_with fail
  refine (good7_any lo hi size w).mono ?_
  rintro e wz ⟨rfl, hwz⟩
  replace hwz := hwz.symm
  subst hwz
  rw [HD.out]
  go_wp2_with fail
  exact ⟨_, results_tmp rfl _ _ _, rfl, Below.refl _ _⟩
def MeetL (bd : Nat → Nat) (w : World) (hb ar N : Nat) (tp : TypeId) (arC : List Value) (Ok : Nat → Prop) (Hp : Nat → List Pc) (v16 v41 : Value) (ds : List Deferred) (W : World) : Prop :=
 ∃ (j : Nat) (Ds : List Nat), j ≤ 3 ∧ v16 = .int .i64 (bd j : Int) ∧ v41 = .int .i64 (j : Int) ∧ ds = Ds.map (fun D => { target := .collected D, args := #[] }) ∧ Hid (Ok j) ∧
  Hid (∃ vs vd, HeapAt W N hb 0 66 [vs, vd] vs vd (Hp j)) ∧ Hid (Bx W ar tp arC) ∧ Hid (∀ D ∈ Ds, N ≤ D ∧ W.heap[D]? = some (.deferred (some []))) ∧ Hid Ds.Nodup ∧ Hid (Below w.heap.size w W) ∧ Hid (N ≤ W.heap.size)
def MeetHead (h : ByteArray) (bd nn : Nat → Nat) (ad : Nat → Option Addr) (cp : Nat → Nat) (w : World) (hb ar N : Nat) (arC : List Value) (Ok : Nat → Prop) (Hp : Nat → List Pc) (a' : Act) (W' : World) : Prop :=
 ∃ (ds : List Deferred) (v16 v18 v19 v41 v42 v43 v44 v45 v46 v47 v48 v49 v50 v51 v52 v53 v54 v55 v56 v57 v58 v59 v60 v61 v72 v73 v74 : Value), MeetL bd w hb ar N 67 arC Ok Hp v16 v41 ds W' ∧ a' = { tmps := [.string h, .int .i64 (bd 3 : Int), .int .i64 (bd 1 : Int), .int .i64 (bd 2 : Int), .slice (ad 0) (nn 0) (cp 0), .slice (ad 1) (nn 1) (cp 1), .slice (ad 2) (nn 2) (cp 2), undef, undef, undef, undef, undef, undef, undef, .bool false, .pointer (some ⟨hb, 0, none⟩), v16, undef, v18, v19, undef, .int .i64 (bd 1 : Int), .int .i64 (bd 2 : Int), .int .i64 (bd 3 : Int), .bool true, .bool false, .bool false, .int .i64 (bd 3 : Int), .bool (decide (1048576 < (bd 3 : Int))), .bool (decide (1048576 < (bd 3 : Int))), .int .i64 (bd 1 : Int), .slice (ad 0) (nn 0) (cp 0), .agg #[.int .i64 (bd 1 : Int), .slice (ad 0) (nn 0) (cp 0)], .int .i64 (bd 2 : Int), .slice (ad 1) (nn 1) (cp 1), .agg #[.int .i64 (bd 2 : Int), .slice (ad 1) (nn 1) (cp 1)], .int .i64 (bd 3 : Int), .slice (ad 2) (nn 2) (cp 2), .agg #[.int .i64 (bd 3 : Int), .slice (ad 2) (nn 2) (cp 2)], .slice (some ⟨ar, 0, none⟩) 3 3, .int .i64 3, v41, v42, v43, v44, v45, v46, v47, v48, v49, v50, v51, v52, v53, v54, v55, v56, v57, v58, v59, v60, v61, undef, undef, undef, undef, undef, undef, undef, undef, undef, undef, v72, v73, v74, undef, undef, undef, undef, undef, undef].toArray, defers := ds }
def StepM (H : ByteArray → ByteArray → ByteArray) (l l' : List Pc) (p : Pc) : Prop := (∃ a0, RunR a0 l.reverse p.lo) ∧ p.lo < p.hi ∧ p.hi ≤ 1048576 ∧ (∀ q ∈ l, q.d.size < 140737488355328) ∧ p.d.size < 140737488355328 ∧ l.length ≤ 1048576 ∧ (mergeH H l.reverse p).reverse = l'
theorem bMeets_gen (h : ByteArray) (bd nn : Nat → Nat) (ll : Nat → List ByteArray) (ad : Nat → Option Addr) (cp : Nat → Nat) (H : ByteArray → ByteArray → ByteArray) (Hp : Nat → List Pc) (HL : Nat → List (Int × Int) → List Pc) (okk eqq : Bool) (hb0 : bd 0 = 0)
  (hput : ∀ (N hb off : Nat) (t : TypeId) (cs : List Value) (vs vd : Value) (l l' : List Pc) (s : Pc), StepM H l l' s → ∀ (w : World), N ≤ w.heap.size → HeapAt w N hb off t cs vs vd l → Calls Try.prog 38 #[.pointer (some ⟨hb, off, none⟩), .agg #[.int .i64 (s.lo : Int), .int .i64 (s.hi : Int)], .string s.d] w fun e w' => e = .returned (.tuple #[]) ∧ PutR w w' N hb off t cs vs vd l')
  (hs : ByteArray) (hqq : (hs.toList == h.toList) = eqq) (hhead : okk = true → ∀ (a : Option Addr) (c : Nat) (W : World), (a = none → c = 0) → Sl W W.heap.size a (((Hp 3).map Pc.d).map Value.string) → Calls Try.prog 39 #[.int .i64 (bd 3 : Int), .slice a (Hp 3).length c] W (Gives (.string hs) W))
  (hl0 : ∀ j, HL j [] = Hp j) (hl1 : ∀ j, j < 3 → HL j (cover (bd j) (bd (j + 1))) = Hp (j + 1)) (hl2 : ∀ j, j < 3 → (∀ t, t < j + 1 → nn t = (cover (bd t) (bd (t + 1))).length ∧ shortB (ll t) = false) → ∀ (s : List (Int × Int)) (x1 x2 : Nat), s ++ [((x1 : Int), (x2 : Int))] <+: cover (bd j) (bd (j + 1)) → ∀ (h9 : s.length < (ll j).length), StepM H (HL j s) (HL j (s ++ [((x1 : Int), (x2 : Int))])) ⟨x1, x2, (ll j)[s.length]⟩)
  (hbm : ∀ j, j < 3 → bd j ≤ bd (j + 1) ∧ bd (j + 1) ≤ 1048576) (hnn : ∀ j, j < 3 → (ll j).length = nn j ∧ nn j ≤ 1152921504606846976)
  (hh0 : Hp 0 = []) (hno : ∀ j, j < 3 → ¬ (nn j = (cover (bd j) (bd (j + 1))).length ∧ shortB (ll j) = false) → okk = false) (hyes : (∀ j, j < 3 → nn j = (cover (bd j) (bd (j + 1))).length ∧ shortB (ll j) = false) → okk = true)
  (w : World) (hS : ∀ j, j < 3 → Sl w w.heap.size (ad j) ((ll j).map Value.string)) :
  Calls Try.prog 10 #[.string h, .int .i64 (bd 3 : Int), .int .i64 (bd 1 : Int), .int .i64 (bd 2 : Int), .slice (ad 0) (nn 0) (cp 0), .slice (ad 1) (nn 1) (cp 1), .slice (ad 2) (nn 2) (cp 2)] w (Gives (.bool (okk && eqq)) w) := by
 unfold Gives
 have HBM := Lib.hid hbm
 have HNN := Lib.hid hnn
 have HSS := Lib.hid hS
 have HNO := Lib.hid hno
 have HYES := Lib.hid hyes
 have HH0 := Lib.hid hh0
 have HB0 := Lib.hid hb0
 have h12 := hbm 1 (by omega)
 have h13 := hbm 2 (by omega)
 have HD := Lib.hid (show decide (0 ≤ (bd 1 : Int) ∧ (bd 1 : Int) ≤ (bd 2 : Int) ∧ (bd 2 : Int) ≤ (bd 3 : Int)) = true from decide_eq_true (by simp only [Nat.reduceAdd] at h12 h13; omega))
 have hd2 : ¬ ((bd 3 : Int) > 1048576) := by simp only [Nat.reduceAdd] at h13; omega
 have HPUT := Lib.hid hput
 have HHD := Lib.hid hhead
 have HQQ := Lib.hid hqq
 have HL0 := Lib.hid hl0
 have HL1 := Lib.hid hl1
 have HL2 := Lib.hid hl2
 clear hbm hnn hS hno hyes h12 h13 hh0 hb0 hput hl0 hl1 hl2 hhead hqq
 refine (callsIn_wide (n := 6)).1 (callsIn_of_wp_marks Try.func10 rfl trivial ((wpIn_wide (n := 6)).2 ?_) rfl)
 simp only [Try.ntmps10, List.size_toArray, List.length_cons, List.length_nil, Nat.reduceAdd, Nat.reduceSub, Array.replicate_succ, Array.replicate_zero, List.push_toArray, List.append_toArray, List.nil_append, List.cons_append]
 go_wp2_with fail
 refine (good7_any (bd 1) (bd 2) (bd 3) _).mono ?_
 rintro e wz ⟨rfl, hwz⟩
 replace hwz := hwz.symm
 subst hwz
 rw [HD.out]
 obtain ⟨w1, hq1, hb9, hz9, Hhp⟩ := new1 w 66 ([.slice none 0 0, .slice none 0 0])
 have HB := Lib.hid hb9
 have HZS := hz9
 clear hb9 hz9
 obtain ⟨w2, hq2, hb9, hz9, Har⟩ := new1 w1 67 ([.int .i64 (bd 1 : Int), .slice (ad 0) (nn 0) (cp 0), .int .i64 (bd 2 : Int), .slice (ad 1) (nn 1) (cp 1), .int .i64 (bd 3 : Int), .slice (ad 2) (nn 2) (cp 2)])
 replace Hhp := Lib.hid (Hhp.out.up hb9)
 replace HB := hbu HB hb9
 replace HZS := sz HZS hz9.out
 clear hb9 hz9
 go_wp2_with fail
 clear hq2 hq1
 have HARC := Lib.hid (show ∀ j, j < 3 → [Value.int .i64 (bd 1 : Int), .slice (ad 0) (nn 0) (cp 0), .int .i64 (bd 2 : Int), .slice (ad 1) (nn 1) (cp 1), .int .i64 (bd 3 : Int), .slice (ad 2) (nn 2) (cp 2)][j * 2]? = some (.int .i64 (bd (j + 1) : Int)) ∧ [Value.int .i64 (bd 1 : Int), .slice (ad 0) (nn 0) (cp 0), .int .i64 (bd 2 : Int), .slice (ad 1) (nn 1) (cp 1), .int .i64 (bd 3 : Int), .slice (ad 2) (nn 2) (cp 2)][j * 2 + 1]? = some (.slice (ad j) (nn j) (cp j)) from fun j hj => by
  rcases (show j = 0 ∨ j = 1 ∨ j = 2 by omega) with rfl | rfl | rfl <;> exact ⟨rfl, rfl⟩)
 generalize [Value.int .i64 (bd 1 : Int), .slice (ad 0) (nn 0) (cp 0), .int .i64 (bd 2 : Int), .slice (ad 1) (nn 1) (cp 1), .int .i64 (bd 3 : Int), .slice (ad 2) (nn 2) (cp 2)] = arC at *
 refine wp_loop (MeetHead h bd nn ad cp w w.heap.size w1.heap.size w2.heap.size arC (fun j => ∀ t, t < j → nn t = (cover (bd t) (bd (t + 1))).length ∧ shortB (ll t) = false) Hp) (fun a' _ => 3 - (RowKit.intOf (a'.tmps.getD 41 undef)).toNat) ?_ ?_
 ·refine ⟨_, _, _, _, _, _, _, _, _, _, _, _, _, _, _, _, _, _, _, _, _, _, _, _, _, _, _, _, ?_, rfl⟩
  exact ⟨0, [], Nat.zero_le _, by rw [HB0.out]; rfl, rfl, rfl, Lib.hid (fun t ht => absurd ht (Nat.not_lt_zero t)), Lib.hid ⟨.slice none 0 0, .slice none 0 0, by rw [HH0.out]; exact ⟨Hhp.out, rfl, rfl, RowO.nil, RowO.nil, (fun q e => by cases e), (fun e => by cases e), (fun e => by cases e)⟩⟩, Har, Lib.hid (fun D h => by cases h), Lib.hid List.nodup_nil, HB, Lib.hid (Nat.le_refl _)⟩
 rintro a' wr ⟨ds, v16, v18, v19, v41, v42, v43, v44, v45, v46, v47, v48, v49, v50, v51, v52, v53, v54, v55, v56, v57, v58, v59, v60, v61, v72, v73, v74, ⟨j, Ds, hj, rfl, rfl, rfl, HOK, HHP, Har, HDS, HND, HB, HNW⟩, rfl⟩
 clear Hhp
 by_cases hj3 : j < 3
 ·obtain ⟨vs, vd, hh9⟩ := HHP.out
  have HHP9 := Lib.hid hh9
  obtain ⟨hb1, hb2⟩ := HBM.out j hj3
  obtain ⟨hn1, hn2⟩ := HNN.out j hj3
  have HSJ := Lib.hid (HSS.out j hj3)
  obtain ⟨ha1, ha2⟩ := HARC.out j hj3
  have ar0 := Har.out.cell ha1
  have ar1 := Har.out.cell ha2
  have HNOJ := Lib.hid (HNO.out j hj3)
  have HN1J := Lib.hid hn1
  clear hh9 ha1 ha2 HHP
  obtain ⟨lo, hlo⟩ : ∃ x, bd j = x := ⟨_, rfl⟩
  obtain ⟨hi, hhi⟩ : ∃ x, bd (j + 1) = x := ⟨_, rfl⟩
  obtain ⟨n, hnj⟩ : ∃ x, nn j = x := ⟨_, rfl⟩
  obtain ⟨ax, hax⟩ : ∃ x, ad j = x := ⟨_, rfl⟩
  obtain ⟨cx, hcx⟩ : ∃ x, cp j = x := ⟨_, rfl⟩
  obtain ⟨xs, hxs⟩ : ∃ x, ll j = x := ⟨_, rfl⟩
  rw [hlo, hhi] at hb1
  rw [hhi] at hb2 ar0
  rw [hnj, hax, hcx] at ar1
  rw [hlo]
  rw [hnj] at hn1 hn2
  rw [hxs] at hn1
  rw [hxs, hax] at HSJ
  rw [hnj, hlo, hhi, hxs] at HNOJ
  have HEQ := Lib.hid (And.intro hlo (And.intro hhi (And.intro hnj hxs)))
  have HC1 := Lib.hid (fun W => (show Calls Try.prog 35 #[.int .i64 (lo : Int), .int .i64 (hi : Int)] W fun e w' => e = .returned (.int .i64 ((cover lo hi).length : Int)) ∧ Below W.heap.size W w' from count_any lo hi hb1 hb2 W))
  have HS1 := Lib.hid (fun a9 c9 W h => short_any xs n hn1 hn2 a9 c9 W h)
  unfold Gives at HS1
  have HNX := Lib.hid hn1
  have HL1J := Lib.hid (HL1.out j hj3)
  have HL2J := Lib.hid (HL2.out j hj3)
  rw [hlo, hhi] at HL1J
  rw [hlo, hhi, hxs] at HL2J
  have HL0J := Lib.hid (HL0.out j)
  generalize HL j = HLj at *
  clear hlo hhi hnj hax hcx hxs hn1 HN1J HL0 HL1 HL2
  replace HZS := sz HZS HNW.out
  have BL := Lib.hid (Below.refl wr.heap.size wr)
  obtain ⟨w3, hq3, hb9, hz9, Hp1⟩ := new1 wr 67 [.int .i64 (hi : Int), .slice ax n cx]
  replace Har := Lib.hid (Har.out.up hb9)
  replace BL := hbu BL hb9
  replace HB := hbu HB hb9
  replace HZS := sz HZS hz9.out
  clear hb9 hz9
  have p1_ := Hp1.out.c2
  obtain ⟨k1, hk1⟩ : ∃ k, (cover lo hi).length = k := ⟨_, rfl⟩
  rw [hk1] at HC1 HNOJ
  have HK1 := Lib.hid hk1
  clear hk1
  by_cases e1 : n = k1
  case neg =>
   have hm1 : ((n : Int) != (k1 : Int)) = true := by simp; omega
   obtain rfl : okk = false := HNOJ.out (fun h9 => e1 h9.1)
   clear e1
   go_wp2_with fail
   clear hq3 ar0 ar1
   have hl_p1 := Hp1.out.lt
   refine wp_region_over (by kernel_rfl) (by kernel_rfl) ?_
   have hov_p1 := fun (E : Over w3) o => E.cell (b := wr.heap.size) o hl_p1
   repeat (go_big_quiet_step (first | (go_at_call 35; exact calls_over (HC1.out _))))
   all_goals (try unfold elV limbV)
   repeat (go_big_quiet_step (first | (go_at_call 35; exact calls_over (HC1.out _))))
   all_goals (try unfold elV limbV)
   repeat (go_big_quiet_step (first | (go_at_call 35; exact calls_over (HC1.out _))))
   all_goals (try unfold ciphV)
   refine wpQuiet_nil ?_
   rintro _ ⟨E, rfl⟩
   clear hov_p1 hl_p1
   replace Har := Lib.hid (Har.out.up E.h)
   clear p1_
   replace Hp1 := Lib.hid (Hp1.out.up E.h)
   replace BL := hbu BL E.h
   replace HB := hbu HB E.h
   replace HZS := sz HZS E.h.size
   obtain ⟨w4, hq9⟩ : ∃ W9 : World, E.w = W9 := ⟨_, rfl⟩
   rw [hq9] at Har Hp1 BL HB HZS ⊢
   clear hq9 E
   have p1_ := Hp1.out.c2
   go_wp2_with fail
   exact leaves_marks Ds _ (fun D hD => (BL.out.block D (Array.getElem?_eq_some_iff.1 (HDS.out D hD).2).1).trans (HDS.out D hD).2) HND.out (fun D hD => Nat.le_trans (by have := HZS.out; omega) (HDS.out D hD).1) HB.out.size HB.out (fun W' hb => ⟨_, results_tmp rfl _ _ _, rfl, hb⟩)
  subst e1
  have hm1 : ((n : Int) != (n : Int)) = false := by simp
  obtain ⟨s1, hs1⟩ : ∃ s, shortB xs = s := ⟨_, rfl⟩
  rw [hs1] at HS1 HNOJ
  have HSH := Lib.hid hs1
  clear hs1
  cases s1
  case true =>
   obtain rfl : okk = false := HNOJ.out (fun h9 => by cases h9.2)
   go_wp2_with fail
   clear hq3 ar0 ar1
   have hl_p1 := Hp1.out.lt
   refine wp_region_over (by kernel_rfl) (by kernel_rfl) ?_
   have hov_p1 := fun (E : Over w3) o => E.cell (b := wr.heap.size) o hl_p1
   repeat (go_big_quiet_step (first | (go_at_call 35; exact calls_over (HC1.out _)) | (go_at_call 36; exact calls_over (HS1.out ax cx _ (HSJ.out.up (below_up HB.out (Over.h _)))))))
   all_goals (try unfold elV limbV)
   repeat (go_big_quiet_step (first | (go_at_call 35; exact calls_over (HC1.out _)) | (go_at_call 36; exact calls_over (HS1.out ax cx _ (HSJ.out.up (below_up HB.out (Over.h _)))))))
   all_goals (try unfold elV limbV)
   repeat (go_big_quiet_step (first | (go_at_call 35; exact calls_over (HC1.out _)) | (go_at_call 36; exact calls_over (HS1.out ax cx _ (HSJ.out.up (below_up HB.out (Over.h _)))))))
   all_goals (try unfold ciphV)
   refine wpQuiet_nil ?_
   rintro _ ⟨E, rfl⟩
   clear hov_p1 hl_p1
   replace Har := Lib.hid (Har.out.up E.h)
   clear p1_
   replace Hp1 := Lib.hid (Hp1.out.up E.h)
   replace BL := hbu BL E.h
   replace HB := hbu HB E.h
   replace HZS := sz HZS E.h.size
   obtain ⟨w4, hq9⟩ : ∃ W9 : World, E.w = W9 := ⟨_, rfl⟩
   rw [hq9] at Har Hp1 BL HB HZS ⊢
   clear hq9 E
   have p1_ := Hp1.out.c2
   go_wp2_with fail
   exact leaves_marks Ds _ (fun D hD => (BL.out.block D (Array.getElem?_eq_some_iff.1 (HDS.out D hD).2).1).trans (HDS.out D hD).2) HND.out (fun D hD => Nat.le_trans (by have := HZS.out; omega) (HDS.out D hD).1) HB.out.size HB.out (fun W' hb => ⟨_, results_tmp rfl _ _ _, rfl, hb⟩)
  go_wp2_with fail
  clear hq3 ar0 ar1
  have hl_p1 := Hp1.out.lt
  refine wp_region_over (by kernel_rfl) (by kernel_rfl) ?_
  have hov_p1 := fun (E : Over w3) o => E.cell (b := wr.heap.size) o hl_p1
  repeat (go_big_quiet_step (first | (go_at_call 35; exact calls_over (HC1.out _)) | (go_at_call 36; exact calls_over (HS1.out ax cx _ (HSJ.out.up (below_up HB.out (Over.h _)))))))
  all_goals (try unfold elV limbV)
  repeat (go_big_quiet_step (first | (go_at_call 35; exact calls_over (HC1.out _)) | (go_at_call 36; exact calls_over (HS1.out ax cx _ (HSJ.out.up (below_up HB.out (Over.h _)))))))
  all_goals (try unfold elV limbV)
  repeat (go_big_quiet_step (first | (go_at_call 35; exact calls_over (HC1.out _)) | (go_at_call 36; exact calls_over (HS1.out ax cx _ (HSJ.out.up (below_up HB.out (Over.h _)))))))
  all_goals (try unfold ciphV)
  refine wpQuiet_nil ?_
  rintro _ ⟨E, rfl⟩
  clear hov_p1 hl_p1
  replace Har := Lib.hid (Har.out.up E.h)
  clear p1_
  replace Hp1 := Lib.hid (Hp1.out.up E.h)
  replace BL := hbu BL E.h
  replace HB := hbu HB E.h
  replace HZS := sz HZS E.h.size
  obtain ⟨w4, hq9⟩ : ∃ W9 : World, E.w = W9 := ⟨_, rfl⟩
  rw [hq9] at Har Hp1 BL HB HZS ⊢
  clear hq9 E
  have p1_ := Hp1.out.c2
  have HOK1 := Lib.hid (show ∀ t, t < j + 1 → nn t = (cover (bd t) (bd (t + 1))).length ∧ shortB (ll t) = false from fun t ht => by
   rcases Nat.lt_or_eq_of_le (Nat.le_of_lt_succ ht) with h9 | rfl
   ·exact HOK.out t h9
   ·obtain ⟨g1, g2, g3, g4⟩ := HEQ.out
    rw [g1, g2, g3, g4]
    exact ⟨HK1.out.symm, HSH.out⟩)
  replace HL2J := Lib.hid (HL2J.out HOK1.out)
  clear HOK HNOJ HS1 HC1
  have o5_p1_ := p1_; clear p1_
  obtain ⟨w5, hq5, hb9, hz9, Hii⟩ := new1 w4 3 [.int .i64 0]
  replace Har := Lib.hid (Har.out.up hb9)
  replace Hp1 := Lib.hid (Hp1.out.up hb9)
  replace BL := hbu BL hb9
  replace HB := hbu HB hb9
  replace HZS := sz HZS hz9.out
  clear hb9 hz9
  have p1_ := Hp1.out.c2
  have ii_ := Hii.out.c1
  have f6_ii := Hii.out.frozen
  have o6_p1_ := p1_; clear p1_
  have o6_ii_ := ii_; clear ii_
  obtain ⟨w6, hq6, hg9, hz9, hx9⟩ := put1 Hii 0 (.int .i64 0) [.int .i64 0] rfl
  replace Har := Lib.hid (Har.out.grown hg9.out (sne (by have g0 := HZS.out; omega)))
  replace Hp1 := Lib.hid (Hp1.out.grown hg9.out (sne (by have g0 := HZS.out; omega)))
  replace BL := hbg BL hg9 (by have g0 := HZS.out; omega)
  replace HB := hbg HB hg9 (by have g0 := HZS.out; omega)
  replace HZS := sz HZS hz9.out
  replace Hii := hx9
  clear hx9 hg9 hz9
  have p1_ := Hp1.out.c2
  have ii_ := Hii.out.c1
  go_wp2_with fail
  clear hq6 o6_ii_ o6_p1_ f6_ii hq5 o5_p1_
  refine (blocks_any lo hi _).mono ?_
  rintro e wk ⟨rfl, hwk⟩
  obtain ⟨wl, hql, hbl9, hzl, HC, HH⟩ := new2 w6 3 [.int .i64 (lo : Int)] 3 [.int .i64 (hi : Int)]
  obtain rfl : wk = wl := hwk.trans hql
  clear hwk hql
  have hb9 := hbl9
  replace Har := Lib.hid (Har.out.up hb9)
  clear p1_
  replace Hp1 := Lib.hid (Hp1.out.up hb9)
  clear ii_
  replace Hii := Lib.hid (Hii.out.up hb9)
  replace BL := hbu BL hb9
  replace HB := hbu HB hb9
  replace HZS := sz HZS hb9.size
  clear hb9
  have p1_ := Hp1.out.c2
  have ii_ := Hii.out.c1
  go_wp2_with fail
  refine (wpIn_wide (n := 6)).1 ?_
  have HGG := Lib.hid (show MeetG w.heap.size w2.heap.size wr.heap.size wk.heap.size w.heap.size w4.heap.size wr.heap.size w1.heap.size w6.heap.size (w6.heap.size + 1) by
   have g1 := HZS.out
   have g2 := hzl.out
   have g3 := Hii.out.lt
   unfold MeetG
   omega)
  have HDSK := Lib.hid (show ∀ D ∈ Ds, D < wr.heap.size ∧ wk.heap[D]? = some (.deferred (some [])) from fun D hD => ⟨(Array.getElem?_eq_some_iff.1 (HDS.out D hD).2).1, (BL.out.block D (Array.getElem?_eq_some_iff.1 (HDS.out D hD).2).1).trans (HDS.out D hD).2⟩)
  have HHPK := Lib.hid (HHP9.out.up BL.out)
  have HROW := Lib.hid (show ∀ q, vs.ownBlock = some q ∨ vd.ownBlock = some q → q < wr.heap.size ∨ wk.heap.size ≤ q from fun q h => Or.inl (h.elim (fun e => (HHP9.out.rs.lt q e).2) (fun e => (HHP9.out.rd.lt q e).2)))
  have hgg := HGG.out
  unfold MeetG at hgg
  refine range_rounds rfl (by decide) (gf := 101) (lb := #[.pointer (some ⟨w6.heap.size, 0, none⟩), .pointer (some ⟨w6.heap.size + 1, 0, none⟩)]) rfl trivial (enters_of Try.func101 (by kernel_rfl) rfl)
   (encs := fun x => #[spanV x]) (fun _ => rfl) w6.heap.size (cover lo hi) (.int .i64 lo) (fun s v W => MeetI w.heap.size w2.heap.size wr.heap.size wk.heap.size w w.heap.size w4.heap.size wr.heap.size w1.heap.size w6.heap.size (w6.heap.size + 1) 67 [.int .i64 (hi : Int), .slice ax n cx] arC hi Ds s.length (HLj s) v W) (fun v W => Boxed W w6.heap.size 3 v ∧ Boxed W (w6.heap.size + 1) 3 (.int .i64 hi)) (fun s v W g => ⟨g.cur, g.top⟩)
   (fun s v W l o o' hl ho hc g => g.put (Nat.le_refl _) o' ho hc (by omega) (by omega)) (fun s v W o g => g.alloc (Nat.le_refl _) o) (fun s v v' W g => g.set HGG.out v')
   ?start ?round ?iter ?done
  case start =>
   exact ⟨⟨vs, vd, by rw [HL0J.out]; exact HHPK.out, HROW.out⟩, Hii.out, Hp1.out, Har.out, HC.out, HH.out, HDSK.out, HB.out, Nat.le_refl _⟩
  case iter =>
   intro l J W hRd hset hY hJ0
   have h9 := HBM.out j hj3
   obtain ⟨g1, g2, g3, g4⟩ := HEQ.out
   rw [g1, g2] at h9
   exact blocks1_in _ (by decide) l _ _ lo hi h9.1 h9.2 J hRd hset hY W hJ0
  case done =>
   intro D v W hD g hK
   have HG := Lib.hid g
   have hcp_ := g.part.c2
   have HDW := Lib.hid (show ∀ E ∈ D :: Ds, w2.heap.size ≤ E ∧ W.heap[E]? = some (.deferred (some [])) from fun E hE => by
    rcases List.mem_cons.1 hE with rfl | hE
    ·exact ⟨by omega, hK⟩
    ·exact ⟨(HDS.out E hE).1, (g.marks E hE).2⟩)
   have HND2 := Lib.hid (show (D :: Ds).Nodup from List.nodup_cons.2 ⟨fun hE => by have := (HDSK.out D hE).1; omega, HND.out⟩)
   clear g hK
   go_wp2_with fail
   refine ⟨⟨_, _, _, _, _, _, _, _, _, _, _, _, _, _, _, _, _, _, _, _, _, _, _, _, _, _, _, _, ?_, rfl⟩, ?_⟩
   ·obtain ⟨us, ud, hh7, _⟩ := HG.out.heap
    rw [HL1J.out] at hh7
    exact ⟨j + 1, D :: Ds, by omega, by rw [HEQ.out.2.1], by go_num, rfl, HOK1, Lib.hid ⟨us, ud, hh7⟩, Lib.hid HG.out.parts, HDW, HND2, Lib.hid HG.out.below, Lib.hid (Nat.le_trans (by have h9 := HGG.out; unfold MeetG at h9; omega) HG.out.sz)⟩
   ·simp [RowKit.intOf]; omega
  case round =>
   rintro l s ⟨x1, x2⟩ v W hl hpre g
   have hwl : w.heap.size ≤ l := by omega
   have hwr : wr.heap.size ≤ l := by omega
   clear hgg
   have hsl : s.length + 1 ≤ (cover lo hi).length := by have := hpre.length_le; simpa using this
   obtain ⟨⟨y1, y2⟩, hy, e9⟩ : ∃ y ∈ coverN lo hi, ((y.1 : Int), (y.2 : Int)) = (x1, x2) := by
    have h1 : (x1, x2) ∈ cover lo hi := hpre.subset (by simp)
    rw [cover_coverN] at h1
    obtain ⟨y, hy, e⟩ := List.mem_map.1 h1
    exact ⟨y, hy, e⟩
   simp only [Prod.mk.injEq] at e9
   obtain ⟨rfl, rfl⟩ := e9
   have hsx : s.length < xs.length := by rw [HNX.out, ← HK1.out]; omega
   have HSTEP := Lib.hid (HL2J.out s y1 y2 hpre hsx)
   clear hy hpre
   unfold spanV
   gi_wp2
   refine ⟨KeepsOthers.alloc _ _, fun r o' hr => ?_⟩
   have hnl : W.heap.size ≠ l := by
    intro e
    subst e
    rw [World.alloc_heap_new] at hr
    cases hr
   have g2 := (g.alloc (Nat.le_refl _) (.cells #[.int .i64 (y1 : Int), .int .i64 (y2 : Int)] 75)).put (Nat.le_refl _) (o := Obj.loop r) o' hr rfl hwl hwr
   have hx : Bx ((W.alloc (.cells #[.int .i64 (y1 : Int), .int .i64 (y2 : Int)] 75)).putObj l o') W.heap.size 75 [.int .i64 (y1 : Int), .int .i64 (y2 : Int)] :=
    (World.putObj_heap_other hnl).trans (World.alloc_heap_new W _)
   generalize (W.alloc (.cells #[.int .i64 (y1 : Int), .int .i64 (y2 : Int)] 75)).putObj l o' = W2 at *
   have HG2 := Lib.hid g2
   have hlc := g2.cnt.lt
   have hlp := g2.part.lt
   have hlx := hx.lt
   have hcc_ := g2.cnt.c1
   have hcp_ := g2.part.c2
   have hcx_ := hx.c2
   obtain ⟨bb, bo, rfl, hbb, hcb⟩ := (HSJ.out.up g2.below).at s.length (by rw [List.length_map]; exact hsx)
   rw [List.getElem_map] at hcb
   have hsn : s.length < n := by rw [← HNX.out]; exact hsx
   generalize xs[s.length] = dx at *
   clear g2 hx g hr
   refine wpIn_block ?_
   refine wpIn_seq ?_
   refine wpIn_region_treek (fun wq9 => ∃ E : Over W2, wq9 = E.w) 6 (.e 0 [] (.qs [1] (.e 2 [4, 5] (.e 3 [4, 5] (.qs [4] (.e 5 [] (.a 6 .done))))))) (by kernel_rfl) (by kernel_rfl) (by kernel_rfl) (fun ⟨_, _, h⟩ => h) (fun _ _ _ _ _ h => h) ⟨⟨_, (Below.refl _ _).drew⟩, rfl⟩ ?_
   have hov_c := fun (E : Over W2) o => E.cell (b := w4.heap.size) o hlc
   have hov_p := fun (E : Over W2) o => E.cell (b := wr.heap.size) o hlp
   have hov_x := fun (E : Over W2) o => E.cell (b := W.heap.size) o hlx
   have hov_b := fun (E : Over W2) o => E.cell (b := bb) o hbb
   simp only [TreeK.qs]
   repeat (first | (refine treek_q rfl rfl ?_; go_big_quiet_step (fail); refine wpQuiet_nil ?_) | (refine treek_e rfl rfl ?_; go_big_quiet_step (fail); refine wpQuiet_nil ?_))
   clear hov_c hov_p hov_x hov_b
   refine treek_a rfl (fun K hK => ?_)
   go_simp
   have g3 := HG2.out.up (Nat.le_refl _) (Below.refl W2.heap.size W2).drew
   obtain ⟨vs2, vd2, hh2, hr2⟩ := g3.heap
   refine (HPUT.out w2.heap.size w.heap.size 0 _ [vs2, vd2] vs2 vd2 _ _ ⟨y1, y2, dx⟩ HSTEP.out _ (by have h9 := HGG.out; unfold MeetG at h9; have h8 := g3.sz; omega) hh2).mono ?_
   rintro e w5 ⟨rfl, hp5⟩
   have HG4 := Lib.hid (g3.took HGG.out hh2 hr2 hp5 (Nat.le_refl _))
   have HK4 := Lib.hid ((KeepsOthers.drew W2).trans (heapAt_others hh2 hp5))
   clear hh2 hr2 hp5 g3 hcc_ hcp_ hcx_ hlc hlp hlx hcb
   refine hK _ _ ⟨fun h9 => absurd rfl h9, ?_⟩
   clear hK K
   refine treek_end ?_
   have hcc5 := HG4.out.cnt.c1
   have hcf5 := HG4.out.cnt.frozen 0
   have hw5 : wrap64 ((s.length : Int) + 1) = (s.length : Int) + 1 := by unfold wrap64; omega
   try simp only [Exit.inBlock]
   clear hsl hsx hsn hl hwl hwr hnl hbb p1_ ii_ hd2
   obtain ⟨zl, hzl9⟩ : ∃ z, (s.length : Int) = z := ⟨_, rfl⟩
   have HZL := Lib.hid hzl9.symm
   rw [hzl9] at hcc5 hw5
   clear hzl9
   gi_wp2
   exact ⟨HK4.out.trans (KeepsOthers.setCell _ _ _), HG4.out.count' HGG.out HZL.out (by simp)⟩
 ·have hj9 : j = 3 := by omega
  subst hj9
  obtain rfl : okk = true := HYES.out HOK.out
  have HHD1 := Lib.hid (HHD.out rfl)
  unfold Gives at HHD1
  obtain ⟨vs, vd, hh9⟩ := HHP.out
  obtain ⟨ua, uc, rfl⟩ := hh9.rd.form
  have hcd := hh9.bx.cell hh9.c1
  have HSD := Lib.hid (show Sl wr wr.heap.size ua (((Hp 3).map Pc.d).map Value.string) by have h9 := hh9.rd.sl; rw [List.map_map]; exact h9)
  have HNN9 := Lib.hid (show ua = none → uc = 0 from fun e => by
   have h9 := hh9.rd.2
   rcases h9 with ⟨e1, _⟩ | ⟨g, cap, cur, e1, _⟩
   ·simp only [Value.slice.injEq] at e1
    exact e1.2.2
   ·rw [e] at e1
    simp at e1)
  have hqq := HQQ.out
  clear hh9 HHP
  go_wp2_with fail
  refine (HHD1.out ua uc wr HNN9.out HSD.out).mono ?_
  rintro e wz ⟨rfl, hb9⟩
  have HDZ := Lib.hid (show ∀ D ∈ Ds, w2.heap.size ≤ D ∧ wz.heap[D]? = some (.deferred (some [])) from fun D hD => ⟨(HDS.out D hD).1, (hb9.block D (Array.getElem?_eq_some_iff.1 (HDS.out D hD).2).1).trans (HDS.out D hD).2⟩)
  have HBZ := Lib.hid (below_up HB.out hb9)
  clear hb9 hcd
  go_wp2_with fail
  exact leaves_marks Ds _ (fun D hD => (HDZ.out D hD).2) HND.out (fun D hD => Nat.le_trans (by have := HZS.out; omega) (HDZ.out D hD).1) HBZ.out.size HBZ.out (fun W' hb => ⟨_, results_tmp rfl _ _ _, rfl, hb⟩)
end Go.Proofs.Ytjmeakfjfpnciaa
namespace Go.Proofs.Ytjmeakfjfpnciaa
open Go.RowKit
def DownPost (w : World) (lo hi : Nat) (e : Ending) (w' : World) : Prop := ∃ v, e = .returned v ∧ MadeS w w' v (cover lo hi)
theorem MadeS.nil (w : World) : MadeS w w (.slice none 0 0) [] := ⟨World.ownsRow_nil _ _ _ _, by simp [Value.ownBlock], Below.refl _ _⟩
theorem flat_cells (gs : List (Int × Int)) : ∀ u ∈ flat gs, u.oneCell' = true := by
 intro u hu
 simp only [flat, List.mem_flatMap] at hu
 obtain ⟨g, _, hg⟩ := hu
 simp at hg
 rcases hg with rfl | rfl <;> rfl
theorem down_stop (k lo d : Nat) (h1 : 2 ^ k ≤ d) (h2 : lo % 2 ^ k = 0) : down k lo d = 2 ^ k := by
 cases k with
 | zero => rfl
 | succ k => rw [down, if_pos ⟨h1, h2⟩]
theorem down_more (k m lo d : Nat) (hd : 0 < d) (hm : m = 2 ^ k) (hs : ¬ (m ≤ d ∧ lo % m = 0)) : ∃ k', k = k' + 1 ∧ m / 2 = 2 ^ k' ∧ down k lo d = down k' lo d := by
 cases k with
 | zero =>
  exfalso
  apply hs
  subst hm
  simp [Nat.mod_one]
  omega
 | succ k =>
  refine ⟨k, rfl, by rw [hm, Nat.pow_succ]; omega, ?_⟩
  rw [down, if_neg (by rw [← hm]; exact hs)]
theorem Parts_any : ∀ (N lo hi : Nat) (w : World), hi - lo ≤ N → lo ≤ hi → hi ≤ 1048576 → Calls Try.prog 48 #[.int .i64 lo, .int .i64 hi] w (DownPost w lo hi) := by
 intro N
 induction N with
 | zero =>
  intro lo hi w h1 h2 h3
  obtain rfl : lo = hi := by omega
  go_enter Try.func48, Try.ntmps48
  go_wp2
  go_ret
  exact ⟨_, rfl, by rw [cover_none _ _ (Nat.le_refl _)]; exact MadeS.nil w⟩
 | succ N ih =>
  intro lo hi w h1 h2 h3
  by_cases he : lo = hi
  ·subst he
   go_enter Try.func48, Try.ntmps48
   go_wp2
   go_ret
   exact ⟨_, rfl, by rw [cover_none _ _ (Nat.le_refl _)]; exact MadeS.nil w⟩
  ·have hlt : lo < hi := by omega
   have HIH := Lib.hid ih
   clear ih
   have hne : ((lo : Int) == (hi : Int)) = false := by simp; omega
   go_enter Try.func48, Try.ntmps48
   go_wp2
   go_loopw [5] (fun v wr => ∃ k m : Nat, k ≤ 20 ∧ v = .int .i64 m ∧ Hid (m = 2 ^ k) ∧ Hid (down 20 lo (hi - lo) = down k lo (hi - lo)) ∧ wr = w) (fun v _ => (intOf v).toNat)
   case atStart => exact ⟨20, 1048576, Nat.le_refl _, rfl, rfl, rfl, rfl⟩
   case round =>
    obtain ⟨k, m, hk, rfl, HM, HD, rfl⟩ := hrel
    have hm1 : 1 ≤ m := by rw [HM.out]; exact Nat.one_le_two_pow
    have hm2 : m ≤ 1048576 := by rw [HM.out]; exact Nat.le_trans (Nat.pow_le_pow_right (by omega) hk) (Nat.le_refl (2 ^ 20))
    have hm0 : ¬ m = 0 := by omega
    by_cases hs : m ≤ hi - lo ∧ lo % m = 0
    ·have hmr : ((lo : Int) % (m : Int) != 0) = false := by
      have h : ((lo : Int) % (m : Int)) = ((lo % m : Nat) : Int) := by simp
      rw [h, hs.2]; rfl
     have hgt : decide ((hi : Int) - (lo : Int) < (m : Int)) = false := by simp; omega
     have hdm : down 20 lo (hi - lo) = m := by rw [HD.out, HM.out]; exact down_stop k lo (hi - lo) (by rw [← HM.out]; exact hs.1) (by rw [← HM.out]; exact hs.2)
     have HDM := Lib.hid hdm
     have hle : lo + m ≤ hi := by omega
     clear hdm hs
     go_wp2_with fail
     have hih := HIH.out (lo + m) hi (wr.alloc (.cells #[.int .i64 lo, .int .i64 ((lo : Int) + (m : Int))] 75)) (by omega) (by omega) h3
     rw [Int.natCast_add] at hih
     refine hih.mono ?_
     rintro e w3 ⟨v, rfl, hmade⟩
     have hlit : (wr.alloc (.cells #[.int .i64 (lo : Int), .int .i64 ((lo : Int) + (m : Int))] 75)).ownsRow 0 75 2 (.slice (some ⟨wr.heap.size, 0, none⟩) 1 1) 1 (flat [((lo : Int), (lo : Int) + (m : Int))]) :=
      ⟨rfl, Or.inr ⟨wr.heap.size, 1, #[.int .i64 (lo : Int), .int .i64 ((lo : Int) + (m : Int))], rfl, Nat.zero_le _, World.alloc_heap_new _ _, Nat.le_refl _, by unfold maxLen; omega, rfl, rfl⟩⟩
     have hlit3 := hlit.kept (below_grown hmade.below) (Classical.em _)
     have hbl : Below wr.heap.size wr w3 := ((Below.refl _ wr).alloc (Nat.le_refl _) _).trans (hmade.below.mono (by simp))
     have HL := Lib.hid hlit3
     have HMD := Lib.hid hmade
     have HBL := Lib.hid hbl
     clear hlit hlit3 hmade hbl hih
     have hcs := cover_some lo hi (by omega)
     rw [HDM.out] at hcs
     have HCS := Lib.hid hcs
     have hlen := cover_length (lo + m) hi
     clear hcs
     obtain ⟨ig, hig, gz0, gz1, gz2⟩ := info_parts infoSpan
     generalize hG : cover (lo + m) hi = G at *
     clear hG
     go_wp2_with (at_builtin; refine wpList_join w3 rfl _ _ 64 rfl 75 ig _ 2 16 Try.underlying64 hig gz0 gz1 gz2 rfl (by omega) (.slice (some ⟨wr.heap.size, 0, none⟩) 1 1) 1 (flat [((lo : Int), (lo : Int) + (m : Int))]) rfl HL.out v G.length (flat G) rfl HMD.out.own (flat_cells _) (by omega) (by unfold maxLen; omega) ?_)
     intro v' w4 hown hp
     have fin : DownPost wr lo hi (.returned v') w4 := by
      have hz := HBL.out.size
      have e1 : cover lo hi = [((lo : Int), (lo : Int) + (m : Int))] ++ G := by rw [HCS.out, Int.natCast_add]; rfl
      refine ⟨v', rfl, ?_, ?_, ?_⟩
      ·rw [e1, flat_append, List.length_append]; exact hown
      ·intro q hq
       rcases hp.here q hq with h | h
       ·simp [Value.ownBlock] at h; omega
       ·omega
      ·exact hp.below HBL.out hz (fun q hq => by simp [Value.ownBlock] at hq; omega)
     have FIN := Lib.hid fin
     clear fin hown hp
     go_wp2_with fail
     go_ret
     exact FIN.out
    ·have hgo := down_more k m lo (hi - lo) (by omega) HM.out hs
     obtain ⟨k', rfl, hm', hd'⟩ := hgo
     have HM' := Lib.hid hm'
     have HD' := Lib.hid hd'
     clear hm' hd'
     by_cases ha : m ≤ hi - lo
     ·have hb : ¬ lo % m = 0 := fun e => hs ⟨ha, e⟩
      have hmr : ((lo : Int) % (m : Int) != 0) = true := by
       have h : ((lo : Int) % (m : Int)) = ((lo % m : Nat) : Int) := by simp
       rw [h]; simp; omega
      have hgt : decide ((hi : Int) - (lo : Int) < (m : Int)) = false := by simp; omega
      clear hs hb
      go_wp2_with fail
      go_roundw
      case rel => exact ⟨k', m / 2, by omega, by go_num, HM'.out, by show _ = _; rw [HD.out, HD'.out], trivial⟩
      case measure => simp [intOf]; omega
     ·have hgt : decide ((hi : Int) - (lo : Int) < (m : Int)) = true := by simp; omega
      clear hs
      go_wp2_with fail
      go_roundw
      case rel => exact ⟨k', m / 2, by omega, by go_num, HM'.out, by show _ = _; rw [HD.out, HD'.out], trivial⟩
      case measure => simp [intOf]; omega
end Go.Proofs.Ytjmeakfjfpnciaa
namespace Go.Proofs.Ytjmeakfjfpnciaa
open Go.RowKit
theorem rtag_calls (label : ByteArray) (hl : label.size < 140737488355328) : TagCalls 106 label (tagS label) := fun ps h3 hz a c w hX => rTag_any label ps ps.length rfl (join_small label ps 0 h3 hz hl) a c w hX
theorem rBoth_gen (T : List ByteArray → ByteArray) (hT : TagCalls 106 blockB T) (x y : ByteArray) (hx : x.size < 140737488355328) (hy : y.size < 140737488355328) (w : World) :
  Calls Try.prog 105 #[.string x, .string y] w (Gives (.string (T [x, y])) w) := by
 have HT := Lib.hid (hT [x, y] (by simp) (by simp [hx, hy]))
 obtain ⟨v, hv⟩ : ∃ v, T [x, y] = v := ⟨_, rfl⟩
 rw [hv] at HT ⊢
 clear hT hx hy hv
 unfold Gives
 go_enter Try.func105, Try.ntmps105
 go_upto_region 1 with fail
 obtain ⟨w1, hq1, hb9, hz9, Hr⟩ := new1 w 9 [.string x, .string y]
 have HB := Lib.hid hb9
 have HZS := hz9
 clear hb9 hz9
 have r_ := Hr.out.c2
 go_wp2_with fail
 clear hq1
 refine (HT.out _ _ _ (Sl.ofB Hr.out)).mono ?_
 rintro e w2 ⟨rfl, hb9⟩
 clear r_
 replace Hr := Lib.hid (Hr.out.up hb9)
 replace HB := hbu HB hb9
 replace HZS := sz HZS hb9.size
 clear hb9
 have r_ := Hr.out.c2
 go_wp2_with fail
 go_ret
 exact ⟨rfl, HB.out⟩
theorem rBoth_any (x y : ByteArray) (hx : x.size < 140737488355328) (hy : y.size < 140737488355328) (w : World) : Calls Try.prog 105 #[.string x, .string y] w (Gives (.string (bothS x y)) w) :=
 rBoth_gen (tagS blockB) (rtag_calls blockB (by decide)) x y hx hy w
theorem right7_any (lo hi size : Int) (w : World) : Calls Try.prog 49 #[.int .i64 lo, .int .i64 hi, .int .i64 size] w fun e w' => e = .returned (.bool (decide (0 ≤ lo ∧ lo ≤ hi ∧ hi ≤ size))) ∧ w' = w := by
 by_cases h1 : 0 ≤ lo <;> by_cases h2 : lo ≤ hi <;> by_cases h3 : hi ≤ size <;>
  (go_enter Try.func49, Try.ntmps49
   go_wp2
   go_ret
   exact ⟨ret_bool (by simp [h1, h2, h3]), rfl⟩)
theorem wide_any (l : List ByteArray) (n : Nat) (hn : l.length = n) (hl : n ≤ 1152921504606846976) (a : Option Addr) (c : Nat) (w : World) (hX : Sl w w.heap.size a (l.map Value.string)) :
  Calls Try.prog 104 #[.slice a n c] w (Gives (.bool (!shortB l)) w) := by
 have HX := Lib.hid hX
 have HN := Lib.hid hn
 clear hX hn
 unfold Gives
 go_enter Try.func104, Try.ntmps104
 go_wp2_with fail
 go_loopw [7] (fun i wr => ∃ j : Nat, j ≤ n ∧ i = .int .i64 j ∧ Hid (Below w.heap.size w wr) ∧ Hid ((l.take j).any (fun x => decide (x.size ≠ 32)) = false)) (fun i _ => n - (intOf i).toNat)
 case atStart => exact ⟨0, Nat.zero_le _, rfl, Below.refl _ _, rfl⟩
 case round =>
  obtain ⟨j, hj, rfl, HB, HAL⟩ := hrel
  by_cases hjn : j < n
  ·have hjl : j < l.length := by rw [HN.out]; exact hjn
   obtain ⟨bl, ol, rfl, hbl, hc⟩ := (HX.out.up HB.out).at j (by rw [List.length_map]; exact hjl)
   rw [List.getElem_map] at hc
   by_cases h32 : l[j].size = 32
   ·have hd : ((l[j].size : Int) != 32) = false := by simp; omega
    have HBJ := Lib.hid (show decide (l[j].size ≠ 32) = false by simp [h32])
    clear h32
    go_wp2_with fail
    go_roundw
    case rel => exact ⟨j + 1, hjn, by go_num, HB, any_snoc7 hjl HAL.out HBJ.out⟩
    case measure => simp [intOf]; omega
   ·have hd : ((l[j].size : Int) != 32) = true := by simp; omega
    have HBJ := Lib.hid (show decide (l[j].size ≠ 32) = true by simp [h32])
    clear h32
    go_wp2_with fail
    go_ret
    exact ⟨by unfold shortB; rw [any_here7 hjl HBJ.out]; rfl, HB.out⟩
  ·have hjn : j = n := by omega
   subst hjn
   go_wp2_with fail
   go_ret
   rw [List.take_of_length_le (by rw [HN.out]; exact Nat.le_refl _)] at HAL
   exact ⟨by unfold shortB; rw [HAL.out]; rfl, HB.out⟩
end Go.Proofs.Ytjmeakfjfpnciaa
namespace Go.Proofs.Ytjmeakfjfpnciaa
open Go.RowKit
def pc3 (p : Pc) : List Value := [.int .i64 (p.lo : Int), .int .i64 (p.hi : Int), .string p.d]
theorem pc3_len (p : Pc) : (pc3 p).length = 3 := rfl
theorem pair_any (l : List Pc) (n : Nat) (hn : l.length = n) (hnl : n ≤ 4194304) (hok : ∀ p ∈ l, p.lo < p.hi ∧ p.hi ≤ 1048576) (al : Option Addr) (cl : Nat) (w : World) (hS : Sl w w.heap.size al (l.flatMap pc3)) :
  Calls Try.prog 50 #[.slice al n cl] w fun e w' => (∃ r : Int, e = .returned (.int .i64 r) ∧ PairR l r) ∧ Below w.heap.size w w' := by
 have HN := Lib.hid hn
 have HOK := Lib.hid hok
 have HS := Lib.hid hS
 clear hn hok hS
 go_enter Try.func50, Try.ntmps50
 go_wp2_with fail
 go_loopw [3] (fun i wr => ∃ j : Nat, j ≤ n ∧ i = .int .i64 (j : Int) ∧ Hid (∀ t, t < j → ∀ h : t + 1 < l.length, halves l[t] l[t + 1] = false) ∧ Hid (Below w.heap.size w wr)) (fun i _ => n - (intOf i).toNat)
 case atStart => exact ⟨0, Nat.zero_le _, rfl, (fun t h => absurd h (Nat.not_lt_zero _)), Below.refl _ _⟩
 case round =>
  obtain ⟨j, hj, rfl, HNO, HB⟩ := hrel
  have HZB := Lib.hid HB.out.size
  have HZS := HZB
  by_cases hjn : j + 1 < n
  ·have hj0 : j < l.length := by rw [HN.out]; omega
   have hj1 : j + 1 < l.length := by rw [HN.out]; omega
   obtain ⟨bl, ol, rfl, hbl, hc⟩ := (HS.out.up HB.out).elem pc3_len (by omega) j hj0
   have hc_0 := hc 0 _ rfl
   rw [Nat.add_zero] at hc_0
   have hc_1 := hc 1 _ rfl
   clear hc
   obtain ⟨b2, o2, hae, _, hd⟩ := (HS.out.up HB.out).elem pc3_len (by omega) (j + 1) hj1
   cases hae
   have hd_0 := hd 0 _ rfl
   rw [Nat.add_zero] at hd_0
   have hd_1 := hd 1 _ rfl
   clear hd
   have HOA := Lib.hid (HOK.out _ (List.getElem_mem hj0))
   have HOB := Lib.hid (HOK.out _ (List.getElem_mem hj1))
   have HNX := Lib.hid (fun (h : halves l[j] l[j + 1] = false) t (ht : t < j + 1) (h9 : t + 1 < l.length) => (show halves l[t] l[t + 1] = false from by
    by_cases e : t < j
    ·exact HNO.out t e h9
    ·obtain rfl : t = j := by omega
     exact h))
   have HYS := Lib.hid (fun (h : halves l[j] l[j + 1] = true) => (show PairR l (j : Int) from Or.inr ⟨j, rfl, hj1, h, fun t ht => HNO.out t ht (by omega)⟩))
   generalize l[j] = a at *
   generalize l[j + 1] = b at *
   have ha := HOA.out
   have hb := HOB.out
   have hsa : (a.hi : Int) - (a.lo : Int) = ((a.hi - a.lo : Nat) : Int) := by omega
   have hsb : (b.hi : Int) - (b.lo : Int) = ((b.hi - b.lo : Nat) : Int) := by omega
   have hdj : decide ((j : Int) + 1 < (n : Int)) = true := decide_eq_true (by omega)
   go_wp2_with fail
   go_cut [4, 5] from 14 to 25 (fun v9 u9 wq9 => ∃ (b8 b9 : Nat), v9 = .pointer (some ⟨b8, 0, none⟩) ∧ u9 = .pointer (some ⟨b9, 0, none⟩) ∧ Hid (Bx wq9 b8 75 [.int .i64 (a.lo : Int), .int .i64 (a.hi : Int)]) ∧ Hid (Bx wq9 b9 75 [.int .i64 (b.lo : Int), .int .i64 (b.hi : Int)]) ∧ Hid (Below wr.heap.size wr wq9))
   case first =>
    have HT := Lib.hid (show Below wr.heap.size wr wr.drew from (Below.refl _ _).drew)
    refine wp_region_tree (fun wq9 => ∃ E : Over wr, wq9 = E.w) ((.qs [0, 1, 2, 3, 4, 5, 6, 7, 8, 9, 10] (.two 11 (.a 12 (.a 13 (.a 14 .done))) 12 (.a 11 (.a 13 (.a 14 .done)))))) (by kernel_rfl) (by kernel_rfl) (fun _ _ d _ _ h => by cases d <;> exact h) ⟨⟨_, HT.out⟩, rfl⟩ ?_
    have hov_bl := fun (E : Over wr) o => E.cell (b := bl) o hbl
    obtain ⟨wd, hwd⟩ : ∃ W9 : World, wr.drew = W9 := ⟨_, rfl⟩
    rw [hwd] at HT ⊢
    clear hwd
    simp only [Tree.qs]
    repeat (refine tree_q rfl rfl ?_; go_big_quiet_step (fail); refine wpQuiet_nil ?_)
    refine tree_two rfl rfl ?ta1 ?ta2
    case ta1 =>
     intro K hK
     go_simp
     have hb9 : Below wd.heap.size wd (wd.alloc (Obj.cells #[.int .i64 0, .int .i64 0] 75)) := (Below.refl _ _).alloc (Nat.le_refl _) _
     have hx9 : Bx (wd.alloc (Obj.cells #[.int .i64 0, .int .i64 0] 75)) wd.heap.size 75 [.int .i64 0, .int .i64 0] := Bx.new _ _ _ _ rfl
     obtain ⟨wz3, hq9⟩ : ∃ W9 : World, (wd.alloc (Obj.cells #[.int .i64 0, .int .i64 0] 75)) = W9 := ⟨_, rfl⟩
     rw [hq9] at hb9 hx9
     try rw [hq9]
     clear hq9
     have HAra := Lib.hid HT.out.size
     replace HT := Lib.hid (below_up HT.out hb9)
     have Hra := Lib.hid hx9
     clear hb9 hx9
     refine hK _ _ ⟨⟨⟨wz3, HT.out⟩, rfl⟩, ?_⟩
     clear hK K
     refine tree_a rfl (fun K hK => ?_)
     have HN_ra_rb := Lib.hid (show wd.heap.size ≠ wz3.heap.size from Nat.ne_of_lt Hra.out.lt)
     go_simp
     have hb9 : Below wz3.heap.size wz3 (wz3.alloc (Obj.cells #[.int .i64 0, .int .i64 0] 75)) := (Below.refl _ _).alloc (Nat.le_refl _) _
     have hx9 : Bx (wz3.alloc (Obj.cells #[.int .i64 0, .int .i64 0] 75)) wz3.heap.size 75 [.int .i64 0, .int .i64 0] := Bx.new _ _ _ _ rfl
     obtain ⟨wz4, hq9⟩ : ∃ W9 : World, (wz3.alloc (Obj.cells #[.int .i64 0, .int .i64 0] 75)) = W9 := ⟨_, rfl⟩
     rw [hq9] at hb9 hx9
     try rw [hq9]
     clear hq9
     replace Hra := Lib.hid (Hra.out.up hb9)
     have HArb := Lib.hid HT.out.size
     replace HT := Lib.hid (below_up HT.out hb9)
     have Hrb := Lib.hid hx9
     clear hb9 hx9
     refine hK _ _ ⟨⟨⟨wz4, HT.out⟩, rfl⟩, ?_⟩
     clear hK K
     refine tree_a rfl (fun K hK => ?_)
     have fz_0 := Hra.out.frozen 0
     have cz_0 := Hra.out.cell (i := 0) rfl
     have fz_1 := Hra.out.frozen 1
     have cz_1 := Hra.out.cell (i := 1) rfl
     go_simp
     have hx9 := ((Hra.out.set 0 (.int .i64 (a.lo : Int))).set 1 (.int .i64 (a.hi : Int)))
     have hb9 : Below wr.heap.size wr ((wz4.setCell ⟨wd.heap.size, 0, none⟩ (.int .i64 (a.lo : Int))).setCell ⟨wd.heap.size, 1, none⟩ (.int .i64 (a.hi : Int))) := ((HT.out.setCell (show wr.heap.size ≤ wd.heap.size from HAra.out) _).setCell (show wr.heap.size ≤ wd.heap.size from HAra.out) _)
     have hy_rb := ((Hrb.out.other HN_ra_rb.out.symm 0 (.int .i64 (a.lo : Int))).other HN_ra_rb.out.symm 1 (.int .i64 (a.hi : Int)))
     clear Hra Hrb HT fz_0 cz_0 fz_1 cz_1
     obtain ⟨wz5, hq9⟩ : ∃ W9 : World, ((wz4.setCell ⟨wd.heap.size, 0, none⟩ (.int .i64 (a.lo : Int))).setCell ⟨wd.heap.size, 1, none⟩ (.int .i64 (a.hi : Int))) = W9 := ⟨_, rfl⟩
     rw [hq9] at hx9 hb9 hy_rb
     try rw [hq9]
     clear hq9
     have HT := Lib.hid hb9
     have Hra := Lib.hid hx9
     clear hb9 hx9
     have Hrb := Lib.hid hy_rb
     clear hy_rb
     refine hK _ _ ⟨⟨⟨wz5, HT.out⟩, rfl⟩, ?_⟩
     clear hK K
     refine tree_a rfl (fun K hK => ?_)
     have fz_0 := Hrb.out.frozen 0
     have cz_0 := Hrb.out.cell (i := 0) rfl
     have fz_1 := Hrb.out.frozen 1
     have cz_1 := Hrb.out.cell (i := 1) rfl
     go_simp
     have hx9 := ((Hrb.out.set 0 (.int .i64 (b.lo : Int))).set 1 (.int .i64 (b.hi : Int)))
     have hb9 : Below wr.heap.size wr ((wz5.setCell ⟨wz3.heap.size, 0, none⟩ (.int .i64 (b.lo : Int))).setCell ⟨wz3.heap.size, 1, none⟩ (.int .i64 (b.hi : Int))) := ((HT.out.setCell (show wr.heap.size ≤ wz3.heap.size from HArb.out) _).setCell (show wr.heap.size ≤ wz3.heap.size from HArb.out) _)
     have hy_ra := ((Hra.out.other HN_ra_rb.out 0 (.int .i64 (b.lo : Int))).other HN_ra_rb.out 1 (.int .i64 (b.hi : Int)))
     clear Hra Hrb HT fz_0 cz_0 fz_1 cz_1
     obtain ⟨wz6, hq9⟩ : ∃ W9 : World, ((wz5.setCell ⟨wz3.heap.size, 0, none⟩ (.int .i64 (b.lo : Int))).setCell ⟨wz3.heap.size, 1, none⟩ (.int .i64 (b.hi : Int))) = W9 := ⟨_, rfl⟩
     rw [hq9] at hx9 hb9 hy_ra
     try rw [hq9]
     clear hq9
     have HT := Lib.hid hb9
     have Hrb := Lib.hid hx9
     clear hb9 hx9
     have Hra := Lib.hid hy_ra
     clear hy_ra
     refine hK _ _ ⟨⟨⟨wz6, HT.out⟩, rfl⟩, ?_⟩
     clear hK K
     repeat (refine tree_q rfl rfl ?_; go_big_quiet_step (fail); refine wpQuiet_nil ?_)
     refine tree_end ?_
     go_wp2_with fail
     go_meet
     case rel => exact ⟨_, _, rfl, rfl, Hra, Hrb, HT⟩
    case ta2 =>
     intro K hK
     go_simp
     have hb9 : Below wd.heap.size wd (wd.alloc (Obj.cells #[.int .i64 0, .int .i64 0] 75)) := (Below.refl _ _).alloc (Nat.le_refl _) _
     have hx9 : Bx (wd.alloc (Obj.cells #[.int .i64 0, .int .i64 0] 75)) wd.heap.size 75 [.int .i64 0, .int .i64 0] := Bx.new _ _ _ _ rfl
     obtain ⟨wz7, hq9⟩ : ∃ W9 : World, (wd.alloc (Obj.cells #[.int .i64 0, .int .i64 0] 75)) = W9 := ⟨_, rfl⟩
     rw [hq9] at hb9 hx9
     try rw [hq9]
     clear hq9
     have HArb := Lib.hid HT.out.size
     replace HT := Lib.hid (below_up HT.out hb9)
     have Hrb := Lib.hid hx9
     clear hb9 hx9
     refine hK _ _ ⟨⟨⟨wz7, HT.out⟩, rfl⟩, ?_⟩
     clear hK K
     refine tree_a rfl (fun K hK => ?_)
     have HN_rb_ra := Lib.hid (show wd.heap.size ≠ wz7.heap.size from Nat.ne_of_lt Hrb.out.lt)
     go_simp
     have hb9 : Below wz7.heap.size wz7 (wz7.alloc (Obj.cells #[.int .i64 0, .int .i64 0] 75)) := (Below.refl _ _).alloc (Nat.le_refl _) _
     have hx9 : Bx (wz7.alloc (Obj.cells #[.int .i64 0, .int .i64 0] 75)) wz7.heap.size 75 [.int .i64 0, .int .i64 0] := Bx.new _ _ _ _ rfl
     obtain ⟨wz8, hq9⟩ : ∃ W9 : World, (wz7.alloc (Obj.cells #[.int .i64 0, .int .i64 0] 75)) = W9 := ⟨_, rfl⟩
     rw [hq9] at hb9 hx9
     try rw [hq9]
     clear hq9
     replace Hrb := Lib.hid (Hrb.out.up hb9)
     have HAra := Lib.hid HT.out.size
     replace HT := Lib.hid (below_up HT.out hb9)
     have Hra := Lib.hid hx9
     clear hb9 hx9
     refine hK _ _ ⟨⟨⟨wz8, HT.out⟩, rfl⟩, ?_⟩
     clear hK K
     refine tree_a rfl (fun K hK => ?_)
     have fz_0 := Hra.out.frozen 0
     have cz_0 := Hra.out.cell (i := 0) rfl
     have fz_1 := Hra.out.frozen 1
     have cz_1 := Hra.out.cell (i := 1) rfl
     go_simp
     have hx9 := ((Hra.out.set 0 (.int .i64 (a.lo : Int))).set 1 (.int .i64 (a.hi : Int)))
     have hb9 : Below wr.heap.size wr ((wz8.setCell ⟨wz7.heap.size, 0, none⟩ (.int .i64 (a.lo : Int))).setCell ⟨wz7.heap.size, 1, none⟩ (.int .i64 (a.hi : Int))) := ((HT.out.setCell (show wr.heap.size ≤ wz7.heap.size from HAra.out) _).setCell (show wr.heap.size ≤ wz7.heap.size from HAra.out) _)
     have hy_rb := ((Hrb.out.other HN_rb_ra.out 0 (.int .i64 (a.lo : Int))).other HN_rb_ra.out 1 (.int .i64 (a.hi : Int)))
     clear Hrb Hra HT fz_0 cz_0 fz_1 cz_1
     obtain ⟨wz9, hq9⟩ : ∃ W9 : World, ((wz8.setCell ⟨wz7.heap.size, 0, none⟩ (.int .i64 (a.lo : Int))).setCell ⟨wz7.heap.size, 1, none⟩ (.int .i64 (a.hi : Int))) = W9 := ⟨_, rfl⟩
     rw [hq9] at hx9 hb9 hy_rb
     try rw [hq9]
     clear hq9
     have HT := Lib.hid hb9
     have Hra := Lib.hid hx9
     clear hb9 hx9
     have Hrb := Lib.hid hy_rb
     clear hy_rb
     refine hK _ _ ⟨⟨⟨wz9, HT.out⟩, rfl⟩, ?_⟩
     clear hK K
     refine tree_a rfl (fun K hK => ?_)
     have fz_0 := Hrb.out.frozen 0
     have cz_0 := Hrb.out.cell (i := 0) rfl
     have fz_1 := Hrb.out.frozen 1
     have cz_1 := Hrb.out.cell (i := 1) rfl
     go_simp
     have hx9 := ((Hrb.out.set 0 (.int .i64 (b.lo : Int))).set 1 (.int .i64 (b.hi : Int)))
     have hb9 : Below wr.heap.size wr ((wz9.setCell ⟨wd.heap.size, 0, none⟩ (.int .i64 (b.lo : Int))).setCell ⟨wd.heap.size, 1, none⟩ (.int .i64 (b.hi : Int))) := ((HT.out.setCell (show wr.heap.size ≤ wd.heap.size from HArb.out) _).setCell (show wr.heap.size ≤ wd.heap.size from HArb.out) _)
     have hy_ra := ((Hra.out.other HN_rb_ra.out.symm 0 (.int .i64 (b.lo : Int))).other HN_rb_ra.out.symm 1 (.int .i64 (b.hi : Int)))
     clear Hra Hrb HT fz_0 cz_0 fz_1 cz_1
     obtain ⟨wz10, hq9⟩ : ∃ W9 : World, ((wz9.setCell ⟨wd.heap.size, 0, none⟩ (.int .i64 (b.lo : Int))).setCell ⟨wd.heap.size, 1, none⟩ (.int .i64 (b.hi : Int))) = W9 := ⟨_, rfl⟩
     rw [hq9] at hx9 hb9 hy_ra
     try rw [hq9]
     clear hq9
     have HT := Lib.hid hb9
     have Hrb := Lib.hid hx9
     clear hb9 hx9
     have Hra := Lib.hid hy_ra
     clear hy_ra
     refine hK _ _ ⟨⟨⟨wz10, HT.out⟩, rfl⟩, ?_⟩
     clear hK K
     repeat (refine tree_q rfl rfl ?_; go_big_quiet_step (fail); refine wpQuiet_nil ?_)
     refine tree_end ?_
     go_wp2_with fail
     go_meet
     case rel => exact ⟨_, _, rfl, rfl, Hra, Hrb, HT⟩
   case rest =>
    obtain ⟨b8, b9, rfl, rfl, Hra, Hrb, hb9⟩ := hcut
    replace hb9 := hb9.out
    replace HB := hbu HB hb9
    replace HZS := sz HZS hb9.size
    clear hb9 hc_0 hc_1 hd_0 hd_1 hbl
    have ra_ := Hra.out.c2
    have rb_ := Hrb.out.c2
    clear hsa hsb
    obtain ⟨y, hy⟩ : ∃ y, a.hi - a.lo = y := ⟨_, rfl⟩
    obtain ⟨z, hz⟩ : ∃ z, b.hi - b.lo = z := ⟨_, rfl⟩
    have hwy : wrap64 ((a.hi : Int) - (a.lo : Int)) = (y : Int) := by unfold wrap64; omega
    have hwz : wrap64 ((b.hi : Int) - (b.lo : Int)) = (z : Int) := by unfold wrap64; omega
    have hw2 : wrap64 (2 * (y : Int)) = ((2 * y : Nat) : Int) := by unfold wrap64; omega
    have hy0 : ¬ (((2 * y : Nat) : Int) = 0) := by omega
    have HYZ := Lib.hid (show halves a b = (decide (z = y) && decide (a.lo % (2 * z) = 0)) by unfold halves; rw [hy, hz])
    clear hy hz ha hb
    by_cases hyz : z = y
    ·subst hyz
     generalize 2 * z = zz at *
     have hb1 : ((z : Int) == (z : Int)) = true := by simp
     by_cases hrm : a.lo % zz = 0
     ·have hb2 : (((a.lo : Int) % (zz : Int)) == 0) = true := by
       have : ((a.lo : Int) % (zz : Int)) = ((a.lo % zz : Nat) : Int) := rfl
       rw [this, hrm]; rfl
      have HHV := Lib.hid (show halves a b = true by rw [HYZ.out, decide_eq_true hrm]; simp)
      clear hrm HYZ
      go_wp2_with fail
      go_ret
      exact ⟨⟨(j : Int), rfl, HYS.out HHV.out⟩, HB.out⟩
     ·have hb2 : (((a.lo : Int) % (zz : Int)) == 0) = false := by
       have : ((a.lo : Int) % (zz : Int)) = ((a.lo % zz : Nat) : Int) := rfl
       rw [this]; simp; omega
      have HHV := Lib.hid (show halves a b = false by rw [HYZ.out, decide_eq_false hrm]; simp)
      clear hrm HYZ
      go_wp2_with fail
      go_roundw
      case rel => exact ⟨j + 1, by omega, by go_num, HNX.out HHV.out, HB⟩
      case measure => simp [intOf]; omega
    ·have hb1 : ((z : Int) == (y : Int)) = false := by simp; omega
     have HHV := Lib.hid (show halves a b = false by rw [HYZ.out, decide_eq_false hyz]; rfl)
     clear hyz HYZ
     go_wp2_with fail
     go_roundw
     case rel => exact ⟨j + 1, by omega, by go_num, HNX.out HHV.out, HB⟩
     case measure => simp [intOf]; omega
  ·have hdj : decide ((j : Int) + 1 < (n : Int)) = false := decide_eq_false (by omega)
   go_wp2_with fail
   go_ret
   exact ⟨⟨-1, rfl, Or.inl ⟨rfl, fun t h => HNO.out t (by rw [HN.out] at h; omega) h⟩⟩, HB.out⟩
end Go.Proofs.Ytjmeakfjfpnciaa
namespace Go.Proofs.Ytjmeakfjfpnciaa
open Go.RowKit
theorem rHead_any (n : Int) (ds : List ByteArray) (m : Nat) (hm : ds.length = m) (hm2 : m ≤ 1152921504606846976) (a : Option Addr) (c : Nat) (hac : a = none → c = 0) (w : World) (hX : Sl w w.heap.size a (ds.map Value.string)) :
  Calls Try.prog 41 #[.int .i64 n, .slice a m c] w (Gives (.tuple #[.string (headR n ds).1, .int .i64 (headR n ds).2]) w) := by
 unfold Gives
 by_cases h0 : 0 ≤ n
 ·obtain ⟨k, rfl⟩ : ∃ k : Nat, n = k := ⟨n.toNat, by omega⟩
  by_cases hk : k ≤ 1048576
  ·have HP := Lib.hid (fun w => Parts_any k 0 k w (by omega) (Nat.zero_le _) hk)
   have HS := Lib.hid (fun w h => wide_any ds m hm hm2 a c w h)
   have HF := Lib.hid (fun w => Four_any k (by omega) w)
   have HT := Lib.hid (fun (h1 : m ≤ 1048576) (h2 : shortB ds = false) a c w hX => rTag_any headB (fourS k :: ds) (1 + m) (by simp; omega) (join_many headB (fourS k :: ds) (by intro p hp; rcases List.mem_cons.1 hp with rfl | hp; exact (by rw [fourS_size]; decide); exact short_sizes h2 p hp) (by simp; omega) (by decide)) a c w hX)
   have HR := Lib.hid (show headR (k : Int) ds = if m = (cover 0 k).length ∧ shortB ds = false then (tagS headB (fourS k :: ds), 0) else (⟨#[]⟩, 2) by unfold headR; rw [if_pos (by omega), hm]; rfl)
   have HCL := Lib.hid (cover_length 0 k)
   have HM := Lib.hid hm
   have HX := Lib.hid hX
   generalize headR (k : Int) ds = hr at *
   generalize tagS headB (fourS k :: ds) = hs at *
   generalize fourS k = f4 at *
   generalize shortB ds = sb at *
   unfold DownPost at HP
   generalize cover 0 k = cl at *
   have hd0 : ¬ ((k : Int) < 0) := by omega
   have hd2 : ¬ ((k : Int) > 1048576) := by omega
   clear hX hm h0
   unfold Gives at HS
   go_enter Try.func41, Try.ntmps41
   go_wp2_with fail
   refine (HP.out w).mono ?_
   rintro e wa ⟨v, rfl, hm9⟩
   obtain ⟨pa, pc, rfl⟩ := RowO.form hm9.own
   have HB := Lib.hid hm9.below
   have HWA := Lib.hid hm9.below.size
   clear hm9
   generalize cl.length = cn at *
   have HZS := HWA
   by_cases h1 : m = cn
   ·subst h1
    have hd1 : ((m : Int) != (m : Int)) = false := by simp
    cases sb
    ·obtain rfl : hr = (hs, 0) := by rw [HR.out]; simp
     go_wp2_with fail
     refine (HS.out wa (HX.out.up HB.out)).mono ?_
     rintro e w1 ⟨rfl, hb9⟩
     replace HB := hbu HB hb9
     replace HZS := sz HZS hb9.size
     clear hb9
     go_wp2_with fail
     refine (HF.out w1).mono ?_
     rintro e w2 ⟨rfl, hb9⟩
     replace HB := hbu HB hb9
     replace HZS := sz HZS hb9.size
     clear hb9
     have BX := Lib.hid (Below.refl w2.heap.size w2)
     obtain ⟨w3, hq3, hb9, hz9, Hr⟩ := new1 w2 9 [.string f4]
     replace BX := hbu BX hb9
     replace HB := hbu HB hb9
     replace HZS := sz HZS hz9.out
     clear hb9 hz9
     have r_ := Hr.out.c1
     have Hr9 := Lib.hid (RowO.of_bx (n := 1) (size := 1) Hr.out (Nat.le_refl _) rfl (by decide))
     clear r_ Hr
     have Hr := Hr9
     clear Hr9
     have HCM := Lib.hid (show m ≤ 1048576 by have := HCL.out; omega)
     have hcm := HCM.out
     obtain ⟨i9, hi9, hz90, hz91, hz92⟩ := info_parts infoStrP
     go_wp2_with (at_builtin; refine wpList_joinR (w2.heap.size) w3 (by have g0 := HZS.out; omega) rfl _ _ 22 rfl 9 i9 _ 1 16 Try.underlying22 hi9 hz90 hz91 hz92 rfl (by omega) ((.slice (some ⟨w2.heap.size, 0, none⟩) 1 1)) (1) ([.string f4]) rfl Hr.out (a) (m) (c) (ds.map Value.string) rfl (by rw [List.length_map, HM.out, Nat.mul_one]) ((HX.out.up HB.out)) (hac) (by simp [Value.oneCell']) (by omega) (by unfold maxLen; omega) ?_)
     intro a4 c4 w4 hown9 hg9
     clear hq3
     have hb9 := Below.grown HB.out hg9 (by have g0 := HZS.out; omega) (fun q hq => Nat.le_trans (show w.heap.size ≤ w2.heap.size by have g0 := HZS.out; omega) (Hr.out.lt q hq).1)
     replace BX := Lib.hid (Below.grown BX.out hg9 (by have g0 := HZS.out; omega) (fun q hq => Nat.le_trans (show w2.heap.size ≤ w2.heap.size by have g0 := HZS.out; omega) (Hr.out.lt q hq).1))
     replace HZS := sz HZS hg9.size
     clear Hr HB
     have Hr := Lib.hid hown9
     have HB := Lib.hid hb9
     clear hb9 hown9 hg9 hi9 hz90 hz91 hz92
     go_wp2_with fail
     refine (HT.out HCM.out (by trivial) _ _ w4 Hr.out.sl).mono ?_
     rintro e w5 ⟨rfl, hb9⟩
     replace Hr := Lib.hid (Hr.out.up hb9)
     replace BX := hbu BX hb9
     replace HB := hbu HB hb9
     replace HZS := sz HZS hb9.size
     clear hb9
     go_wp2_with fail
     go_ret2
     exact ⟨rfl, HB.out⟩
    ·obtain rfl : hr = (⟨#[]⟩, 2) := by rw [HR.out]; simp
     go_wp2_with fail
     refine (HS.out wa (HX.out.up HB.out)).mono ?_
     rintro e w1 ⟨rfl, hb9⟩
     replace HB := hbu HB hb9
     replace HZS := sz HZS hb9.size
     clear hb9
     go_wp2_with fail
     go_ret2
     exact ⟨rfl, HB.out⟩
   ·have hd1 : ((cn : Int) != (m : Int)) = true := by simp; omega
    obtain rfl : hr = (⟨#[]⟩, 2) := by rw [HR.out]; simp [h1]
    clear h1
    go_wp2_with fail
    go_ret2
    exact ⟨rfl, HB.out⟩
  ·obtain ⟨hr, hhr⟩ : ∃ r, headR (k : Int) ds = r := ⟨_, rfl⟩
   rw [hhr]
   obtain rfl : hr = (⟨#[]⟩, 4) := by rw [← hhr]; unfold headR; rw [if_neg (by omega)]
   have hd0 : ¬ ((k : Int) < 0) := by omega
   have hd2 : ((k : Int) > 1048576) := by omega
   clear hhr hk hm hX h0
   go_enter Try.func41, Try.ntmps41
   go_wp2_with fail
   go_ret2
   exact ⟨rfl, Below.refl _ _⟩
 ·obtain ⟨hr, hhr⟩ : ∃ r, headR n ds = r := ⟨_, rfl⟩
  rw [hhr]
  obtain rfl : hr = (⟨#[]⟩, 4) := by rw [← hhr]; unfold headR; rw [if_neg (by omega)]
  have hd0 : n < 0 := by omega
  clear hhr h0 hm hX
  go_enter Try.func41, Try.ntmps41
  go_wp2_with fail
  go_ret2
  exact ⟨rfl, Below.refl _ _⟩
end Go.Proofs.Ytjmeakfjfpnciaa
namespace Go.Proofs.Ytjmeakfjfpnciaa
open Go.RowKit
theorem RowO.bx {N n size : Nat} {w : World} {e : TypeId} {a : Option Addr} {c k : Nat} {xs : List Value} (h : RowO N w e size (.slice a k c) n xs) (hn : 0 < n) : ∃ g rest, a = some ⟨g, 0, none⟩ ∧ N ≤ g ∧ n ≤ c ∧ Bx w g e (xs ++ rest) := by
 rcases h.2 with ⟨_, h0⟩ | ⟨g, cap, cur, hv, hb, hg, h1, h2, h3, h4⟩
 ·omega
 ·simp only [Value.slice.injEq] at hv
  obtain ⟨rfl, rfl, rfl⟩ := hv
  refine ⟨g, cur.toList.drop (k * size), rfl, hb, h1, ?_⟩
  rw [← h4, List.take_append_drop]
  exact hg
end Go.Proofs.Ytjmeakfjfpnciaa
