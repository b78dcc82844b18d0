/- A list that a closure appends to: what it holds, and what a call that goes on with it leaves as it was. No condition beyond those that each names. -/
import Derived.Test.YtbjhcpchljjmhaaProg
import Derived.Test.YtbjhcpchljjmhaaOwn
import Derived.Test.YtbjhcpchljjmhaaNetPlain
namespace Go.Proofs.Ytbjhcpchljjmhaa
open Go.RowKit

/-- From w to w': all blocks that were there are as they were, but for the cell L and the list's own row; the list's row is the old one or a new block. -/
structure GStep (w w' : World) (L : Nat) (v v' : Value) : Prop where
  os : w'.os = w.os
  tape : w'.tape = w.tape
  output : w'.output = w.output
  size : w.heap.size ≤ w'.heap.size
  keep : ∀ k, k < w.heap.size → k ≠ L → v.ownBlock ≠ some k → w'.heap[k]? = w.heap[k]?
  next : ∀ k, v'.ownBlock = some k → v.ownBlock = some k ∨ w.heap.size ≤ k

/-- A block that no append to the list touches. -/
def Safe (w : World) (L : Nat) (v : Value) (b : Nat) : Prop := b < w.heap.size ∧ b ≠ L ∧ v.ownBlock ≠ some b

section
variable {w w1 w2 w' : World} {L : Nat} {v v1 v2 v' : Value}
theorem GStep.refl (w : World) (L : Nat) (v : Value) : GStep w w L v v := ⟨rfl, rfl, rfl, Nat.le_refl _, fun _ _ _ _ => rfl, fun _ h => Or.inl h⟩
theorem GStep.of_below (h : Below w.heap.size w w') (L : Nat) (v : Value) : GStep w w' L v v := ⟨h.os, h.tape, h.output, h.size, fun k hk _ _ => h.block k hk, fun _ h => Or.inl h⟩
theorem Safe.step {b : Nat} (hs : Safe w L v b) (h : GStep w w' L v v') : Safe w' L v' b :=
  ⟨Nat.lt_of_lt_of_le hs.1 h.size, hs.2.1, fun e => by rcases h.next _ e with h1 | h1; exact hs.2.2 h1; have := hs.1; omega⟩
theorem GStep.trans (h1 : GStep w w1 L v v1) (h2 : GStep w1 w2 L v1 v2) : GStep w w2 L v v2 := by
  refine ⟨h2.os.trans h1.os, h2.tape.trans h1.tape, h2.output.trans h1.output, Nat.le_trans h1.size h2.size, fun k hk hL hv => ?_, fun k hk => ?_⟩
  · have hs := Safe.step (b := k) ⟨hk, hL, hv⟩ h1
    exact (h2.keep k hs.1 hs.2.1 hs.2.2).trans (h1.keep k hk hL hv)
  · rcases h2.next k hk with h | h
    · exact h1.next k h
    · exact Or.inr (Nat.le_trans h1.size h)
theorem GStep.block {b : Nat} (h : GStep w w' L v v') (hs : Safe w L v b) : w'.heap[b]? = w.heap[b]? := h.keep b hs.1 hs.2.1 hs.2.2
theorem GStep.cell {b : Nat} (h : GStep w w' L v v') (hs : Safe w L v b) (o : Nat) : w'.cell? ⟨b, o, none⟩ = w.cell? ⟨b, o, none⟩ :=
  World.cell?_of_block (w := w) (a := ⟨b, o, none⟩) (h.block hs)
theorem GStep.below {B : Nat} (h : GStep w w' L v v') (hL : B ≤ L) (hv : ∀ q, v.ownBlock = some q → B ≤ q) (hB : B ≤ w.heap.size) : Below B w w' :=
  ⟨h.os, h.tape, h.output, h.size, fun k hk => h.keep k (by omega) (by omega) (fun e => by have := hv k e; omega)⟩
theorem Sl.gstep {a : Option Addr} {cs : List Value} (h : Sl w w.heap.size a cs) (hs : ∀ b o, a = some ⟨b, o, none⟩ → Safe w L v b) (hg : GStep w w' L v v') : Sl w' w'.heap.size a cs := by
  rcases h with rfl | ⟨b, off, rfl, hb, hc⟩
  · exact Or.inl rfl
  · exact Or.inr ⟨b, off, rfl, Nat.lt_of_lt_of_le hb hg.size, fun i u hu => by rw [hg.cell (hs b off rfl)]; exact hc i u hu⟩
end

def flat (gs : List (Int × Int)) : List Value := gs.flatMap fun g => [.int .i64 g.1, .int .i64 g.2]
theorem flat_append (a b : List (Int × Int)) : flat (a ++ b) = flat a ++ flat b := by simp [flat]
theorem flat_length (gs : List (Int × Int)) : (flat gs).length = gs.length * 2 := by
  induction gs with
  | nil => rfl
  | cons g gs ih => simp only [flat, List.flatMap_cons, List.length_append, List.length_cons, List.length_nil] at *; omega

/-- The cell L holds the list v, which holds the gates gs. -/
structure Gath (w : World) (L : Nat) (gs : List (Int × Int)) (v : Value) : Prop where
  blk : w.heap[L]? = some (.cells #[v] 29 (0, 0))
  own : w.ownsRow 0 33 2 v gs.length (flat gs)
  ne : v.ownBlock ≠ some L

theorem Gath.below {w w' : World} {L : Nat} {gs : List (Int × Int)} {v : Value} (h : Gath w L gs v) (hb : Below w.heap.size w w') : Gath w' L gs v :=
  ⟨(hb.block L (Array.getElem?_eq_some_iff.1 h.blk).1).trans h.blk, h.own.kept (below_grown hb) (by cases v.ownBlock <;> simp), h.ne⟩
theorem Gath.lt {w : World} {L : Nat} {gs : List (Int × Int)} {v : Value} (h : Gath w L gs v) : L < w.heap.size := (Array.getElem?_eq_some_iff.1 h.blk).1
theorem Gath.safe {w : World} {L : Nat} {gs : List (Int × Int)} {v : Value} (_ : Gath w L gs v) {w' : World} {b : Nat} (hb : w.heap.size ≤ b) (hb' : b < w'.heap.size) (hL : L < w.heap.size) (hv : ∀ q, v.ownBlock = some q → q < w.heap.size) : Safe w' L v b :=
  ⟨hb', by omega, fun e => by have := hv b e; omega⟩

/-- What is behind a call that appends the gates hs to the list of the cell L. -/
def Adds (w : World) (L : Nat) (gs hs : List (Int × Int)) (v : Value) (e : Ending) (w' : World) : Prop :=
  e = .returned (.tuple #[]) ∧ ∃ v', Gath w' L (gs ++ hs) v' ∧ GStep w w' L v v'

theorem infoGate : (Try.prog.info? 33).map (fun i => (i.zero, i.size, i.bytes)) = some (some (.agg #[.int .i64 0, .int .i64 0]), 2, 16) := by kernel_rfl
theorem infoInt : (Try.prog.info? 3).map (fun i => (i.zero, i.size, i.bytes)) = some (some (.int .i64 0), 1, 8) := by kernel_rfl

set_option maxHeartbeats 400000 in
theorem yield_any (x y : Int) (L : Nat) (gs : List (Int × Int)) (v : Value) (w : World) (hg : Gath w L gs v) (hn : gs.length + 1 ≤ 1000000) :
    Calls Try.prog 39 #[.agg #[.int .i64 x, .int .i64 y], .pointer (some ⟨L, 0, none⟩)] w (Adds w L gs [(x, y)] v) := by
  obtain ⟨i0, hi, hz0, hz1, hz2⟩ := info_parts infoGate
  have hL := hg.lt
  have hc : w.cell? ⟨L, 0, none⟩ = some v := cell_of_one hg.blk
  have hc2 : ∀ o : Obj, (w.alloc o).cell? ⟨L, 0, none⟩ = some v := fun o => (World.cell?_alloc_lt w o _ (by exact hL)).trans hc
  have HG := Lib.hid hg
  clear hg
  go_enter Try.func39, Try.ntmps39
  go_wp2_with (at_builtin; refine wpList_push _ rfl _ _ 29 rfl 33 i0 _ 2 16 Try.underlying29 hi hz0 hz1 hz2 rfl (by omega) v gs.length (flat gs) rfl (HG.out.own.alloc _) _ _ _ (by simp) rfl rfl ?c1 ?c2 ?c3 ?_)
  case c1 => exact ⟨rfl, rfl⟩
  case c2 => omega
  case c3 => unfold maxLen; omega
  intro g cap w1 hown hp
  have hb1 : w1.heap[L]? = some (.cells #[v] 29 (0, 0)) := by
    rw [hp.block (by simp; omega) HG.out.ne, Below.heap_alloc _ _ _ hL]; exact HG.out.blk
  have hc1 : w1.cell? ⟨L, 0, none⟩ = some v := cell_of_one hb1
  have hf1 : w1.frozen? ⟨L, 0, none⟩ = false := free_of_one hb1
  go_wp2
  go_end0
  refine ⟨rfl, _, ⟨one_setCell hb1, ?_, ?_⟩, ?_⟩
  · have h := ownsRow_setCell_other hown (a := ⟨L, 0, none⟩) (by
      intro e
      simp [Value.ownBlock] at e
      rcases hp.here with h | h
      · exact HG.out.ne (by rw [h, e])
      · simp at h; omega) (.slice (some ⟨g, 0, none⟩) (gs.length + 1) cap)
    simpa [flat_append, flat] using h
  · intro e
    simp [Value.ownBlock] at e
    rcases hp.here with h | h
    · exact HG.out.ne (by rw [h, e])
    · simp at h; omega
  · refine ⟨hp.grown.os, hp.grown.tape, hp.grown.output, ?_, fun k hk hkL hkv => ?_, fun k hk => ?_⟩
    · have := hp.size; simp [World.setCell] at this ⊢; omega
    · rw [Below.heap_setCell _ _ _ _ (by simpa using hkL), hp.block (by simp; omega) hkv, Below.heap_alloc _ _ _ hk]
    · have hk' : g = k := by simpa [Value.ownBlock] using hk
      subst hk'
      rcases hp.here with h | h
      · exact Or.inl h
      · right; simp at h; omega

/-- What the closure 'row' has captured: the function that takes each gate, and the wires. -/
structure Caught (w : World) (L : Nat) (v : Value) (yb wb : Nat) (a : Option Addr) (cap : Nat) (xs : List Int) : Prop where
  yc : w.cell? ⟨yb, 0, none⟩ = some (.func (.func 39) #[] #[.pointer (some ⟨L, 0, none⟩)])
  wc : w.cell? ⟨wb, 0, none⟩ = some (.slice a xs.length cap)
  ys : Safe w L v yb
  ws : Safe w L v wb
  sl : Sl w w.heap.size a (xs.map (Value.int .i64))
  ss : ∀ b o, a = some ⟨b, o, none⟩ → Safe w L v b

theorem Caught.step {w w' : World} {L : Nat} {v v' : Value} {yb wb : Nat} {a : Option Addr} {cap : Nat} {xs : List Int} (h : Caught w L v yb wb a cap xs) (hg : GStep w w' L v v') : Caught w' L v' yb wb a cap xs :=
  ⟨(hg.cell h.ys 0).trans h.yc, (hg.cell h.ws 0).trans h.wc, h.ys.step hg, h.ws.step hg, h.sl.gstep h.ss hg, fun b o e => (h.ss b o e).step hg⟩

theorem pairs_succ (k : Nat) (xs : List Int) : pairs (k + 1) xs = pairs k xs ++ [(xs.getD (2 * k) 0, xs.getD (2 * k + 1) 0)] := by
  simp [pairs, List.range_succ]

/-- Two neighbours among the wires. -/
theorem Caught.two {w : World} {L : Nat} {v : Value} {yb wb : Nat} {a : Option Addr} {cap : Nat} {xs : List Int} (h : Caught w L v yb wb a cap xs) (q : Nat) (hq : q + 1 < xs.length) :
    ∃ b o, a = some ⟨b, o, none⟩ ∧ b < w.heap.size ∧ w.cell? ⟨b, o + q, none⟩ = some (.int .i64 (xs.getD q 0)) ∧ w.cell? ⟨b, o + (q + 1), none⟩ = some (.int .i64 (xs.getD (q + 1) 0)) := by
  obtain ⟨b1, o1, rfl, hb1, hx1⟩ := h.sl.at q (by simp; omega)
  obtain ⟨b2, o2, e2, hb2, hx2⟩ := h.sl.at (q + 1) (by simp; omega)
  simp only [Option.some.injEq, Addr.mk.injEq, and_true] at e2
  obtain ⟨rfl, rfl⟩ := e2
  rw [List.getElem_map] at hx1 hx2
  refine ⟨b1, o1, rfl, hb1, ?_, ?_⟩
  · rw [hx1]; simp [List.getD, List.getElem?_eq_getElem (show q < xs.length by omega)]
  · rw [hx2]; simp [List.getD, List.getElem?_eq_getElem (show q + 1 < xs.length by omega)]

set_option maxHeartbeats 1000000 in
theorem row_any (most k : Nat) (L : Nat) (gs : List (Int × Int)) (v : Value) (yb wb : Nat) (a : Option Addr) (cap : Nat) (xs : List Int) (w : World) (hg : Gath w L gs v)
    (hc : Caught w L v yb wb a cap xs) (hk : most / 2 = k) (hm : most ≤ xs.length) (hn : xs.length ≤ 4096) (hgs : gs.length + k ≤ 1000000) :
    Calls Try.prog 47 #[.int .i64 most, .pointer (some ⟨yb, 0, none⟩), .pointer (some ⟨wb, 0, none⟩)] w (Adds w L gs (pairs k xs) v) := by
  have HG := Lib.hid hg
  have HC := Lib.hid hc
  have HK := Lib.hid hk
  clear hg hc hk
  go_enter Try.func47, Try.ntmps47
  go_wp2
  go_loopw [4] (fun i wr => ∃ j q : Nat, j ≤ k ∧ Hid (q = 2 * j) ∧ i = .int .i64 q ∧ Hid (∃ v', Gath wr L (gs ++ pairs j xs) v' ∧ GStep w wr L v v')) (fun i _ => 2 * k - (intOf i).toNat)
  case atStart => exact ⟨0, 0, Nat.zero_le _, rfl, rfl, v, by simpa [pairs] using HG.out, GStep.refl _ _ _⟩
  case round =>
    obtain ⟨j, q, hj, HQ, rfl, HV⟩ := hrel
    obtain ⟨v', hg', hs'⟩ := HV.out
    by_cases hjk : j < k
    · have hk2 := HK.out
      have hq := HQ.out
      have hc' := HC.out.step hs'
      have hlt : q + 1 < xs.length := by omega
      obtain ⟨b1, o1, rfl, hb1, hx1, hx2⟩ := hc'.two q hlt
      have hyc := hc'.yc
      have hwc := hc'.wc
      have hlt2 : (q : Int) + 1 < (most : Int) := by omega
      have hlt3 : (q : Int) + 1 < (xs.length : Int) := by omega
      have hp : pairs (j + 1) xs = pairs j xs ++ [(xs.getD q 0, xs.getD (q + 1) 0)] := by rw [pairs_succ, hq]
      have HP := Lib.hid hp
      have HGG := Lib.hid hg'
      have HSS := Lib.hid hs'
      have hq1 : q < xs.length := by omega
      clear hp hg' hs' HV hk2 hc' hq
      generalize xs.getD q 0 = x at *
      generalize xs.getD (q + 1) 0 = y at *
      go_wp2_with fail
      refine wp_region_tail 11 (by kernel_rfl) (by kernel_rfl) ?_
      simp only [List.take_succ_cons, List.take_zero, List.drop_succ_cons, List.drop_zero]
      repeat (go_big_quiet_step (fail))
      refine wpQuiet_nil ?_
      go_wp2_with fail
      refine (yield_any _ _ L (gs ++ pairs j xs) v' _ (HGG.out.below (Below.refl _ _).drew) (by simp [pairs]; omega)).mono ?_
      rintro e w2 ⟨rfl, HA⟩
      have HN : Hid (∃ v2, Gath w2 L (gs ++ pairs (j + 1) xs) v2 ∧ GStep w w2 L v v2) := by
        obtain ⟨v2, hg2, hs2⟩ := HA
        rw [List.append_assoc, ← HP.out] at hg2
        exact ⟨v2, hg2, (HSS.out.trans (GStep.of_below (Below.refl _ _).drew _ _)).trans hs2⟩
      clear HA
      go_wp2_with fail
      have hq := HQ.out
      go_roundw
      case rel => exact ⟨j + 1, q + 2, by omega, by show q + 2 = 2 * (j + 1); omega, by go_num, HN⟩
      case measure => simp [intOf]; omega
    · have hjn : j = k := by omega
      subst hjn
      have hq := HQ.out
      have hk2 := HK.out
      have hlt2 : (most : Int) ≤ (q : Int) + 1 := by omega
      have hqb : (q : Int) ≤ 4096 := by omega
      clear hq hk2
      go_wp2_with fail
      go_end0
      exact ⟨rfl, HV.out⟩

end Go.Proofs.Ytbjhcpchljjmhaa
