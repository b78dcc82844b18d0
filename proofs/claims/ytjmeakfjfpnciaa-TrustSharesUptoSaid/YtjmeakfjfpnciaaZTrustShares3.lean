/- Texts of this seat, one behind the other: what TrustShares leans on. No condition beyond those that each names. -/
import Derived.Test.YtjmeakfjfpnciaaZTrustShares2
import Derived.Deep.MidRow
import Derived.Deep.WholeRow
import Derived.Laws.CopyOwn
import Derived.Lib.BufferWrite
import Derived.BigQuiet
import Derived.Lib.SliceRun
import Derived.LoopTactic
import Derived.Outline
import Derived.Lib.SlBytesConst
import Derived.Lib.IndexBytes
import Derived.Deep.OwnRows
import Derived.Shelf.Abstract
import Derived.Deep.LoopGhost

set_option maxRecDepth 100000
set_option maxHeartbeats 4000000
set_option linter.unusedVariables false
set_option linter.unusedSimpArgs false
namespace Go.Proofs.Ytjmeakfjfpnciaa
open Go.RowKit
def putL (cs : List Value) (o : Nat) : List Value → List Value
 | [] => cs
 | v :: vs => putL (cs.set o v) (o + 1) vs
theorem putL_eq : ∀ (vs cs : List Value) (o : Nat), o + vs.length ≤ cs.length → putL cs o vs = cs.take o ++ vs ++ cs.drop (o + vs.length)
 | [], cs, o, _ => by simp [putL]
 | v :: vs, cs, o, h => by
   rw [List.length_cons] at h
   rw [putL, putL_eq vs _ _ (by rw [List.length_set]; omega)]
   have h1 : (cs.set o v).take (o + 1) = cs.take o ++ [v] := by
    rw [List.take_succ_eq_append_getElem (by rw [List.length_set]; omega), List.take_set_of_le (Nat.le_refl _), List.getElem_set_self]
   have h2 : (cs.set o v).drop (o + 1 + vs.length) = cs.drop (o + (v :: vs).length) := by
    rw [List.drop_set_of_lt (by omega), List.length_cons, show o + 1 + vs.length = o + (vs.length + 1) by omega]
   rw [h1, h2]
   simp
theorem putL_all (cs vs : List Value) (h : vs.length = cs.length) : putL cs 0 vs = vs := by
 rw [putL_eq _ _ _ (by omega)]
 simp [h]
section
variable {W w0 w : World} {b o n : Nat} {t : TypeId} {cs vs : List Value} {P : Program}
theorem Bx.range (h : Bx W b t cs) : W.rangeAt b 0 cs := fun j v hv => by rw [Nat.zero_add]; exact h.cell hv
theorem Bx.part {as1 bs : List Value} (h : Bx W b t (as1 ++ (cs ++ bs))) (ho : as1.length = o) : W.rangeAt b o cs := fun j v hv => h.cell (by
 have hj := (List.getElem?_eq_some_iff.1 hv).1
 rw [List.getElem?_append_right (by omega), show o + j - as1.length = j by omega, List.getElem?_append_left hj, hv])
theorem Bx.there (h : Bx W b t cs) (hn : o + n ≤ cs.length) : W.there b o n := fun j hj => ⟨by rw [h.cell (List.getElem?_eq_getElem (show o + j < cs.length by omega))]; rfl, h.frozen _⟩
theorem Bx.put : ∀ (vs : List Value) {W : World} {cs : List Value} {o : Nat}, Bx W b t cs → Bx (W.setCells b o vs) b t (putL cs o vs)
 | [], _, _, _, h => h
 | v :: vs, _, _, _, h => Bx.put vs (h.set _ v)
theorem grown_put (b : Nat) : ∀ (vs : List Value) (W : World) (o : Nat), W.grownBy (W.setCells b o vs) (some b)
 | [], W, _ => ⟨rfl, rfl, rfl, Nat.le_refl _, fun _ _ _ => rfl⟩
 | v :: vs, W, o => (grown_set W b o v).trans (grown_put b vs _ _)
theorem size_put (b : Nat) : ∀ (vs : List Value) (W : World) (o : Nat), (W.setCells b o vs).heap.size = W.heap.size
 | [], _, _ => rfl
 | v :: vs, W, o => by
   show ((W.setCell ⟨b, o, none⟩ v).setCells b (o + 1) vs).heap.size = _
   rw [size_put b vs]
   simp [World.setCell]
theorem puts (h : Hid (Bx W b t cs)) (o : Nat) (vs cs' : List Value) (hc : putL cs o vs = cs') : ∃ W', W.setCells b o vs = W' ∧ Hid (W.grownBy W' (some b)) ∧ Hid (W'.heap.size = W.heap.size) ∧ Hid (Bx W' b t cs') :=
 ⟨_, rfl, Lib.hid (grown_put b vs W o), Lib.hid (size_put b vs W o), Lib.hid (hc ▸ h.out.put vs)⟩
theorem wp_store_new {op : Oper} {a : Act} {K : Act → World → Prop} {Q : Exit → Act → World → Prop} (ty t : TypeId) (x y : Operand) (ho : op.op = .store ty x y) (c c' : List Value)
  (hx : a.eval x = .pointer (some ⟨w.heap.size, 0, none⟩)) (hy : a.eval y = .agg c'.toArray) (hi : (P.info? ty).map (·.size) = some c'.length) (hc : c.length = c'.length) (h1 : ∀ v ∈ c', v.oneCell' = true)
  (h : K (a.put op.dst undef) (w.alloc (.cells c'.toArray t))) : op.wp P a (w.alloc (.cells c.toArray t)) K Q := by
 refine wp_store_mid ty x y ho w.heap.size 0 c'.toArray hx hy ?_ (by simpa using hi) (all_oneCell_toArray h1) ?_
 ·have hb : Bx (w.alloc (.cells c.toArray t)) w.heap.size t c := Bx.new w t c _ rfl
  exact hb.there (by simp; omega)
 ·have hb : Bx (w.alloc (.cells c.toArray t)) w.heap.size t c := Bx.new w t c _ rfl
  have e : (w.alloc (.cells c.toArray t)).setCells w.heap.size 0 c' = w.alloc (.cells c'.toArray t) := by
   have key : ∀ (vs c : List Value) (o : Nat), (w.alloc (.cells c.toArray t)).setCells w.heap.size o vs = w.alloc (.cells (putL c o vs).toArray t) := by
    intro vs
    induction vs with
    | nil => intro c o; rfl
    | cons v vs ih =>
     intro c o
     show ((w.alloc (.cells c.toArray t)).setCell ⟨w.heap.size, o, none⟩ v).setCells w.heap.size (o + 1) vs = _
     rw [World.setCell_alloc_at _ _ _ _ _ rfl]
     simp only [List.setIfInBounds_toArray]
     exact ih _ _
   rw [key, putL_all _ _ hc.symm]
  simp only
  rw [e]
  exact h
theorem wpList_store_new {ops : Array Oper} {rest : List Oper} {op : Oper} {a : Act} {Q : Exit → Act → World → Prop} (hgd : op.guard = none) (ty t : TypeId) (x y : Operand) (ho : op.op = .store ty x y) (c c' : List Value)
  (hx : a.eval x = .pointer (some ⟨w.heap.size, 0, none⟩)) (hy : a.eval y = .agg c'.toArray) (hi : (P.info? ty).map (·.size) = some c'.length) (hc : c.length = c'.length) (h1 : ∀ v ∈ c', v.oneCell' = true)
  (h : wpList P ops Q rest (a.put op.dst undef) (w.alloc (.cells c'.toArray t))) : wpList P ops Q (op :: rest) a (w.alloc (.cells c.toArray t)) :=
 wpList_plain hgd fun _ hK => wp_store_new ty t x y ho c c' hx hy hi hc h1 (hK _ _ h)
theorem grown_row {g : Nat} (w : World) (cs : Array Value) : w.grownBy (w.setRow g cs) (some g) :=
 ⟨rfl, rfl, rfl, by simp [World.setRow], fun k _ hk => setRow_other w g k cs (fun e => hk (by rw [e]))⟩
theorem wpList_copyB {ops : Array Oper} {rest : List Oper} {op : Oper} {a : Act} {Q : Exit → Act → World → Prop} (hgd : op.guard = none) (d s : Operand) (dT sT : TypeId)
  (ho : op.op = .call { callee := .builtin .copy, args := #[d, s], argTypes := #[dT, sT] }) (elem : TypeId) (hu : P.underlying dT = some (.slice elem)) (hsz : (P.info? elem).map (·.size) = some 1)
  (g off dLen dCap : Nat) (ad : Addr) (sLen sCap : Nat) (hd : a.eval d = .slice (some ⟨g, off, none⟩) dLen dCap) (hs : a.eval s = .slice (some ad) sLen sCap)
  (cur : List Value) (t : TypeId) (hg : Bx w g t cur) (cs : List Value) (hn : cs.length = Nat.min sLen dLen)
  (hsrc : ∀ j v, cs[j]? = some v → w.cell? (ad.add j) = some v) (hfit : off + cs.length ≤ cur.length) (h1 : ∀ v ∈ cs, v.oneCell' = true) (cs' : List Value) (hc : putL cur off cs = cs')
  (h : ∀ w', Hid (w.grownBy w' (some g)) → Hid (w'.heap.size = w.heap.size) → Hid (Bx w' g t cs') → wpList P ops Q rest (a.put op.dst (goInt cs.length)) w') : wpList P ops Q (op :: rest) a w := by
 refine wpList_copy_own hgd d s dT sT ho elem hu hsz g off dLen dCap ad sLen sCap hd hs cur.toArray t hg cs hn hsrc (by simpa using hfit) h1 ?_
 refine h _ (Lib.hid (grown_row _ _)) (Lib.hid (by simp [World.setRow])) (Lib.hid ?_)
 show (w.setRow g _).heap[g]? = _
 rw [setRow_heap w g _ _ t _ hg, ← hc, putL_eq _ _ _ hfit]
 simp
theorem run_copy_str (w : World) (dT sT ty elem : TypeId) (g o dLen dCap : Nat) (s : ByteArray) (cur : Array Value) (t : TypeId)
  (hu : P.underlying dT = some (.slice elem)) (hs : (P.info? elem).map (·.size) = some 1) (hg : w.heap[g]? = some (.cells cur t (0, 0))) (hfit : o + dLen ≤ cur.size) :
  (Builtin.copy_ #[dT, sT] ty #[.slice (some ⟨g, o, none⟩) dLen dCap, .string s]).run P w =
   .ok (goInt (Nat.min s.size dLen)) (w.setRow g (cur.toList.take o ++ (Lib.byteCells s.data.toList).take dLen ++ cur.toList.drop (o + ((Lib.byteCells s.data.toList).take dLen).length)).toArray) := by
 have hlen : ((Lib.byteCells s.data.toList).take dLen).length = Nat.min s.size dLen := by
  rw [List.length_take, Lib.byteCells_length, ← Lib.size_eq, Nat.min_comm]
 have hst := run_storeCells_at P g o t ((Lib.byteCells s.data.toList).take dLen) 0 cur w hg (by rw [hlen]; have := Nat.min_le_right s.size dLen; simp only [Nat.add_zero]; exact Nat.le_trans (Nat.add_le_add_left this _) hfit) (fun v hv => Lib.byteCells_one _ v (List.mem_of_mem_take hv))
 have htk : List.take (Nat.min s.size dLen) (List.map (fun b : UInt8 => Value.int IntKind.u8 (b.toNat : Int)) s.data.toList) = (Lib.byteCells s.data.toList).take dLen := by
  unfold Lib.byteCells
  show List.take (min s.size dLen) _ = _
  rw [Nat.min_comm, ← List.take_take, List.take_of_length_le (i := s.size) (by rw [List.length_map, ← Lib.size_eq]; exact Nat.le_refl _)]
 simp only [Nat.add_zero] at hst
 cases hq : P.info? elem with
 | none => simp [hq] at hs
 | some i =>
  simp [Builtin.copy_, run_underlying hu, Builtin.lenOf, Builtin.firstCells, sizeOf, typeInfo, hq]
  rw [htk, hst]
  simp [Result.andThen]
theorem wpList_copyS {ops : Array Oper} {rest : List Oper} {op : Oper} {a : Act} {Q : Exit → Act → World → Prop} (hgd : op.guard = none) (d s : Operand) (dT sT : TypeId)
  (ho : op.op = .call { callee := .builtin .copy, args := #[d, s], argTypes := #[dT, sT] }) (elem : TypeId) (hu : P.underlying dT = some (.slice elem)) (hsz : (P.info? elem).map (·.size) = some 1)
  (g off dLen dCap : Nat) (x : ByteArray) (hd : a.eval d = .slice (some ⟨g, off, none⟩) dLen dCap) (hs : a.eval s = .string x)
  (cur : List Value) (t : TypeId) (hg : Bx w g t cur) (hfit : off + dLen ≤ cur.length) (cs' : List Value) (hc : putL cur off ((Lib.byteCells x.data.toList).take dLen) = cs')
  (h : ∀ w', Hid (w.grownBy w' (some g)) → Hid (w'.heap.size = w.heap.size) → Hid (Bx w' g t cs') → wpList P ops Q rest (a.put op.dst (goInt (Nat.min x.size dLen))) w') : wpList P ops Q (op :: rest) a w := by
 refine wpList_plain hgd fun K hK => ?_
 have hrun := run_copy_str (P := P) w dT sT op.type elem g off dLen dCap x cur.toArray t hu hsz hg (by simpa using hfit)
 have hl : off + ((Lib.byteCells x.data.toList).take dLen).length ≤ cur.length := by rw [List.length_take]; have := Nat.min_le_left dLen (Lib.byteCells x.data.toList).length; omega
 unfold Oper.wp
 simp [execOp, ho, resolve, invoke, builtin, hd, hs, hrun, Result.andThen]
 refine hK _ _ (h _ (Lib.hid (grown_row _ _)) (Lib.hid (by simp [World.setRow])) (Lib.hid ?_))
 show (w.setRow g _).heap[g]? = _
 rw [setRow_heap w g _ _ t _ hg, ← hc, putL_eq _ _ _ hl]
 simp
theorem wpList_clearB {ops : Array Oper} {rest : List Oper} {op : Oper} {a : Act} {Q : Exit → Act → World → Prop} (hgd : op.guard = none) (x : Operand) (T : TypeId)
  (ho : op.op = .call { callee := .builtin .clear, args := #[x], argTypes := #[T] }) (e : TypeId) (z : Value) (ht : P.underlying T = some (.slice e)) (hv : ∀ w, (zeroValue e).run P w = .ok z w) (hz : z.cells = #[z]) (h1 : z.oneCell' = true)
  (g off n c : Nat) (hx : a.eval x = .slice (some ⟨g, off, none⟩) n c) (cur : List Value) (t : TypeId) (hg : Bx w g t cur) (hfit : off + n ≤ cur.length) (cs' : List Value) (hc : putL cur off (List.replicate n z) = cs')
  (h : ∀ w', Hid (w.grownBy w' (some g)) → Hid (w'.heap.size = w.heap.size) → Hid (Bx w' g t cs') → wpList P ops Q rest (a.put op.dst (.tuple #[])) w') : wpList P ops Q (op :: rest) a w := by
 refine wpList_plain hgd fun K hK => ?_
 by_cases hn : n = 0
 ·subst hn
  have hrun : (Builtin.clear_ #[T] op.type #[.slice (some ⟨g, off, none⟩) 0 c]).run P w = .ok (.tuple #[]) w := by simp [Builtin.clear_, run_underlying ht]
  unfold Oper.wp
  simp [execOp, ho, resolve, invoke, builtin, hx, hrun, Result.andThen]
  exact hK _ _ (h w (Lib.hid ⟨rfl, rfl, rfl, Nat.le_refl _, fun _ _ _ => rfl⟩) (Lib.hid rfl) (Lib.hid (hc ▸ hg)))
 ·have hrun := Lib.run_clear_slice (P := P) w T e op.type z ht hv hz h1 g off n c (by omega) (fun j hj => (hg.there hfit j hj).1) (fun j hj => (hg.there hfit j hj).2)
  unfold Oper.wp
  simp [execOp, ho, resolve, invoke, builtin, hx, hrun, Result.andThen]
  exact hK _ _ (h _ (Lib.hid (grown_put g _ w off)) (Lib.hid (size_put g _ w off)) (Lib.hid (hc ▸ hg.put _)))
theorem wpQuiet_load {ops : Array Oper} {C : World → Prop} {Q : Act → Prop} {rest : List Oper} {op : Oper} {a : Act} (hgd : op.guard = none) (ty : TypeId) (x : Operand) (ho : op.op = .load ty x)
  (b o : Nat) (hx : a.eval x = .pointer (some ⟨b, o, none⟩)) (cs : List Value) (d : TypeDesc) (hC : ∀ w, C w → w.rangeAt b o cs) (hu : P.underlying ty = some d) (hd : d.isRow = true) (hi : (P.info? ty).map (·.size) = some cs.length)
  (h : wpQuiet P ops C Q rest (a.put op.dst (.agg cs.toArray))) : wpQuiet P ops C Q (op :: rest) a := by
 refine BigFrame.wpQuiet_want (by simp [Region.wanted, hgd]) fun K hK => ⟨_, fun w hw => ?_, hK _ h⟩
 unfold Oper.quietAt execOp
 simp only [ho, hx, Instr.loadAt, Instr.sureAddr, Sem.run_bind, Sem.run_pure, Result.andThen_ok, run_loadVar_mid w b o ty cs d (hC w hw) hu hd hi]
 exact ⟨rfl, rfl⟩
end
theorem ret_arr {P : Program} {fn : Func} {R : Ending → World → Prop} {a : Act} {w : World} {p : Tmp} {ty : TypeId} (h : fn.results = #[.cell p ty]) {b : Nat} {t : TypeId} {cs : List Value} (hb : Bx w b t cs) (d : TypeDesc)
  (hp : a.tmps.getD p undef = .pointer (some ⟨b, 0, none⟩)) (hu : P.underlying ty = some d) (hd : d.isRow = true) (hi : (P.info? ty).map (·.size) = some cs.length) (ha : a.defers = []) (hR : R (.returned (.agg cs.toArray)) w) : bodyPost P fn R .ret a w :=
 bodyPost_ret (results_cell_row h a.tmps w b t cs.toArray (0, 0) d hp hb hu (by cases d <;> simp_all) (by simpa using hi)) ha hR
theorem run_index_arr {P : Program} (w : World) (t e : TypeId) (k : IntKind) (n : Nat) (cs : List Value) (i : Nat) (v : Value) (hv : cs[i]? = some v) (hu : P.underlying t = some (.array n e)) (hn : cs.length = n) (hs : (P.info? e).map (·.size) = some 1) (he : P.underlying e = some (.int k)) :
  (Instr.index t (.agg cs.toArray) (.int .i64 (i : Int))).run P w = .ok v w := by
 have hi : i < n := hn ▸ (List.getElem?_eq_some_iff.1 hv).1
 cases hq : P.info? e with
 | none => simp [hq] at hs
 | some inf =>
  have h1 : inf.size = 1 := by simpa [hq] using hs
  simp [Instr.index, asIntOf, run_underlying hu, hi, sizeOf, typeInfo, hq, h1, part, isAgg, run_underlying he, hv]
theorem wl_one (l : WL) : ∀ v ∈ wlV l, v.oneCell' = true := fun v hv => by
 unfold wlV at hv
 obtain ⟨x, _, rfl⟩ := List.mem_map.1 hv
 rfl
end Go.Proofs.Ytjmeakfjfpnciaa
namespace Go.Proofs.Ytjmeakfjfpnciaa
open Go.RowKit
end Go.Proofs.Ytjmeakfjfpnciaa
namespace Go.Proofs.Ytjmeakfjfpnciaa
open Go.RowKit
end Go.Proofs.Ytjmeakfjfpnciaa
namespace Go.Proofs.Ytjmeakfjfpnciaa
open Go.RowKit
def zw (n : Nat) : WL := List.replicate n 0
theorem wl_cell {W : World} {b : Nat} {t : TypeId} {l : WL} (h : Bx W b t (wlV l)) (i : Nat) (hi : i < l.length) : W.cell? ⟨b, i, none⟩ = some (.int .u32 ((l.getD i 0).toNat : Int)) := h.cell (wlV_get l i hi)
theorem info16 : (Try.prog.info? 226).map (·.size) = some 16 := by kernel_rfl
theorem infoPool : (Try.prog.info? 287).map (·.size) = some 16 := by kernel_rfl
theorem Stir_any (v m : WL) (hv : v.length = 16) (hm : m.length = 16) (w : World) :
  Calls Try.prog 209 #[.agg (wlV v).toArray, .agg (wlV m).toArray] w fun e w' => e = .returned (.agg (wlV (stirB v m)).toArray) ∧ Below w.heap.size w w' := by
 have HV := Lib.hid hv
 have HM := Lib.hid hm
 have HI := Lib.hid (show (Try.prog.info? 226).map (·.size) = some (wlV v).length by rw [wlV_len, hv]; exact info16)
 have HIP := Lib.hid (show (Try.prog.info? 287).map (·.size) = some (wlV v).length by rw [wlV_len, hv]; exact infoPool)
 have HZ := Lib.hid (show (wlV (zw 16)).length = (wlV v).length by rw [wlV_len, wlV_len, hv]; rfl)
 clear hv hm
 have hz : (#[.int .u32 0, .int .u32 0, .int .u32 0, .int .u32 0, .int .u32 0, .int .u32 0, .int .u32 0, .int .u32 0, .int .u32 0, .int .u32 0, .int .u32 0, .int .u32 0, .int .u32 0, .int .u32 0, .int .u32 0, .int .u32 0] : Array Value) = (wlV (zw 16)).toArray := rfl
 go_enter Try.func209, Try.ntmps209
 go_upto_region 1 with (fail)
 obtain ⟨w1, hq1, hb9, hz9, Ha, Hb, Hr⟩ := new3 w 226 (wlV v) 226 (wlV m) 226 (wlV (zw 16))
 rw [hq1]
 clear hq1
 have HB := Lib.hid hb9
 have HZS := hz9
 clear hb9 hz9
 go_upto_region 2 with (first | refine wpList_load_mid rfl 226 (.tmp 2) rfl w.heap.size 0 rfl (wlV v) _ Ha.out.range Try.underlying226 rfl HI.out ?_ | refine wpList_store_new rfl 287 287 (.tmp 5) (.tmp 8) rfl (wlV (zw 16)) (wlV v) rfl rfl HIP.out HZ.out (wl_one v) ?_)
 clear hz HIP HZ HI Ha
 obtain ⟨w2, hq2, hb9, hz9, Hp⟩ := new1 w1 287 (wlV v)
 rw [hq2]
 clear hq2
 replace Hb := Lib.hid (Hb.out.up hb9)
 replace Hr := Lib.hid (Hr.out.up hb9)
 replace HB := hbu HB hb9
 replace HZS := sz HZS hz9.out
 clear hb9 hz9
 have HK := Lib.hid (Kept.refl (fun q9 => q9 = w1.heap.size) w2)
 have HL0 := HB
 go_wp2_with fail
 go_loopw [9] (fun c wr => ∃ k : Nat, k ≤ 10 ∧ c = .int .i64 k ∧ Hid (Bx wr w1.heap.size 287 (wlV (roundsB m k v))) ∧ Hid (Kept (fun q9 => q9 = w1.heap.size) w2 wr)) (fun c _ => 10 - (intOf c).toNat)
 case atStart => exact ⟨0, by omega, rfl, Hp, HK⟩
 case round =>
  obtain ⟨k, hk, rfl, HQ, HK1⟩ := hrel
  clear HK
  have hg9 := HK1.out
  clear Hp
  replace Hb := Lib.hid (Bx.keptP (P := fun q9 => q9 = w1.heap.size) Hb.out hg9 (show ¬ (w.heap.size + 1 = w1.heap.size) by have g0 := HZS.out; omega))
  replace Hr := Lib.hid (Bx.keptP (P := fun q9 => q9 = w1.heap.size) Hr.out hg9 (show ¬ (w.heap.size + 2 = w1.heap.size) by have g0 := HZS.out; omega))
  replace HB := Lib.hid (Below.keptP HB.out hg9 (by have g0 := HZS.out; omega) (fun q9 h9 => (show w.heap.size ≤ _ by subst h9; have g0 := HZS.out; omega)))
  replace HZS := sz HZS (show w2.heap.size ≤ wr.heap.size from hg9.size)
  clear hg9
  have Hp := HQ
  clear HQ
  have HVL := Lib.hid (show (roundsB m k v).length = 16 by rw [roundsB_len]; exact HV.out)
  by_cases hk10 : k < 10
  ·have hdk : decide ((k : Int) < 10) = true := by simp; omega
   have hrs := Lib.hid (roundsB_succ m k v)
   generalize roundsB m k v = V at *
   obtain ⟨wo, rfl⟩ : ∃ wo : World, wo = wr := ⟨_, rfl⟩
   have HK2 := Lib.hid (Kept.refl (fun q9 => q9 = w1.heap.size) wo)
   go_wp2_with fail
   go_loopw [12] (fun c wr => ∃ i : Nat, i ≤ 8 ∧ c = .int .i64 i ∧ Hid (Bx wr w1.heap.size 287 (wlV (halfB m k i V))) ∧ Hid (Kept (fun q9 => q9 = w1.heap.size) wo wr)) (fun c _ => 8 - (intOf c).toNat)
   case atStart => exact ⟨0, by omega, rfl, Hp, HK2⟩
   case round =>
    obtain ⟨i, hi, rfl, HQ, HK3⟩ := hrel
    clear HK2
    have hg9 := HK3.out
    clear Hp
    replace Hb := Lib.hid (Bx.keptP (P := fun q9 => q9 = w1.heap.size) Hb.out hg9 (show ¬ (w.heap.size + 1 = w1.heap.size) by have g0 := HZS.out; omega))
    replace Hr := Lib.hid (Bx.keptP (P := fun q9 => q9 = w1.heap.size) Hr.out hg9 (show ¬ (w.heap.size + 2 = w1.heap.size) by have g0 := HZS.out; omega))
    replace HB := Lib.hid (Below.keptP HB.out hg9 (by have g0 := HZS.out; omega) (fun q9 h9 => (show w.heap.size ≤ _ by subst h9; have g0 := HZS.out; omega)))
    replace HZS := sz HZS (show wo.heap.size ≤ wr.heap.size from hg9.size)
    clear hg9
    have Hp := HQ
    clear HQ
    have HVI := Lib.hid (show (halfB m k i V).length = 16 by rw [halfB_len]; exact HVL.out)
    by_cases hi8 : i < 8
    ·have HS := Lib.hid (halfB_succ m k i V)
     have HQU := fun W h => quarter_any m (halfB m k i V) k i hi8 HVI.out w1.heap.size W h
     have HP1 := fun w => place_any k (2 * i) hk10 (by omega) w
     have HP2 := fun w => place_any k (2 * i + 1) hk10 (by omega) w
     have o1 : ordN k (2 * i) < 16 := ordN_lt hk10 (by omega)
     have o2 : ordN k (2 * i + 1) < 16 := ordN_lt hk10 (by omega)
     rw [show ((2 * i : Nat) : Int) = 2 * (i : Int) from by omega] at HP1
     rw [show ((2 * i + 1 : Nat) : Int) = 2 * (i : Int) + 1 from by omega] at HP2
     generalize quartB m (halfB m k i V) k i = V2 at *
     generalize halfB m k i V = V1 at *
     generalize ordN k (2 * i) = j1 at *
     generalize ordN k (2 * i + 1) = j2 at *
     have c1 := wl_cell Hb.out j1 (by rw [HM.out]; exact o1)
     have c2 := wl_cell Hb.out j2 (by rw [HM.out]; exact o2)
     have HQU := Lib.hid HQU
     have HP1 := Lib.hid HP1
     have HP2 := Lib.hid HP2
     generalize m.getD j1 0 = x1 at *
     generalize m.getD j2 0 = x2 at *
     have a1 : (0 : Int) ≤ (j1 : Int) := by omega
     have a2 : (j1 : Int) < 16 := by omega
     have a3 : (0 : Int) ≤ (j2 : Int) := by omega
     have a4 : (j2 : Int) < 16 := by omega
     go_wp2_with fail
     refine wp_region_otail 14 (by kernel_rfl) (by kernel_rfl) ?_
     simp only [List.take_succ_cons, List.take_zero, List.drop_succ_cons, List.drop_zero]
     have hov_w_heap_size___1 := fun (E : Over wr) o => E.cell (b := w.heap.size + 1) o Hb.out.lt
     repeat (go_big_quiet_step (first | (go_at_call 214; exact calls_over ((by first | with_reducible exact HP1.out _ | with_reducible exact HP2.out _)))))
     all_goals (try unfold elV limbV)
     repeat (go_big_quiet_step (first | (go_at_call 214; exact calls_over ((by first | with_reducible exact HP1.out _ | with_reducible exact HP2.out _)))))
     all_goals (try unfold elV limbV)
     repeat (go_big_quiet_step (first | (go_at_call 214; exact calls_over ((by first | with_reducible exact HP1.out _ | with_reducible exact HP2.out _)))))
     all_goals (try unfold ciphV)
     refine wpQuiet_nil ?_
     rintro _ ⟨E, rfl⟩
     clear hov_w_heap_size___1
     replace Hb := Lib.hid (Hb.out.up E.h)
     replace Hr := Lib.hid (Hr.out.up E.h)
     replace Hp := Lib.hid (Hp.out.up E.h)
     replace HK3 := Lib.hid (Kept.up HK3.out E.h)
     replace HB := hbu HB E.h
     replace HZS := sz HZS E.h.size
     obtain ⟨w3, hq9⟩ : ∃ W9 : World, E.w = W9 := ⟨_, rfl⟩
     rw [hq9] at Hb Hr Hp HK3 HB HZS ⊢
     clear hq9 E c1 c2
     go_wp2_with fail
     refine (HQU.out _ Hp.out).mono ?_
     rintro e wq ⟨rfl, hq1, hk1⟩
     have HQ1 := Lib.hid hq1
     have HK4 := Lib.hid (HK3.out.trans hk1)
     clear hq1 hk1 HQU HP1 HP2
     go_wp2_with fail
     go_roundw
     case rel => exact ⟨i + 1, by omega, by go_num, by rw [HS.out]; exact HQ1, HK4⟩
     case measure => simp [intOf]; omega
    ·have hi8' : i = 8 := by omega
     subst hi8'
     have HQ := Hp
     rw [← hrs.out] at HQ
     have HK5 := Lib.hid (HK1.out.trans HK3.out)
     go_wp2_with fail
     go_roundw
     case rel => exact ⟨k + 1, by omega, by go_num, HQ, HK5⟩
     case measure => simp [intOf]; omega
  ·have hk' : k = 10 := by omega
   subst hk'
   rw [roundsB_all] at Hp
   have HSL := Lib.hid (stirB_len v m)
   obtain ⟨S, hS⟩ : ∃ S, stirB v m = S := ⟨_, rfl⟩
   rw [hS] at Hp HSL
   have HS := Lib.hid hS
   clear hS
   have HSI := Lib.hid (show (Try.prog.info? 287).map (·.size) = some (wlV S).length by rw [wlV_len, HSL.out, HV.out]; exact infoPool)
   have HSJ := Lib.hid (show (Try.prog.info? 226).map (·.size) = some (wlV S).length by rw [wlV_len, HSL.out, HV.out]; exact info16)
   have HZ := Lib.hid (show (wlV S).length = (wlV (zw 16)).length by rw [wlV_len, wlV_len, HSL.out, HV.out]; rfl)
   obtain ⟨w5, hq5, hg5, hz5, hr5⟩ := puts Hr 0 (wlV S) (wlV S) (putL_all _ _ HZ.out)
   have HB5 := hbg HB hg5 (by omega)
   go_wp2_with (first | refine wpList_load_mid rfl 287 (.tmp 5) rfl w1.heap.size 0 rfl (wlV S) _ Hp.out.range Try.underlying287 rfl HSI.out ?_ | refine wpList_store_mid rfl 226 (.tmp 4) (.tmp 32) rfl (w.heap.size + 2) 0 (wlV S).toArray rfl rfl (Hr.out.there (by simp [HZ.out])) (by simpa using HSJ.out) (all_oneCell_toArray (wl_one S)) ?_)
   rw [hq5]
   exact ret_arr Try.results209 hr5.out _ rfl Try.underlying226 rfl HSJ.out rfl ⟨by rw [HS.out], HB5.out⟩
end Go.Proofs.Ytjmeakfjfpnciaa
namespace Go.Proofs.Ytjmeakfjfpnciaa
open Go.RowKit
end Go.Proofs.Ytjmeakfjfpnciaa
namespace Go.Proofs.Ytjmeakfjfpnciaa
open Go.RowKit
theorem info8 : (Try.prog.info? 224).map (·.size) = some 8 := by kernel_rfl
theorem infoW : (Try.prog.info? 221).map (·.size) = some 1 := by kernel_rfl
def startV : WL := startB
theorem startB_len : startV.length = 8 := rfl
theorem start_any (w : World) : Calls Try.prog 203 #[] w fun e w' => e = .returned (.agg (wlV startV).toArray) ∧ Below w.heap.size w w' := by
 go_enter Try.func203, Try.ntmps203
 go_wp2_with fail
 obtain ⟨w1, hq1, hb9, hz9, Hr⟩ := new1 w 224 [.int .u32 1779033703, .int .u32 3144134277, .int .u32 1013904242, .int .u32 2773480762, .int .u32 1359893119, .int .u32 2600822924, .int .u32 528734635, .int .u32 1541459225]
 rw [hq1]
 clear hq1
 have HB := Lib.hid hb9
 have HZS := hz9
 clear hb9 hz9
 have r_ := Hr.out.c8
 simp [bodyPost, results, Try.results203, go_sem, r_]
 exact ⟨rfl, HB.out⟩
theorem wlV_app (l m : WL) : wlV l ++ wlV m = wlV (l ++ m) := by unfold wlV; rw [List.map_append]
theorem pre_copy1 (h : WL) (hh : h.length = 8) : putL (wlV (zw 16)) 0 (wlV h) = wlV (h ++ zw 8) := by
 rw [putL_eq _ _ _ (by rw [wlV_len, wlV_len, hh]; decide), List.take_zero, List.nil_append, wlV_len, hh, ← wlV_app]
 rfl
theorem pre_copy2 (h : WL) (hh : h.length = 8) : putL (wlV (h ++ zw 8)) 8 (wlV startV) = wlV (h ++ startV) := by
 have h8 : (wlV h).length = 8 := by rw [wlV_len, hh]
 rw [putL_eq _ _ _ (by rw [wlV_len, wlV_len, List.length_append, hh]; decide), ← wlV_app, List.take_append_of_le_length (by omega), List.take_of_length_le (by omega), wlV_len, startB_len, List.drop_eq_nil_of_le (by rw [List.length_append, h8, wlV_len]; decide), List.append_nil, wlV_app]
theorem pre_cell (h : WL) (hh : h.length = 8) (j : Nat) (hj : j < 8) : (wlV (h ++ startV))[8 + j]? = (wlV startV)[j]? := by
 rw [← wlV_app, List.getElem?_append_right (by rw [wlV_len, hh]; omega), wlV_len, hh, show 8 + j - 8 = j by omega]
theorem wl_ne (l : WL) (i j : Nat) (x : BitVec 32) (h : i ≠ j) : (wlV (l.set i x))[j]? = (wlV l)[j]? := by rw [← wlV_set, List.getElem?_set_ne h]
theorem xor_lo (n : Nat) : bits BinOp.xor IntKind.u32 1359893119 ((n : Int) % 4294967296) = ((startB.getD 4 0 ^^^ BitVec.ofNat 32 n).toNat : Int) := by
 rw [← bits_xor, BitVec.toNat_ofNat]; rfl
theorem xor_hi (n : Nat) (hn : n < 18446744073709551616) : bits BinOp.xor IntKind.u32 2600822924 ((n : Int) / 4294967296) = ((startB.getD 5 0 ^^^ BitVec.ofNat 32 (n / 4294967296)).toNat : Int) := by
 rw [← bits_xor, BitVec.toNat_ofNat, Nat.mod_eq_of_lt (show n / 4294967296 < 2 ^ 32 by omega)]; rfl
theorem Press_any (h m : WL) (hh : h.length = 8) (hm : m.length = 16) (n : Nat) (hn : n < 18446744073709551616) (last : Bool) (w : World) :
  Calls Try.prog 204 #[.agg (wlV h).toArray, .agg (wlV m).toArray, .int .u64 (n : Int), .bool last] w fun e w' => e = .returned (.agg (wlV (pressB h m n last)).toArray) ∧ Below w.heap.size w w' := by
 have HH := Lib.hid hh
 have HM := Lib.hid hm
 have HL8 := Lib.hid (show (wlV h).length = 8 by rw [wlV_len, hh])
 have HI8 := Lib.hid (show (Try.prog.info? 224).map (·.size) = some (wlV startV).length from info8)
 have HZ8 := Lib.hid (show (wlV (zw 8)).length = (wlV startV).length from rfl)
 have HIM := Lib.hid (show (Try.prog.info? 226).map (·.size) = some (wlV m).length by rw [wlV_len, hm]; exact info16)
 have hz : (#[.int .u32 0, .int .u32 0, .int .u32 0, .int .u32 0, .int .u32 0, .int .u32 0, .int .u32 0, .int .u32 0, .int .u32 0, .int .u32 0, .int .u32 0, .int .u32 0, .int .u32 0, .int .u32 0, .int .u32 0, .int .u32 0] : Array Value) = (wlV (zw 16)).toArray := rfl
 have hz8 : (#[.int .u32 0, .int .u32 0, .int .u32 0, .int .u32 0, .int .u32 0, .int .u32 0, .int .u32 0, .int .u32 0] : Array Value) = (wlV (zw 8)).toArray := rfl
 have E1 := Lib.hid (pre_copy1 h hh)
 have E2 := Lib.hid (pre_copy2 h hh)
 have hx12 := xor_lo n
 have hx13 := xor_hi n hn
 clear hh hm
 go_enter Try.func204, Try.ntmps204
 go_upto_region 2 with (fail)
 obtain ⟨w1, hq1, hb9, hz9, Ha, Hb, Hr, Hv⟩ := new4 w 224 (wlV h) 226 (wlV m) 224 (wlV (zw 8)) 226 (wlV (zw 16))
 rw [hq1]
 clear hq1
 have HB := Lib.hid hb9
 have HZS := hz9
 clear hb9 hz9
 go_wp2_with fail
 refine (start_any w1).mono ?_
 rintro e w2 ⟨rfl, hb9⟩
 replace Ha := Lib.hid (Ha.out.up hb9)
 replace Hb := Lib.hid (Hb.out.up hb9)
 replace Hr := Lib.hid (Hr.out.up hb9)
 replace Hv := Lib.hid (Hv.out.up hb9)
 replace HB := hbu HB hb9
 replace HZS := sz HZS hb9.size
 clear hb9
 go_upto_region 3 with (refine wpList_store_new rfl 224 224 (.tmp 10) (.tmp 13) rfl (wlV (zw 8)) (wlV startV) rfl rfl HI8.out HZ8.out (wl_one startV) ?_)
 obtain ⟨w3, hq3, hb9, hz9, Hs⟩ := new1 w2 224 (wlV startV)
 rw [hq3]
 clear hq3
 replace Ha := Lib.hid (Ha.out.up hb9)
 replace Hb := Lib.hid (Hb.out.up hb9)
 replace Hr := Lib.hid (Hr.out.up hb9)
 replace Hv := Lib.hid (Hv.out.up hb9)
 replace HB := hbu HB hb9
 replace HZS := sz HZS hz9.out
 clear hb9 hz9
 go_simp
 refine wp_region_otail 2 (by kernel_rfl) (by kernel_rfl) ?_
 simp only [List.take_succ_cons, List.take_zero, List.drop_succ_cons, List.drop_zero]
 repeat (go_big_quiet_step (first | fail))
 all_goals (try unfold elV limbV)
 repeat (go_big_quiet_step (first | fail))
 all_goals (try unfold elV limbV)
 repeat (go_big_quiet_step (first | fail))
 all_goals (try unfold ciphV)
 refine wpQuiet_nil ?_
 rintro _ ⟨E, rfl⟩
 replace Ha := Lib.hid (Ha.out.up E.h)
 replace Hb := Lib.hid (Hb.out.up E.h)
 replace Hr := Lib.hid (Hr.out.up E.h)
 replace Hv := Lib.hid (Hv.out.up E.h)
 replace Hs := Lib.hid (Hs.out.up E.h)
 replace HB := hbu HB E.h
 replace HZS := sz HZS E.h.size
 obtain ⟨w4, hq9⟩ : ∃ W9 : World, E.w = W9 := ⟨_, rfl⟩
 rw [hq9] at Ha Hb Hr Hv Hs HB HZS ⊢
 clear hq9 E
 refine wpList_copyB rfl (.tmp 14) (.tmp 15) 282 282 rfl 221 Try.underlying282 infoW (w.heap.size + 3) 0 8 16 ⟨w.heap.size, 0, none⟩ 8 8 rfl rfl (wlV (zw 16)) 226 Hv.out (wlV h) (by rw [HL8.out]; rfl) (fun j v hv => by rw [Addr.add_mid]; exact Ha.out.range j v hv) (by rw [HL8.out]; decide) (wl_one h) _ E1.out ?_
 intro wc hg9 hz9 hx9
 replace Ha := Lib.hid (Ha.out.grown hg9.out (sne (by have g0 := HZS.out; omega)))
 replace Hb := Lib.hid (Hb.out.grown hg9.out (sne (by have g0 := HZS.out; omega)))
 replace Hr := Lib.hid (Hr.out.grown hg9.out (sne (by have g0 := HZS.out; omega)))
 replace Hs := Lib.hid (Hs.out.grown hg9.out (sne (by have g0 := HZS.out; omega)))
 replace HB := hbg HB hg9 (by have g0 := HZS.out; omega)
 replace HZS := sz HZS hz9.out
 replace Hv := hx9
 clear hx9 hg9 hz9
 go_wp2_with fail
 go_simp
 refine wp_region_otail 2 (by kernel_rfl) (by kernel_rfl) ?_
 simp only [List.take_succ_cons, List.take_zero, List.drop_succ_cons, List.drop_zero]
 repeat (go_big_quiet_step (first | fail))
 all_goals (try unfold elV limbV)
 repeat (go_big_quiet_step (first | fail))
 all_goals (try unfold elV limbV)
 repeat (go_big_quiet_step (first | fail))
 all_goals (try unfold ciphV)
 refine wpQuiet_nil ?_
 rintro _ ⟨E, rfl⟩
 replace Ha := Lib.hid (Ha.out.up E.h)
 replace Hb := Lib.hid (Hb.out.up E.h)
 replace Hr := Lib.hid (Hr.out.up E.h)
 replace Hv := Lib.hid (Hv.out.up E.h)
 replace Hs := Lib.hid (Hs.out.up E.h)
 replace HB := hbu HB E.h
 replace HZS := sz HZS E.h.size
 obtain ⟨w5, hq9⟩ : ∃ W9 : World, E.w = W9 := ⟨_, rfl⟩
 rw [hq9] at Ha Hb Hr Hv Hs HB HZS ⊢
 clear hq9 E
 refine wpList_copyB rfl (.tmp 17) (.tmp 18) 282 282 rfl 221 Try.underlying282 infoW (w.heap.size + 3) 8 8 8 ⟨w2.heap.size, 0, none⟩ 8 8 rfl rfl (wlV (h ++ zw 8)) 226 Hv.out (wlV startV) rfl (fun j v hv => by rw [Addr.add_mid]; exact Hs.out.range j v hv) (by rw [wlV_len, wlV_len, List.length_append, HH.out]; decide) (wl_one startV) _ E2.out ?_
 intro wd hg9 hz9 hx9
 replace Ha := Lib.hid (Ha.out.grown hg9.out (sne (by have g0 := HZS.out; omega)))
 replace Hb := Lib.hid (Hb.out.grown hg9.out (sne (by have g0 := HZS.out; omega)))
 replace Hr := Lib.hid (Hr.out.grown hg9.out (sne (by have g0 := HZS.out; omega)))
 replace Hs := Lib.hid (Hs.out.grown hg9.out (sne (by have g0 := HZS.out; omega)))
 replace HB := hbg HB hg9 (by have g0 := HZS.out; omega)
 replace HZS := sz HZS hz9.out
 replace Hv := hx9
 clear hx9 hg9 hz9 Hs
 have c12 : wd.cell? ⟨w.heap.size + 3, 12, none⟩ = some (.int .u32 1359893119) := Hv.out.cell (by rw [show 12 = 8 + 4 from rfl, pre_cell h HH.out 4 (by decide)]; rfl)
 obtain ⟨z12, e12⟩ : ∃ z, startB.getD 4 0 ^^^ BitVec.ofNat 32 n = z := ⟨_, rfl⟩
 obtain ⟨z13, e13⟩ : ∃ z, startB.getD 5 0 ^^^ BitVec.ofNat 32 (n / 4294967296) = z := ⟨_, rfl⟩
 rw [e12] at hx12
 rw [e13] at hx13
 have HPR := Lib.hid (show ∀ b, preB h n b = if b then (((h ++ startV).set 12 z12).set 13 z13).set 14 (~~~ startB.getD 6 0) else ((h ++ startV).set 12 z12).set 13 z13 from fun b => by rw [← e12, ← e13]; rfl)
 clear e12 e13
 have f6_v := Hv.out.frozen
 obtain ⟨w6, hq6, hg9, hz9, hx9⟩ := put1 Hv 12 (.int .u32 (z12.toNat : Int)) _ rfl
 replace Ha := Lib.hid (Ha.out.grown hg9.out (sne (by have g0 := HZS.out; omega)))
 replace Hb := Lib.hid (Hb.out.grown hg9.out (sne (by have g0 := HZS.out; omega)))
 replace Hr := Lib.hid (Hr.out.grown hg9.out (sne (by have g0 := HZS.out; omega)))
 replace HB := hbg HB hg9 (by have g0 := HZS.out; omega)
 replace HZS := sz HZS hz9.out
 replace Hv := hx9
 clear hx9 hg9 hz9
 replace Hv := Lib.hid Hv.out.wset
 go_upto_region 6 with (fail)
 clear c12
 have c13 : w6.cell? ⟨w.heap.size + 3, 13, none⟩ = some (.int .u32 2600822924) := Hv.out.cell (by rw [wl_ne _ _ _ _ (by decide), show 13 = 8 + 5 from rfl, pre_cell h HH.out 5 (by decide)]; rfl)
 have f7_v := Hv.out.frozen
 obtain ⟨w7, hq7, hg9, hz9, hx9⟩ := put1 Hv 13 (.int .u32 (z13.toNat : Int)) _ rfl
 replace Ha := Lib.hid (Ha.out.grown hg9.out (sne (by have g0 := HZS.out; omega)))
 replace Hb := Lib.hid (Hb.out.grown hg9.out (sne (by have g0 := HZS.out; omega)))
 replace Hr := Lib.hid (Hr.out.grown hg9.out (sne (by have g0 := HZS.out; omega)))
 replace HB := hbg HB hg9 (by have g0 := HZS.out; omega)
 replace HZS := sz HZS hz9.out
 replace Hv := hx9
 clear hx9 hg9 hz9
 replace Hv := Lib.hid Hv.out.wset
 go_upto_region 7 with (fail)
 clear c13 hx12 hx13
 have HLV := Lib.hid (show (((h ++ startV).set 12 z12).set 13 z13).length = 16 by rw [List.length_set, List.length_set, List.length_append, HH.out]; rfl)
 have c14 : w7.cell? ⟨w.heap.size + 3, 14, none⟩ = some (.int .u32 528734635) := Hv.out.cell (by rw [wl_ne _ _ _ _ (by decide), wl_ne _ _ _ _ (by decide), show 14 = 8 + 6 from rfl, pre_cell h HH.out 6 (by decide)]; rfl)
 generalize ((h ++ startV).set 12 z12).set 13 z13 = V1 at *
 cases last
 case true =>
  have hx14 : bits BinOp.xor IntKind.u32 IntKind.u32.max 528734635 = ((~~~ startB.getD 6 0).toNat : Int) := by rw [← bits_not]; rfl
  obtain ⟨z14, e14⟩ : ∃ z, ~~~ startB.getD 6 0 = z := ⟨_, rfl⟩
  rw [e14] at hx14 HPR
  clear e14
  have f8_v := Hv.out.frozen
  obtain ⟨w8, hq8, hg9, hz9, hx9⟩ := put1 Hv 14 (.int .u32 (z14.toNat : Int)) _ rfl
  replace Ha := Lib.hid (Ha.out.grown hg9.out (sne (by have g0 := HZS.out; omega)))
  replace Hb := Lib.hid (Hb.out.grown hg9.out (sne (by have g0 := HZS.out; omega)))
  replace Hr := Lib.hid (Hr.out.grown hg9.out (sne (by have g0 := HZS.out; omega)))
  replace HB := hbg HB hg9 (by have g0 := HZS.out; omega)
  replace HZS := sz HZS hz9.out
  replace Hv := hx9
  clear hx9 hg9 hz9
  replace Hv := Lib.hid Hv.out.wset
  have HPV := Lib.hid (show V1.set 14 z14 = preB h n true from (HPR.out true).symm)
  have HVL := Lib.hid (show (preB h n true).length = 16 by rw [← HPV.out, List.length_set]; exact HLV.out)
  rw [HPV.out] at Hv
  clear HPV HPR HLV
  go_upto_region 9 with (fail)
  rw [if_neg (show ¬ (IntKind.u32.signed = true) by decide), hx14, hq8]
  clear c14 hx14
  have HVI := Lib.hid (show (Try.prog.info? 226).map (·.size) = some (wlV (preB h n true)).length by rw [wlV_len, HVL.out]; exact info16)
  have HSA := Lib.hid (fun w => Stir_any (preB h n true) m HVL.out HM.out w)
  have HSL := Lib.hid (stirB_len (preB h n true) m)
  have HPE := Lib.hid (show mixB h (stirB (preB h n true) m) 8 = pressB h m n true from rfl)
  generalize stirB (preB h n true) m = S at *
  generalize preB h n true = V at *
  go_wp2_with (first | refine wpList_load_mid rfl 226 (.tmp 9) rfl (w.heap.size + 3) 0 rfl (wlV V) _ Hv.out.range Try.underlying226 rfl HVI.out ?_ | refine wpList_load_mid rfl 226 (.tmp 5) rfl (w.heap.size + 1) 0 rfl (wlV m) _ Hb.out.range Try.underlying226 rfl HIM.out ?_)
  refine (HSA.out w8).mono ?_
  rintro e w9 ⟨rfl, hb9⟩
  replace Ha := Lib.hid (Ha.out.up hb9)
  replace Hb := Lib.hid (Hb.out.up hb9)
  replace Hr := Lib.hid (Hr.out.up hb9)
  replace Hv := Lib.hid (Hv.out.up hb9)
  replace HB := hbu HB hb9
  replace HZS := sz HZS hb9.size
  clear hb9
  have HIS := Lib.hid (show (Try.prog.info? 226).map (·.size) = some (wlV S).length by rw [wlV_len, HSL.out, HVL.out]; exact info16)
  have HZS2 := Lib.hid (show (wlV (zw 16)).length = (wlV S).length by rw [wlV_len, wlV_len, HSL.out, HVL.out]; rfl)
  go_upto_region 10 with (refine wpList_store_new rfl 226 226 (.tmp 11) (.tmp 40) rfl (wlV (zw 16)) (wlV S) rfl rfl HIS.out HZS2.out (wl_one S) ?_)
  clear HVI HSA HIM HZS2 HIS Hv Hb
  obtain ⟨w10, hq10, hb9, hz9, Hs⟩ := new1 w9 226 (wlV S)
  rw [hq10]
  clear hq10
  replace Ha := Lib.hid (Ha.out.up hb9)
  replace Hr := Lib.hid (Hr.out.up hb9)
  replace HB := hbu HB hb9
  replace HZS := sz HZS hz9.out
  clear hb9 hz9
  rw [show wlV h = wlV (mixB h S 0) by rw [mixB_zero h S HH.out]] at Ha
  clear hz hz8
  have HK := Lib.hid (Kept.refl (fun q9 => q9 = w.heap.size) w10)
  go_wp2_with fail
  clear hq8 f8_v hq7 f7_v hq6 f6_v
  go_loopw [41] (fun c wr => ∃ k : Nat, k ≤ 8 ∧ c = .int .i64 k ∧ Hid (Bx wr w.heap.size 224 (wlV (mixB h S k))) ∧ Hid (Kept (fun q9 => q9 = w.heap.size) w10 wr)) (fun c _ => 8 - (intOf c).toNat)
  case atStart => exact ⟨0, by omega, rfl, Ha, HK⟩
  case round =>
   obtain ⟨k, hk, rfl, HQ, HK1⟩ := hrel
   clear HK
   have hg9 := HK1.out
   clear Ha
   replace Hr := Lib.hid (Bx.keptP (P := fun q9 => q9 = w.heap.size) Hr.out hg9 (show ¬ (w.heap.size + 2 = w.heap.size) by have g0 := HZS.out; omega))
   replace Hs := Lib.hid (Bx.keptP (P := fun q9 => q9 = w.heap.size) Hs.out hg9 (show ¬ (w9.heap.size = w.heap.size) by have g0 := HZS.out; omega))
   replace HB := Lib.hid (Below.keptP HB.out hg9 (by have g0 := HZS.out; omega) (fun q9 h9 => (show w.heap.size ≤ _ by subst h9; have g0 := HZS.out; omega)))
   replace HZS := sz HZS (show w10.heap.size ≤ wr.heap.size from hg9.size)
   clear hg9
   have Ha := HQ
   clear HQ
   have HAL := Lib.hid (mixB_len h S k)
   by_cases hk8 : k < 8
   ·have hs := mixB_succ h S k
    have c1 := wl_cell Ha.out k (by rw [HAL.out]; exact hk8)
    have e1 : (mixB h S k).getD k 0 = h.getD k 0 := by
     show ((mixB h S k)[k]?).getD 0 = _
     rw [List.getElem?_eq_getElem (by rw [HAL.out]; exact hk8)]
     exact (mixB_at h S k k (by rw [HAL.out]; exact hk8)).trans (if_neg (by omega))
    rw [e1] at c1
    have c2 := wl_cell Hs.out k (by rw [HSL.out, HVL.out]; omega)
    have c3 := wl_cell Hs.out (k + 8) (by rw [HSL.out, HVL.out]; omega)
    generalize h.getD k 0 = x at *
    generalize S.getD k 0 = y at *
    generalize S.getD (k + 8) 0 = z at *
    have g1 := bits_xor y z
    obtain ⟨yz, e2⟩ : ∃ u, y ^^^ z = u := ⟨_, rfl⟩
    rw [e2] at g1
    have g2 := bits_xor x yz
    obtain ⟨u, e3⟩ : ∃ u, x ^^^ yz = u := ⟨_, rfl⟩
    rw [e3] at g2
    rw [show x ^^^ y ^^^ z = u by rw [← e3, ← e2, BitVec.xor_assoc]] at hs
    have HSS := Lib.hid hs
    clear hs e1 e2 e3
    generalize mixB h S k = M at *
    go_wp2_with fail
    refine wp_region_otail 13 (by kernel_rfl) (by kernel_rfl) ?_
    simp only [List.take_succ_cons, List.take_zero, List.drop_succ_cons, List.drop_zero]
    have hov_w_heap_size := fun (E : Over wr) o => E.cell (b := w.heap.size) o Ha.out.lt
    have hov_w9_heap_size := fun (E : Over wr) o => E.cell (b := w9.heap.size) o Hs.out.lt
    repeat (go_big_quiet_step (first | fail))
    all_goals (try unfold elV limbV)
    repeat (go_big_quiet_step (first | fail))
    all_goals (try unfold elV limbV)
    repeat (go_big_quiet_step (first | fail))
    all_goals (try unfold ciphV)
    refine wpQuiet_nil ?_
    rintro _ ⟨E, rfl⟩
    clear hov_w_heap_size hov_w9_heap_size
    replace Hr := Lib.hid (Hr.out.up E.h)
    replace Hs := Lib.hid (Hs.out.up E.h)
    replace Ha := Lib.hid (Ha.out.up E.h)
    replace HK1 := Lib.hid (Kept.up HK1.out E.h)
    replace HB := hbu HB E.h
    replace HZS := sz HZS E.h.size
    obtain ⟨w11, hq9⟩ : ∃ W9 : World, E.w = W9 := ⟨_, rfl⟩
    rw [hq9] at Hr Hs Ha HK1 HB HZS ⊢
    clear hq9 E c1 c2 c3
    have c1 := Ha.out.cell (wlV_get M k (by rw [HAL.out]; exact hk8))
    have f12_a := Ha.out.frozen
    obtain ⟨w12, hq12, hg9, hz9, hx9⟩ := put1 Ha k (.int .u32 (u.toNat : Int)) _ rfl
    replace Hr := Lib.hid (Hr.out.grown hg9.out (sne (by have g0 := HZS.out; omega)))
    replace Hs := Lib.hid (Hs.out.grown hg9.out (sne (by have g0 := HZS.out; omega)))
    replace HK1 := Lib.hid (Kept.grown HK1.out hg9.out (fun q9 e9 => by obtain rfl := Option.some.inj e9; exact Or.inr (rfl)))
    replace HB := hbg HB hg9 (by have g0 := HZS.out; omega)
    replace HZS := sz HZS hz9.out
    replace Ha := hx9
    clear hx9 hg9 hz9
    replace Ha := Lib.hid Ha.out.wset
    go_wp2_with fail
    clear hq12 f12_a c1 g1 g2
    have HQ := Ha
    rw [← HSS.out] at HQ
    go_roundw
    case rel => exact ⟨k + 1, by omega, by go_num, HQ, HK1⟩
    case measure => simp [intOf]; omega
   ·have hk' : k = 8 := by omega
    subst hk'
    rw [HPE.out] at Ha
    have HR := Lib.hid (pressB_len h m n true)
    obtain ⟨R, hR⟩ : ∃ R, pressB h m n true = R := ⟨_, rfl⟩
    rw [hR] at Ha HR
    have HRE := Lib.hid hR
    clear hR
    have HRI := Lib.hid (show (Try.prog.info? 224).map (·.size) = some (wlV R).length by rw [wlV_len, HR.out]; exact info8)
    have HRZ := Lib.hid (show (wlV R).length = (wlV (zw 8)).length by rw [wlV_len, wlV_len, HR.out]; rfl)
    obtain ⟨w5, hq5, hg5, hz5, hr5⟩ := puts Hr 0 (wlV R) (wlV R) (putL_all _ _ HRZ.out)
    have HB5 := hbg HB hg5 (by omega)
    go_wp2_with (first | refine wpList_load_mid rfl 224 (.tmp 4) rfl w.heap.size 0 rfl (wlV R) _ Ha.out.range Try.underlying224 rfl HRI.out ?_ | refine wpList_store_mid rfl 224 (.tmp 8) (.tmp 58) rfl (w.heap.size + 2) 0 (wlV R).toArray rfl rfl (Hr.out.there (by simp [HRZ.out])) (by simpa using HRI.out) (all_oneCell_toArray (wl_one R)) ?_)
    rw [hq5]
    exact ret_arr Try.results204 hr5.out _ rfl Try.underlying224 rfl HRI.out rfl ⟨by rw [HRE.out], HB5.out⟩
 case false =>
  have HPV := Lib.hid (show V1 = preB h n false from (HPR.out false).symm)
  have HVL := Lib.hid (show (preB h n false).length = 16 by rw [← HPV.out]; exact HLV.out)
  rw [HPV.out] at Hv
  clear HPV HPR HLV
  go_upto_region 9 with (fail)
  clear c14
  have HVI := Lib.hid (show (Try.prog.info? 226).map (·.size) = some (wlV (preB h n false)).length by rw [wlV_len, HVL.out]; exact info16)
  have HSA := Lib.hid (fun w => Stir_any (preB h n false) m HVL.out HM.out w)
  have HSL := Lib.hid (stirB_len (preB h n false) m)
  have HPE := Lib.hid (show mixB h (stirB (preB h n false) m) 8 = pressB h m n false from rfl)
  generalize stirB (preB h n false) m = S at *
  generalize preB h n false = V at *
  go_wp2_with (first | refine wpList_load_mid rfl 226 (.tmp 9) rfl (w.heap.size + 3) 0 rfl (wlV V) _ Hv.out.range Try.underlying226 rfl HVI.out ?_ | refine wpList_load_mid rfl 226 (.tmp 5) rfl (w.heap.size + 1) 0 rfl (wlV m) _ Hb.out.range Try.underlying226 rfl HIM.out ?_)
  refine (HSA.out w7).mono ?_
  rintro e w8 ⟨rfl, hb9⟩
  replace Ha := Lib.hid (Ha.out.up hb9)
  replace Hb := Lib.hid (Hb.out.up hb9)
  replace Hr := Lib.hid (Hr.out.up hb9)
  replace Hv := Lib.hid (Hv.out.up hb9)
  replace HB := hbu HB hb9
  replace HZS := sz HZS hb9.size
  clear hb9
  have HIS := Lib.hid (show (Try.prog.info? 226).map (·.size) = some (wlV S).length by rw [wlV_len, HSL.out, HVL.out]; exact info16)
  have HZS2 := Lib.hid (show (wlV (zw 16)).length = (wlV S).length by rw [wlV_len, wlV_len, HSL.out, HVL.out]; rfl)
  go_upto_region 10 with (refine wpList_store_new rfl 226 226 (.tmp 11) (.tmp 40) rfl (wlV (zw 16)) (wlV S) rfl rfl HIS.out HZS2.out (wl_one S) ?_)
  clear HVI HSA HIM HZS2 HIS Hv Hb
  obtain ⟨w9, hq9, hb9, hz9, Hs⟩ := new1 w8 226 (wlV S)
  rw [hq9]
  clear hq9
  replace Ha := Lib.hid (Ha.out.up hb9)
  replace Hr := Lib.hid (Hr.out.up hb9)
  replace HB := hbu HB hb9
  replace HZS := sz HZS hz9.out
  clear hb9 hz9
  rw [show wlV h = wlV (mixB h S 0) by rw [mixB_zero h S HH.out]] at Ha
  clear hz hz8
  have HK := Lib.hid (Kept.refl (fun q9 => q9 = w.heap.size) w9)
  go_wp2_with fail
  clear hq7 f7_v hq6 f6_v
  go_loopw [41] (fun c wr => ∃ k : Nat, k ≤ 8 ∧ c = .int .i64 k ∧ Hid (Bx wr w.heap.size 224 (wlV (mixB h S k))) ∧ Hid (Kept (fun q9 => q9 = w.heap.size) w9 wr)) (fun c _ => 8 - (intOf c).toNat)
  case atStart => exact ⟨0, by omega, rfl, Ha, HK⟩
  case round =>
   obtain ⟨k, hk, rfl, HQ, HK1⟩ := hrel
   clear HK
   have hg9 := HK1.out
   clear Ha
   replace Hr := Lib.hid (Bx.keptP (P := fun q9 => q9 = w.heap.size) Hr.out hg9 (show ¬ (w.heap.size + 2 = w.heap.size) by have g0 := HZS.out; omega))
   replace Hs := Lib.hid (Bx.keptP (P := fun q9 => q9 = w.heap.size) Hs.out hg9 (show ¬ (w8.heap.size = w.heap.size) by have g0 := HZS.out; omega))
   replace HB := Lib.hid (Below.keptP HB.out hg9 (by have g0 := HZS.out; omega) (fun q9 h9 => (show w.heap.size ≤ _ by subst h9; have g0 := HZS.out; omega)))
   replace HZS := sz HZS (show w9.heap.size ≤ wr.heap.size from hg9.size)
   clear hg9
   have Ha := HQ
   clear HQ
   have HAL := Lib.hid (mixB_len h S k)
   by_cases hk8 : k < 8
   ·have hs := mixB_succ h S k
    have c1 := wl_cell Ha.out k (by rw [HAL.out]; exact hk8)
    have e1 : (mixB h S k).getD k 0 = h.getD k 0 := by
     show ((mixB h S k)[k]?).getD 0 = _
     rw [List.getElem?_eq_getElem (by rw [HAL.out]; exact hk8)]
     exact (mixB_at h S k k (by rw [HAL.out]; exact hk8)).trans (if_neg (by omega))
    rw [e1] at c1
    have c2 := wl_cell Hs.out k (by rw [HSL.out, HVL.out]; omega)
    have c3 := wl_cell Hs.out (k + 8) (by rw [HSL.out, HVL.out]; omega)
    generalize h.getD k 0 = x at *
    generalize S.getD k 0 = y at *
    generalize S.getD (k + 8) 0 = z at *
    have g1 := bits_xor y z
    obtain ⟨yz, e2⟩ : ∃ u, y ^^^ z = u := ⟨_, rfl⟩
    rw [e2] at g1
    have g2 := bits_xor x yz
    obtain ⟨u, e3⟩ : ∃ u, x ^^^ yz = u := ⟨_, rfl⟩
    rw [e3] at g2
    rw [show x ^^^ y ^^^ z = u by rw [← e3, ← e2, BitVec.xor_assoc]] at hs
    have HSS := Lib.hid hs
    clear hs e1 e2 e3
    generalize mixB h S k = M at *
    go_wp2_with fail
    refine wp_region_otail 13 (by kernel_rfl) (by kernel_rfl) ?_
    simp only [List.take_succ_cons, List.take_zero, List.drop_succ_cons, List.drop_zero]
    have hov_w_heap_size := fun (E : Over wr) o => E.cell (b := w.heap.size) o Ha.out.lt
    have hov_w8_heap_size := fun (E : Over wr) o => E.cell (b := w8.heap.size) o Hs.out.lt
    repeat (go_big_quiet_step (first | fail))
    all_goals (try unfold elV limbV)
    repeat (go_big_quiet_step (first | fail))
    all_goals (try unfold elV limbV)
    repeat (go_big_quiet_step (first | fail))
    all_goals (try unfold ciphV)
    refine wpQuiet_nil ?_
    rintro _ ⟨E, rfl⟩
    clear hov_w_heap_size hov_w8_heap_size
    replace Hr := Lib.hid (Hr.out.up E.h)
    replace Hs := Lib.hid (Hs.out.up E.h)
    replace Ha := Lib.hid (Ha.out.up E.h)
    replace HK1 := Lib.hid (Kept.up HK1.out E.h)
    replace HB := hbu HB E.h
    replace HZS := sz HZS E.h.size
    obtain ⟨w10, hq9⟩ : ∃ W9 : World, E.w = W9 := ⟨_, rfl⟩
    rw [hq9] at Hr Hs Ha HK1 HB HZS ⊢
    clear hq9 E c1 c2 c3
    have c1 := Ha.out.cell (wlV_get M k (by rw [HAL.out]; exact hk8))
    have f11_a := Ha.out.frozen
    obtain ⟨w11, hq11, hg9, hz9, hx9⟩ := put1 Ha k (.int .u32 (u.toNat : Int)) _ rfl
    replace Hr := Lib.hid (Hr.out.grown hg9.out (sne (by have g0 := HZS.out; omega)))
    replace Hs := Lib.hid (Hs.out.grown hg9.out (sne (by have g0 := HZS.out; omega)))
    replace HK1 := Lib.hid (Kept.grown HK1.out hg9.out (fun q9 e9 => by obtain rfl := Option.some.inj e9; exact Or.inr (rfl)))
    replace HB := hbg HB hg9 (by have g0 := HZS.out; omega)
    replace HZS := sz HZS hz9.out
    replace Ha := hx9
    clear hx9 hg9 hz9
    replace Ha := Lib.hid Ha.out.wset
    go_wp2_with fail
    clear hq11 f11_a c1 g1 g2
    have HQ := Ha
    rw [← HSS.out] at HQ
    go_roundw
    case rel => exact ⟨k + 1, by omega, by go_num, HQ, HK1⟩
    case measure => simp [intOf]; omega
   ·have hk' : k = 8 := by omega
    subst hk'
    rw [HPE.out] at Ha
    have HR := Lib.hid (pressB_len h m n false)
    obtain ⟨R, hR⟩ : ∃ R, pressB h m n false = R := ⟨_, rfl⟩
    rw [hR] at Ha HR
    have HRE := Lib.hid hR
    clear hR
    have HRI := Lib.hid (show (Try.prog.info? 224).map (·.size) = some (wlV R).length by rw [wlV_len, HR.out]; exact info8)
    have HRZ := Lib.hid (show (wlV R).length = (wlV (zw 8)).length by rw [wlV_len, wlV_len, HR.out]; rfl)
    obtain ⟨w5, hq5, hg5, hz5, hr5⟩ := puts Hr 0 (wlV R) (wlV R) (putL_all _ _ HRZ.out)
    have HB5 := hbg HB hg5 (by omega)
    go_wp2_with (first | refine wpList_load_mid rfl 224 (.tmp 4) rfl w.heap.size 0 rfl (wlV R) _ Ha.out.range Try.underlying224 rfl HRI.out ?_ | refine wpList_store_mid rfl 224 (.tmp 8) (.tmp 58) rfl (w.heap.size + 2) 0 (wlV R).toArray rfl rfl (Hr.out.there (by simp [HRZ.out])) (by simpa using HRI.out) (all_oneCell_toArray (wl_one R)) ?_)
    rw [hq5]
    exact ret_arr Try.results204 hr5.out _ rfl Try.underlying224 rfl HRI.out rfl ⟨by rw [HRE.out], HB5.out⟩
end Go.Proofs.Ytjmeakfjfpnciaa
namespace Go.Proofs.Ytjmeakfjfpnciaa
open Go.RowKit
end Go.Proofs.Ytjmeakfjfpnciaa
namespace Go.Proofs.Ytjmeakfjfpnciaa
open Go.RowKit Go.Lib
def foldC (h : WL) (n : Nat) (hb : List UInt8) (k : Nat) : List Value := wlV h ++ ([.int .u64 (n : Int)] ++ (byteCells hb ++ [.int .i64 (k : Int)]))
section
variable {h : WL} {n k : Nat} {hb : List UInt8}
theorem foldC_len (hh : h.length = 8) (hl : hb.length = 64) : (foldC h n hb k).length = 74 := by
 unfold foldC; simp [wlV_len, hh, hl, byteCells_length]
theorem foldC_n (hh : h.length = 8) : (foldC h n hb k)[8]? = some (.int .u64 (n : Int)) := by
 unfold foldC
 rw [List.getElem?_append_right (by rw [wlV_len, hh]; exact Nat.le_refl _), wlV_len, hh]
 rfl
theorem foldC_k (hh : h.length = 8) (hl : hb.length = 64) : (foldC h n hb k)[73]? = some (.int .i64 (k : Int)) := by
 unfold foldC
 rw [List.getElem?_append_right (by rw [wlV_len, hh]; decide), wlV_len, hh, List.getElem?_append_right (by simp), List.getElem?_append_right (by rw [byteCells_length, hl]; simp), byteCells_length, hl]
 rfl
theorem foldC_setn (hh : h.length = 8) (m : Nat) : (foldC h n hb k).set 8 (.int .u64 (m : Int)) = foldC h m hb k := by
 unfold foldC
 rw [List.set_append_right _ _ (by rw [wlV_len, hh]; exact Nat.le_refl _), wlV_len, hh]
 rfl
theorem foldC_setk (hh : h.length = 8) (hl : hb.length = 64) (m : Nat) : (foldC h n hb k).set 73 (.int .i64 (m : Int)) = foldC h n hb m := by
 unfold foldC
 rw [List.set_append_right _ _ (by rw [wlV_len, hh]; decide), wlV_len, hh, List.set_append_right _ _ (by simp), List.set_append_right _ _ (by rw [byteCells_length, hl]; simp), byteCells_length, hl]
 rfl
theorem foldC_puth (hh : h.length = 8) (h' : WL) (hh' : h'.length = 8) : putL (foldC h n hb k) 0 (wlV h') = foldC h' n hb k := by
 rw [putL_eq _ _ _ (by unfold foldC; simp [wlV_len, hh, hh']), List.take_zero, List.nil_append, wlV_len, hh', Nat.zero_add]
 unfold foldC
 rw [List.drop_append_of_le_length (by rw [wlV_len, hh]; exact Nat.le_refl _), List.drop_eq_nil_of_le (by rw [wlV_len, hh]; exact Nat.le_refl _), List.nil_append]
theorem byteCells_app (a b : List UInt8) : byteCells (a ++ b) = byteCells a ++ byteCells b := by unfold byteCells; rw [List.map_append]
theorem byteCells_take (a : List UInt8) (j : Nat) : byteCells (a.take j) = (byteCells a).take j := by unfold byteCells; rw [List.map_take]
theorem byteCells_drop (a : List UInt8) (j : Nat) : byteCells (a.drop j) = (byteCells a).drop j := by unfold byteCells; rw [List.map_drop]
theorem foldC_putb (hh : h.length = 8) (hl : hb.length = 64) (j : Nat) (t : List UInt8) (ht : j + t.length ≤ 64) : putL (foldC h n hb k) (9 + j) (byteCells t) = foldC h n (hb.take j ++ t ++ hb.drop (j + t.length)) k := by
 have hw : (wlV h).length = 8 := by rw [wlV_len, hh]
 have hc : (byteCells hb).length = 64 := by rw [byteCells_length, hl]
 rw [putL_eq _ _ _ (by rw [foldC_len hh hl, byteCells_length]; omega), byteCells_length]
 unfold foldC
 rw [byteCells_app, byteCells_app, byteCells_take, byteCells_drop]
 generalize wlV h = H at *
 generalize byteCells hb = X at *
 generalize byteCells t = Y at *
 have e1 : (H ++ ([Value.int .u64 (n : Int)] ++ (X ++ [Value.int .i64 (k : Int)]))).take (9 + j) = H ++ ([.int .u64 (n : Int)] ++ X.take j) := by
  rw [List.take_append, List.take_of_length_le (by omega), hw, show 9 + j - 8 = j + 1 by omega, List.take_append, List.take_of_length_le (by simp), List.length_singleton, show j + 1 - 1 = j by omega, List.take_append_of_le_length (by omega)]
 have e2 : (H ++ ([Value.int .u64 (n : Int)] ++ (X ++ [Value.int .i64 (k : Int)]))).drop (9 + j + t.length) = X.drop (j + t.length) ++ [Value.int .i64 (k : Int)] := by
  rw [List.drop_append, List.drop_eq_nil_of_le (by omega), List.nil_append, hw, show 9 + j + t.length - 8 = j + t.length + 1 by omega, List.drop_append, List.drop_eq_nil_of_le (by simp), List.nil_append, List.length_singleton, show j + t.length + 1 - 1 = j + t.length by omega, List.drop_append_of_le_length (by omega)]
 rw [e1, e2]
 simp
theorem foldC_h {W : World} {b : Nat} {t : TypeId} (hx : Bx W b t (foldC h n hb k)) : W.rangeAt b 0 (wlV h) := hx.part (as1 := []) rfl
theorem foldC_b {W : World} {b : Nat} {t : TypeId} (hh : h.length = 8) (hx : Bx W b t (foldC h n hb k)) : W.rangeAt b 9 (byteCells hb) :=
 Bx.part (as1 := wlV h ++ [.int .u64 (n : Int)]) (bs := [.int .i64 (k : Int)]) (by unfold foldC at hx; simpa using hx) (by simp [wlV_len, hh])
end
def FoldAt (W : World) (b : Nat) (s : List UInt8) : Prop := ∃ h n hb k, Bx W b 266 (foldC h n hb k) ∧ h.length = 8 ∧ Fold s h n hb k ∧ (s = [] ∨ 0 < k)
end Go.Proofs.Ytjmeakfjfpnciaa
namespace Go.Proofs.Ytjmeakfjfpnciaa
open Go.RowKit Go.Lib
theorem info64 : (Try.prog.info? 264).map (·.size) = some 64 := by kernel_rfl
theorem infoB : (Try.prog.info? 5).map (·.size) = some 1 := by kernel_rfl
theorem byte_cell (l : List UInt8) (i : Nat) (h : i < l.length) : (byteCells l)[i]? = some (.int .u8 ((l.getD i 0).toNat : Int)) := by unfold byteCells; simp [List.getD, h]
theorem word_or (l : List UInt8) (k : Nat) (h64 : k < 64) : bits BinOp.or IntKind.u32 ((((wordsB l k).getD (k / 4) 0).toNat : Nat) : Int) (((l.getD k 0).toNat * 256 ^ (k % 4) : Nat) : Int) = (((wordsB l k).getD (k / 4) 0 + BitVec.ofNat 32 ((l.getD k 0).toNat * 256 ^ (k % 4))).toNat : Int) := by
 rw [wordsB_get _ _ _ (by omega)]
 have hb := (l.getD k 0).toNat_lt
 have hr : k % 4 = 0 ∨ k % 4 = 1 ∨ k % 4 = 2 ∨ k % 4 = 3 := by omega
 have h0 := byteW_lt l k (4 * (k / 4))
 have h1 := byteW_lt l k (4 * (k / 4) + 1)
 have h2 := byteW_lt l k (4 * (k / 4) + 2)
 have hz : ∀ j, k ≤ j → byteW l k j = 0 := fun j hj => by unfold byteW; rw [if_neg (by omega)]
 have hlt : (wordB l k (k / 4)).toNat < 256 ^ (k % 4) := by
  unfold wordB
  rw [BitVec.toNat_ofNat]
  rcases hr with hr | hr | hr | hr
  ·rw [hr, hz _ (by omega), hz _ (by omega), hz _ (by omega), hz _ (by omega)]; decide
  ·rw [hr, hz (4 * (k / 4) + 1) (by omega), hz (4 * (k / 4) + 2) (by omega), hz (4 * (k / 4) + 3) (by omega)]
   simp only [Nat.reducePow]; omega
  ·rw [hr, hz (4 * (k / 4) + 2) (by omega), hz (4 * (k / 4) + 3) (by omega)]
   simp only [Nat.reducePow]; omega
  ·rw [hr, hz (4 * (k / 4) + 3) (by omega)]
   simp only [Nat.reducePow]; omega
 generalize wordB l k (k / 4) = W at *
 generalize (l.getD k 0).toNat = c at *
 have hc : c * 256 ^ (k % 4) < 4294967296 := by rcases hr with hr | hr | hr | hr <;> rw [hr] <;> simp only [Nat.reducePow] <;> omega
 have hW := W.isLt
 rw [bits_or _ _ hW hc, BitVec.toNat_add, BitVec.toNat_ofNat, Nat.mod_eq_of_lt hc]
 have e : W.toNat ||| c * 256 ^ (k % 4) = W.toNat + c * 256 ^ (k % 4) := by
  rw [show 256 ^ (k % 4) = 2 ^ (8 * (k % 4)) by rw [Nat.pow_mul], Nat.or_comm, ← Nat.shiftLeft_eq, ← Nat.shiftLeft_add_eq_or_of_lt (by rwa [Nat.pow_mul]), Nat.add_comm]
 rw [e, Nat.mod_eq_of_lt (a := W.toNat + c * 256 ^ (k % 4))]
 rcases hr with hr | hr | hr | hr <;> rw [hr] at hlt ⊢ <;> simp only [Nat.reducePow] at * <;> omega
theorem word_or2 (l : List UInt8) (k : Nat) (h64 : k < 64) : bits BinOp.or IntKind.u32 (((wordsB l k).getD (k / 4) 0).toNat : Int) (((l.getD k 0).toNat : Int) * 2 ^ (8 * (k % 4)) % 4294967296) = (((wordsB l k).getD (k / 4) 0 + BitVec.ofNat 32 ((l.getD k 0).toNat * 256 ^ (k % 4))).toNat : Int) := by
 rw [← word_or l k h64]
 congr 1
 have hb := (l.getD k 0).toNat_lt
 have hr : k % 4 = 0 ∨ k % 4 = 1 ∨ k % 4 = 2 ∨ k % 4 = 3 := by omega
 generalize (l.getD k 0).toNat = c at *
 rcases hr with hr | hr | hr | hr <;> rw [hr] <;> simp <;> omega
theorem words_any (h : WL) (n : Nat) (hb : List UInt8) (k : Nat) (hh : h.length = 8) (hl : hb.length = 64) (b : Nat) (w : World) (hx : Bx w b 266 (foldC h n hb k)) :
  Calls Try.prog 205 #[.pointer (some ⟨b, 0, none⟩)] w fun e w' => e = .returned (.agg (wlV (wordsB hb 64)).toArray) ∧ Below w.heap.size w w' := by
 have HL := Lib.hid hl
 have HI := Lib.hid (show (Try.prog.info? 264).map (·.size) = some (byteCells hb).length by rw [byteCells_length, hl]; exact info64)
 have hz : (#[.int .u32 0, .int .u32 0, .int .u32 0, .int .u32 0, .int .u32 0, .int .u32 0, .int .u32 0, .int .u32 0, .int .u32 0, .int .u32 0, .int .u32 0, .int .u32 0, .int .u32 0, .int .u32 0, .int .u32 0, .int .u32 0] : Array Value) = (wlV (wordsB hb 0)).toArray := by rw [wordsB_zero]; rfl
 have HH := Lib.hid hh
 have Hf := Lib.hid hx
 clear hl hh hx
 go_enter Try.func205, Try.ntmps205
 go_upto_region 1 with (fail)
 obtain ⟨w1, hq1, hb9, hz9, Hr⟩ := new1 w 226 (wlV (wordsB hb 0))
 rw [hq1]
 clear hq1
 replace Hf := Lib.hid (Hf.out.up hb9)
 have HB := Lib.hid hb9
 have HZS := hz9
 clear hb9 hz9
 go_wp2_with (refine wpList_load_mid rfl 264 (.tmp 7) rfl b 9 rfl (byteCells hb) _ (foldC_b HH.out Hf.out) Try.underlying264 rfl HI.out ?_)
 clear hz HI Hf
 have HK := Lib.hid (Kept.refl (fun q9 => q9 = w.heap.size) w1)
 go_loopw [9] (fun c wr => ∃ j : Nat, j ≤ 64 ∧ c = .int .i64 j ∧ Hid (Bx wr w.heap.size 226 (wlV (wordsB hb j))) ∧ Hid (Below w.heap.size w wr)) (fun c _ => 64 - (RowKit.intOf c).toNat)
 case atStart => exact ⟨0, by omega, rfl, Hr, HB⟩
 case round =>
  obtain ⟨j, hj, rfl, HQ, HB2⟩ := hrel
  clear HK HB Hr
  have HB := HB2
  have Hr := HQ
  clear HB2 HQ
  have HWL := Lib.hid (wordsB_len hb j)
  by_cases hj6 : j < 64
  ·have hix := fun W => run_index_arr (P := Try.prog) W 264 5 .u8 64 (byteCells hb) j _ (byte_cell hb j (by rw [HL.out]; exact hj6)) Try.underlying264 (by rw [byteCells_length, HL.out]) infoB Try.underlying5
   have hs := wordsB_succ hb j hj6
   have ho := word_or2 hb j hj6
   have c1 := wl_cell Hr.out (j / 4) (by rw [HWL.out]; omega)
   have a1 : (0 : Int) ≤ ((j / 4 : Nat) : Int) := by omega
   have a2 : ((j / 4 : Nat) : Int) < 16 := by omega
   obtain ⟨Z, hZ⟩ : ∃ Z, (wordsB hb j).getD (j / 4) 0 + BitVec.ofNat 32 ((hb.getD j 0).toNat * 256 ^ (j % 4)) = Z := ⟨_, rfl⟩
   rw [hZ] at ho hs
   have HS := Lib.hid hs
   clear hs hZ
   generalize hb.getD j 0 = cb at *
   generalize (wordsB hb j).getD (j / 4) 0 = X at *
   have hcb := cb.toNat_lt
   have a3 : (0 : Int) ≤ 8 * ((j : Int) % 4) := by omega
   have a4 : 8 * ((j : Int) % 4) ≤ 24 := by omega
   go_wp2_with fail
   refine wp_region_otail 12 (by kernel_rfl) (by kernel_rfl) ?_
   simp only [List.take_succ_cons, List.take_zero, List.drop_succ_cons, List.drop_zero]
   have hov_w_heap_size := fun (E : Over wr) o => E.cell (b := w.heap.size) o Hr.out.lt
   repeat (go_big_quiet_step (first | fail))
   all_goals (try unfold elV limbV)
   repeat (go_big_quiet_step (first | fail))
   all_goals (try unfold elV limbV)
   repeat (go_big_quiet_step (first | fail))
   all_goals (try unfold ciphV)
   refine wpQuiet_nil ?_
   rintro _ ⟨E, rfl⟩
   clear hov_w_heap_size
   replace Hr := Lib.hid (Hr.out.up E.h)
   replace HB := hbu HB E.h
   replace HZS := sz HZS E.h.size
   obtain ⟨w2, hq9⟩ : ∃ W9 : World, E.w = W9 := ⟨_, rfl⟩
   rw [hq9] at Hr HB HZS ⊢
   clear hq9 E c1
   have c1 := Hr.out.cell (wlV_get (wordsB hb j) (j / 4) (by rw [HWL.out]; omega))
   have f3_r := Hr.out.frozen
   obtain ⟨w3, hq3, hg9, hz9, hx9⟩ := put1 Hr (j / 4) (.int .u32 (Z.toNat : Int)) _ rfl
   replace HB := hbg HB hg9 (by have g0 := HZS.out; omega)
   replace HZS := sz HZS hz9.out
   replace Hr := hx9
   clear hx9 hg9 hz9
   replace Hr := Lib.hid Hr.out.wset
   rw [← HS.out] at Hr
   go_wp2_with fail
   clear hq3 f3_r c1 ho hix
   go_roundw
   case rel => exact ⟨j + 1, by omega, by go_num, Hr, HB⟩
   case measure => simp [RowKit.intOf]; omega
  ·have hj' : j = 64 := by omega
   subst hj'
   have HWI := Lib.hid (show (Try.prog.info? 226).map (·.size) = some (wlV (wordsB hb 64)).length by rw [wlV_len, HWL.out]; exact info16)
   obtain ⟨V, hV⟩ : ∃ V, wordsB hb 64 = V := ⟨_, rfl⟩
   rw [hV] at Hr HWI HWL
   have HVE := Lib.hid hV
   clear hV
   obtain ⟨w5, hq5, hg5, hz5, hr5⟩ := puts Hr 0 (wlV V) (wlV V) (putL_all _ _ rfl)
   have HB5 := hbg HB hg5 (by omega)
   go_wp2_with (first | refine wpList_load_mid rfl 226 (.tmp 2) rfl w.heap.size 0 rfl (wlV V) _ Hr.out.range Try.underlying226 rfl HWI.out ?_ | refine wpList_store_mid rfl 226 (.tmp 2) (.tmp 26) rfl w.heap.size 0 (wlV V).toArray rfl rfl (Hr.out.there (by simp)) (by simpa using HWI.out) (all_oneCell_toArray (wl_one V)) ?_)
   rw [hq5]
   exact ret_arr Try.results205 hr5.out _ rfl Try.underlying226 rfl HWI.out rfl ⟨by rw [HVE.out], HB5.out⟩
end Go.Proofs.Ytjmeakfjfpnciaa
namespace Go.Proofs.Ytjmeakfjfpnciaa
open Go.RowKit Go.Lib
def z64 : List UInt8 := List.replicate 64 0
def begC (h : WL) : List Value := foldC h 0 z64 0
theorem infoF : (Try.prog.info? 266).map (·.size) = some 74 := by kernel_rfl
theorem foldC_one (h : WL) (n : Nat) (hb : List UInt8) (k : Nat) : ∀ v ∈ foldC h n hb k, v.oneCell' = true := fun v hv => by
 unfold foldC at hv
 simp only [List.mem_append, List.mem_singleton] at hv
 rcases hv with hv | rfl | hv | rfl
 ·exact wl_one h v hv
 ·rfl
 ·exact byteCells_one hb v hv
 ·rfl
theorem begin_any (w : World) : Calls Try.prog 193 #[.string ⟨#[]⟩] w fun e w' => e = .returned (.agg (foldC h0B 0 z64 0).toArray) ∧ Below w.heap.size w w' := by
 have HI := Lib.hid (show (Try.prog.info? 266).map (·.size) = some (begC startV).length from infoF)
 have HZ := Lib.hid (show (begC (zw 8)).length = (begC startV).length from rfl)
 go_enter Try.func193, Try.ntmps193
 go_upto_region 1 with (fail)
 have hz0 : Try.zeroCells266 = (begC (zw 8)).toArray := by kernel_rfl
 rw [hz0]
 have hs : (wlV startV).toArray = #[.int .u32 1779033703, .int .u32 3144134277, .int .u32 1013904242, .int .u32 2773480762, .int .u32 1359893119, .int .u32 2600822924, .int .u32 528734635, .int .u32 1541459225] := rfl
 obtain ⟨w1, hq1, hb9, hz9, Hr⟩ := new1 w 266 (begC (zw 8))
 rw [hq1]
 clear hq1
 have HB := Lib.hid hb9
 have HZS := hz9
 clear hb9 hz9
 go_wp2_with fail
 refine (start_any w1).mono ?_
 rintro e w2 ⟨rfl, hb9⟩
 replace Hr := Lib.hid (Hr.out.up hb9)
 replace HB := hbu HB hb9
 replace HZS := sz HZS hb9.size
 clear hb9
 have hln : (begC (zw 8)).length = 74 := rfl
 rw [hs]
 go_upto_region 2 with (refine wpList_store_new rfl 266 266 (.tmp 3) (.tmp 5) rfl (begC (zw 8)) (begC startV) rfl rfl HI.out HZ.out (foldC_one _ _ _ _) ?_)
 obtain ⟨w3, hq3, hb9, hz9, Hf⟩ := new1 w2 266 (begC startV)
 rw [hq3]
 clear hq3
 replace Hr := Lib.hid (Hr.out.up hb9)
 replace HB := hbu HB hb9
 replace HZS := sz HZS hz9.out
 clear hb9 hz9 hs hln
 have c0 : w3.cell? ⟨w2.heap.size, 0, none⟩ = some (.int .u32 1779033703) := Hf.out.cell rfl
 have hx0 : bits BinOp.xor IntKind.u32 1779033703 16842784 = 1795745351 := by decide
 have f4_f := Hf.out.frozen
 obtain ⟨w4, hq4, hg9, hz9, hx9⟩ := put1 Hf 0 (.int .u32 1795745351) _ rfl
 replace Hr := Lib.hid (Hr.out.grown hg9.out (sne (by have g0 := HZS.out; omega)))
 replace HB := hbg HB hg9 (by have g0 := HZS.out; omega)
 replace HZS := sz HZS hz9.out
 replace Hf := hx9
 clear hx9 hg9 hz9
 replace Hf := Lib.hid (show Bx w4 w2.heap.size 266 (foldC h0B 0 z64 0) from Hf.out)
 have HI2 := Lib.hid (show (Try.prog.info? 266).map (·.size) = some (foldC h0B 0 z64 0).length from infoF)
 obtain ⟨w5, hq5, hg5, hz5, hr5⟩ := puts Hr 0 (foldC h0B 0 z64 0) (foldC h0B 0 z64 0) (putL_all _ _ rfl)
 have HB5 := hbg HB hg5 (by omega)
 go_wp2_with (first | refine wpList_load_mid rfl 266 (.tmp 3) rfl w2.heap.size 0 rfl (foldC h0B 0 z64 0) _ Hf.out.range Try.underlying266 rfl HI2.out ?_ | refine wpList_store_mid rfl 266 (.tmp 2) (.tmp 25) rfl w.heap.size 0 (foldC h0B 0 z64 0).toArray rfl rfl (Hr.out.there (by simp; decide)) (by simpa using HI2.out) (all_oneCell_toArray (foldC_one _ _ _ _)) ?_)
 rw [hq5]
 exact ret_arr Try.results193 hr5.out _ rfl Try.underlying266 rfl HI2.out rfl ⟨rfl, HB5.out⟩
theorem byte_int (m : Nat) : (((UInt8.ofNat (m % 256)).toNat : Nat) : Int) = (m : Int) % 256 := by
 rw [UInt8.toNat_ofNat_of_lt' (by have := Nat.mod_lt m (show 0 < 256 by decide); exact this)]; omega
theorem four_any (n : Nat) (hn : n < 9223372036854775808) (w : World) : Calls Try.prog 195 #[.int .i64 (n : Int)] w fun e w' => e = .returned (.string (fourS n)) ∧ Below w.heap.size w w' := by
 go_enter Try.func195, Try.ntmps195
 obtain ⟨w1, hq1, hb9, hz9, Hr⟩ := new1 w 5 [.int .u8 ((n : Int) / 16777216 % 256), .int .u8 ((n : Int) / 65536 % 256), .int .u8 ((n : Int) / 256 % 256), .int .u8 ((n : Int) % 256)]
 have HB := Lib.hid hb9
 have HZS := hz9
 clear hb9 hz9
 have r_ := Hr.out.c4
 have hcv := run_convert_bytes_arg (P := Try.prog) w1 155 5 Try.underlying155 Try.underlying5 w.heap.size 0 4 4 [(n : Int) / 16777216 % 256, (n : Int) / 65536 % 256, (n : Int) / 256 % 256, (n : Int) % 256] rfl (fun i hi => by
  rcases (show i = 0 ∨ i = 1 ∨ i = 2 ∨ i = 3 by omega) with rfl | rfl | rfl | rfl
  ·exact Hr.out.cell (i := 0) rfl
  ·exact Hr.out.cell (i := 1) rfl
  ·exact Hr.out.cell (i := 2) rfl
  ·exact Hr.out.cell (i := 3) rfl) 9 Try.underlying9
 go_wp2_with fail
 clear hq1
 go_ret
 exact ⟨rfl, HB.out⟩
end Go.Proofs.Ytjmeakfjfpnciaa
namespace Go.Proofs.Ytjmeakfjfpnciaa
open Go.RowKit Go.Lib
theorem bytesOf_len (x : ByteArray) : (bytesOf x).length = x.size := by unfold bytesOf; rw [Array.length_toList]; rfl
def strLen : Value → Nat
 | .string y => y.size
 | _ => 0
theorem foldC_lay {h : WL} {n k : Nat} {hb : List UInt8} (hh : h.length = 8) (hl : hb.length = 64) (j : Nat) (y : ByteArray) (m : Nat) (hm : ((bytesOf y).take (64 - j)).length = m) (hj : j + m ≤ 64) : putL (foldC h n hb k) (9 + j) ((byteCells y.data.toList).take (64 - j)) = foldC h n (hb.take j ++ (bytesOf y).take (64 - j) ++ hb.drop (j + m)) k := by
 subst hm
 rw [← byteCells_take]
 exact foldC_putb hh hl j ((bytesOf y).take (64 - j)) hj
theorem bytesOf_drop (y : ByteArray) (m : Nat) : bytesOf (y.extract m y.size) = (bytesOf y).drop m := Lib.extract_to_end y m
theorem take_min (y : ByteArray) (m k : Nat) (h : Nat.min y.size k = m) : (bytesOf y).take k = (bytesOf y).take m := by
 rw [← h, List.take_eq_take_iff, bytesOf_len]
 show min k y.size = min (min y.size k) y.size
 omega
theorem take_any (b : Nat) (s : List UInt8) (x : ByteArray) (hsz : s.length + x.size < 4611686018427387904) (w : World) (hF : FoldAt w b s) :
  Calls Try.prog 194 #[.pointer (some ⟨b, 0, none⟩), .string x] w fun e w' => e = .returned (.tuple #[]) ∧ FoldAt w' b (s ++ bytesOf x) ∧ Kept (fun q => q = b) w w' := by
 have HF0 := Lib.hid hF
 have HSZ := Lib.hid hsz
 clear hF hsz
 go_enter Try.func194, Try.ntmps194
 go_wp2_with fail
 go_loopw [1] (fun c wr => ∃ (y : ByteArray) (t : List UInt8), c = .string y ∧ Hid (t ++ bytesOf y = bytesOf x) ∧ Hid (FoldAt wr b (s ++ t)) ∧ Hid (Kept (fun q9 => q9 = b) w wr)) (fun c _ => strLen c)
 case atStart => exact ⟨x, [], rfl, rfl, by rw [List.append_nil]; exact HF0, Lib.hid (Kept.refl _ _)⟩
 case round =>
  obtain ⟨y, t, rfl, HT, HQ, HK⟩ := hrel
  clear HF0
  by_cases hy : 0 < y.size
  ·obtain ⟨h, n, hb, k, hx, hh, hf, h0⟩ := HQ.out
   have Hf := Lib.hid hx
   clear hx h0 HQ
   have hn : n < 4611686018427387904 := by
    have h1 := hf.sum
    have h2 := congrArg List.length HT.out
    have h3 := HSZ.out
    rw [List.length_append] at h1 h2
    rw [bytesOf_len, bytesOf_len] at h2
    omega
   by_cases hk : k = 64
   ·have hke : ((k : Int) == 64) = true := by rw [hk]; rfl
    have HL8 := Lib.hid hh
    have HHB := Lib.hid hf.len
    have HPR := Lib.hid (show Fold (s ++ t) (pressB h (wordsB hb 64) (n + 64) false) (n + 64) hb 0 from (hk ▸ hf).press)
    have HRL := Lib.hid (pressB_len h (wordsB hb 64) (n + 64) false)
    clear hh hf hk
    have c73 := Hf.out.cell (foldC_k HL8.out HHB.out)
    have c8 := Hf.out.cell (foldC_n HL8.out)
    have f1_f := Hf.out.frozen
    obtain ⟨w1, hq1, hg9, hz9, hx9⟩ := put1 Hf 8 (.int .u64 ((n : Int) + 64)) _ rfl
    replace HK := Lib.hid (Kept.grown HK.out hg9.out (fun q9 e9 => by obtain rfl := Option.some.inj e9; exact Or.inr (rfl)))
    have HZS := hz9
    replace Hf := hx9
    clear hx9 hg9 hz9
    go_wp2_with fail
    clear hq1 f1_f c73 c8
    have Hf2 := Lib.hid (show Bx w1 b 266 (foldC h (n + 64) hb k) from by have h9 := Hf.out; rwa [show ((n : Int) + 64) = ((n + 64 : Nat) : Int) from by omega, foldC_setn HL8.out] at h9)
    clear Hf
    have Hf := Hf2
    clear Hf2
    have hN : n + 64 < 18446744073709551616 := by omega
    have hN2 : n + 64 < 4611686018427387904 + 64 := by omega
    generalize n + 64 = N at *
    have c8 := Hf.out.cell (foldC_n HL8.out)
    have HPC := Lib.hid (fun w => Press_any h (wordsB hb 64) HL8.out (wordsB_len _ _) N hN false w)
    have HWC := Lib.hid (fun w hx => words_any h N hb k HL8.out HHB.out b w hx)
    have HI8 := Lib.hid (show (Try.prog.info? 224).map (·.size) = some (wlV h).length by rw [wlV_len, HL8.out]; exact info8)
    obtain ⟨R, hR⟩ : ∃ R, pressB h (wordsB hb 64) N false = R := ⟨_, rfl⟩
    rw [hR] at HPR HRL HPC
    clear hR
    generalize wordsB hb 64 = M at *
    refine wp_region_otail 14 (by kernel_rfl) (by kernel_rfl) ?_
    simp only [List.take_succ_cons, List.take_zero, List.drop_succ_cons, List.drop_zero]
    have hov_b := fun (E : Over w1) o => E.cell (b := b) o Hf.out.lt
    repeat (first | (refine wpQuiet_load rfl 224 (.tmp 23) rfl b 0 rfl (wlV h) _ (fun _ ⟨E, e⟩ => e ▸ foldC_h (Hf.out.up E.h)) Try.underlying224 rfl HI8.out ?_; simp only [Act.put, List.setIfInBounds_toArray, List.set_cons_succ, List.set_cons_zero]) | go_big_quiet_step (first | (go_at_call 205; exact calls_over (HWC.out _ (Hf.out.up (Over.h _)))) | (go_at_call 204; exact calls_over (HPC.out _))))
    all_goals (try unfold elV limbV)
    repeat (first | (refine wpQuiet_load rfl 224 (.tmp 23) rfl b 0 rfl (wlV h) _ (fun _ ⟨E, e⟩ => e ▸ foldC_h (Hf.out.up E.h)) Try.underlying224 rfl HI8.out ?_; simp only [Act.put, List.setIfInBounds_toArray, List.set_cons_succ, List.set_cons_zero]) | go_big_quiet_step (first | (go_at_call 205; exact calls_over (HWC.out _ (Hf.out.up (Over.h _)))) | (go_at_call 204; exact calls_over (HPC.out _))))
    all_goals (try unfold elV limbV)
    repeat (first | (refine wpQuiet_load rfl 224 (.tmp 23) rfl b 0 rfl (wlV h) _ (fun _ ⟨E, e⟩ => e ▸ foldC_h (Hf.out.up E.h)) Try.underlying224 rfl HI8.out ?_; simp only [Act.put, List.setIfInBounds_toArray, List.set_cons_succ, List.set_cons_zero]) | go_big_quiet_step (first | (go_at_call 205; exact calls_over (HWC.out _ (Hf.out.up (Over.h _)))) | (go_at_call 204; exact calls_over (HPC.out _))))
    all_goals (try unfold ciphV)
    refine wpQuiet_nil ?_
    rintro _ ⟨E, rfl⟩
    clear hov_b
    replace Hf := Lib.hid (Hf.out.up E.h)
    replace HK := Lib.hid (Kept.up HK.out E.h)
    replace HZS := sz HZS E.h.size
    obtain ⟨w2, hq9⟩ : ∃ W9 : World, E.w = W9 := ⟨_, rfl⟩
    rw [hq9] at Hf HK HZS ⊢
    clear hq9 E c8 HPC HWC HI8
    have HRI := Lib.hid (show (Try.prog.info? 224).map (·.size) = some (wlV R).length by rw [wlV_len, HRL.out]; exact info8)
    obtain ⟨w5, hq5, hg9, hz9, hx9⟩ := puts Hf 0 (wlV R) _ (foldC_puth HL8.out R HRL.out)
    refine wpList_store_mid rfl 224 (.tmp 33) (.tmp 31) rfl b 0 (wlV R).toArray rfl rfl (Hf.out.there (by rw [foldC_len HL8.out HHB.out, List.size_toArray, wlV_len, HRL.out]; decide)) (by simpa using HRI.out) (all_oneCell_toArray (wl_one R)) ?_
    rw [List.toList_toArray, hq5]
    replace HK := Lib.hid (Kept.grown HK.out hg9.out (fun q9 e9 => by obtain rfl := Option.some.inj e9; exact Or.inr (rfl)))
    replace HZS := sz HZS hz9.out
    replace Hf := hx9
    clear hx9 hg9 hz9 HL8 hq5
    have c73 := Hf.out.cell (foldC_k HRL.out HHB.out)
    have f3_f := Hf.out.frozen
    obtain ⟨w3, hq3, hg9, hz9, hx9⟩ := put1 Hf 73 (.int .i64 0) _ rfl
    replace HK := Lib.hid (Kept.grown HK.out hg9.out (fun q9 e9 => by obtain rfl := Option.some.inj e9; exact Or.inr (rfl)))
    replace HZS := sz HZS hz9.out
    replace Hf := hx9
    clear hx9 hg9 hz9
    go_upto_region 5 with (fail)
    clear c73
    have Hf2 := Lib.hid (show Bx w3 b 266 (foldC R N hb 0) from by have h9 := Hf.out; rwa [show (0 : Int) = ((0 : Nat) : Int) from rfl, foldC_setk HRL.out HHB.out] at h9)
    clear Hf hke
    have Hf := Hf2
    clear Hf2
    have hh := HRL.out
    have hf := HPR.out
    clear HPR HHB HRL HRI
    obtain ⟨z, hz0⟩ : ∃ z : Nat, z = 0 := ⟨0, rfl⟩
    rw [← hz0] at Hf hf
    have hk6 : z < 64 := by omega
    clear hz0
    have HL8 := Lib.hid hh
    have HF := Lib.hid hf
    have HHB := Lib.hid hf.len
    clear hh hf
    have c73 := Hf.out.cell (foldC_k HL8.out HHB.out)
    have k1 : (0 : Int) ≤ (z : Int) := by omega
    have k2 : (z : Int) ≤ 64 := by omega
    go_wp2_with fail
    clear hq3 f3_f
    refine wp_region_otail 9 (by kernel_rfl) (by kernel_rfl) ?_
    simp only [List.take_succ_cons, List.take_zero, List.drop_succ_cons, List.drop_zero]
    have hov_b := fun (E : Over w3) o => E.cell (b := b) o Hf.out.lt
    repeat (go_big_quiet_step (first | fail))
    all_goals (try unfold elV limbV)
    repeat (go_big_quiet_step (first | fail))
    all_goals (try unfold elV limbV)
    repeat (go_big_quiet_step (first | fail))
    all_goals (try unfold ciphV)
    refine wpQuiet_nil ?_
    rintro _ ⟨E, rfl⟩
    clear hov_b
    replace Hf := Lib.hid (Hf.out.up E.h)
    replace HK := Lib.hid (Kept.up HK.out E.h)
    replace HZS := sz HZS E.h.size
    obtain ⟨w4, hq9⟩ : ∃ W9 : World, E.w = W9 := ⟨_, rfl⟩
    rw [hq9] at Hf HK HZS ⊢
    clear hq9 E c73 k1 k2
    obtain ⟨m, hm⟩ : ∃ m, Nat.min y.size (64 - z) = m := ⟨_, rfl⟩
    have hm1 : m ≤ y.size := hm ▸ Nat.min_le_left _ _
    have hm2 : m ≤ 64 - z := hm ▸ Nat.min_le_right _ _
    have hm3 : 0 < m := by rw [← hm]; exact Nat.lt_min.2 ⟨hy, by omega⟩
    have HTL := Lib.hid (show ((bytesOf y).take (64 - z)).length = m by rw [List.length_take, bytesOf_len]; exact (Nat.min_comm _ _).trans hm)
    have HPB := Lib.hid (foldC_lay (n := N) (k := z) HL8.out HHB.out z y m HTL.out (by omega))
    have HFL := Lib.hid (HF.out.lay ((bytesOf y).take (64 - z)) (by rw [HTL.out]; omega))
    rw [HTL.out] at HFL
    generalize hb.take z ++ (bytesOf y).take (64 - z) ++ hb.drop (z + m) = hb2 at *
    have HHB0 := HHB
    clear HF HHB
    refine wpList_copyS rfl (.tmp 44) (.tmp 45) 155 9 rfl 5 Try.underlying155 infoB b (9 + z) (64 - z) (64 - z) y rfl rfl (foldC R N hb z) 266 Hf.out (by rw [foldC_len HL8.out HHB0.out]; omega) _ HPB.out ?_
    intro wc hg9 hz9 hx9
    replace HK := Lib.hid (Kept.grown HK.out hg9.out (fun q9 e9 => by obtain rfl := Option.some.inj e9; exact Or.inr (rfl)))
    replace HZS := sz HZS hz9.out
    replace Hf := hx9
    clear hx9 hg9 hz9
    rw [hm]
    have HM := Lib.hid hm
    clear hm
    have HHB := Lib.hid HFL.out.len
    have c73 := Hf.out.cell (foldC_k HL8.out HHB.out)
    have k3 : (z : Int) + (m : Int) ≤ 64 := by omega
    have f5_f := Hf.out.frozen
    obtain ⟨w5, hq5, hg9, hz9, hx9⟩ := put1 Hf 73 (.int .i64 ((z : Int) + (m : Int))) _ rfl
    replace HK := Lib.hid (Kept.grown HK.out hg9.out (fun q9 e9 => by obtain rfl := Option.some.inj e9; exact Or.inr (rfl)))
    replace HZS := sz HZS hz9.out
    replace Hf := hx9
    clear hx9 hg9 hz9
    go_wp2_with fail
    clear hq5 f5_f c73
    have HY := Lib.hid (show t ++ ((bytesOf y).take (64 - z)) ++ bytesOf (y.extract m y.size) = bytesOf x from by
     rw [bytesOf_drop y m, take_min y m (64 - z) HM.out, List.append_assoc, List.take_append_drop, HT.out])
    refine ⟨⟨_, t ++ (bytesOf y).take (64 - z), rfl, HY, Lib.hid ⟨R, N, hb2, z + m, ?_, HL8.out, ?_, Or.inr (by omega)⟩, HK⟩, ?_⟩
    ·have h9 := Hf.out
     rwa [← Int.natCast_add, foldC_setk HL8.out HHB.out] at h9
    ·rw [← List.append_assoc]; exact HFL.out
    ·show (y.extract m y.size).size < y.size
     simp
     omega
   ·have hk6 : k < 64 := by have := hf.le; omega
    have hke : ((k : Int) == 64) = false := by simp; omega
    have HL8 := Lib.hid hh
    have HF := Lib.hid hf
    have HHB := Lib.hid hf.len
    clear hh hf
    have c73 := Hf.out.cell (foldC_k HL8.out HHB.out)
    have k1 : (0 : Int) ≤ (k : Int) := by omega
    have k2 : (k : Int) ≤ 64 := by omega
    go_wp2_with fail
    refine wp_region_otail 9 (by kernel_rfl) (by kernel_rfl) ?_
    simp only [List.take_succ_cons, List.take_zero, List.drop_succ_cons, List.drop_zero]
    have hov_b := fun (E : Over wr) o => E.cell (b := b) o Hf.out.lt
    repeat (go_big_quiet_step (first | fail))
    all_goals (try unfold elV limbV)
    repeat (go_big_quiet_step (first | fail))
    all_goals (try unfold elV limbV)
    repeat (go_big_quiet_step (first | fail))
    all_goals (try unfold ciphV)
    refine wpQuiet_nil ?_
    rintro _ ⟨E, rfl⟩
    clear hov_b
    replace Hf := Lib.hid (Hf.out.up E.h)
    replace HK := Lib.hid (Kept.up HK.out E.h)
    have HZS := Lib.hid E.h.size
    obtain ⟨w1, hq9⟩ : ∃ W9 : World, E.w = W9 := ⟨_, rfl⟩
    rw [hq9] at Hf HK HZS ⊢
    clear hq9 E c73 k1 k2
    obtain ⟨m, hm⟩ : ∃ m, Nat.min y.size (64 - k) = m := ⟨_, rfl⟩
    have hm1 : m ≤ y.size := hm ▸ Nat.min_le_left _ _
    have hm2 : m ≤ 64 - k := hm ▸ Nat.min_le_right _ _
    have hm3 : 0 < m := by rw [← hm]; exact Nat.lt_min.2 ⟨hy, by omega⟩
    have HTL := Lib.hid (show ((bytesOf y).take (64 - k)).length = m by rw [List.length_take, bytesOf_len]; exact (Nat.min_comm _ _).trans hm)
    have HPB := Lib.hid (foldC_lay (n := n) (k := k) HL8.out HHB.out k y m HTL.out (by omega))
    have HFL := Lib.hid (HF.out.lay ((bytesOf y).take (64 - k)) (by rw [HTL.out]; omega))
    rw [HTL.out] at HFL
    generalize hb.take k ++ (bytesOf y).take (64 - k) ++ hb.drop (k + m) = hb2 at *
    have HHB0 := HHB
    clear HF HHB
    refine wpList_copyS rfl (.tmp 44) (.tmp 45) 155 9 rfl 5 Try.underlying155 infoB b (9 + k) (64 - k) (64 - k) y rfl rfl (foldC h n hb k) 266 Hf.out (by rw [foldC_len HL8.out HHB0.out]; omega) _ HPB.out ?_
    intro wc hg9 hz9 hx9
    replace HK := Lib.hid (Kept.grown HK.out hg9.out (fun q9 e9 => by obtain rfl := Option.some.inj e9; exact Or.inr (rfl)))
    replace HZS := sz HZS hz9.out
    replace Hf := hx9
    clear hx9 hg9 hz9
    rw [hm]
    have HM := Lib.hid hm
    clear hm
    have HHB := Lib.hid HFL.out.len
    have c73 := Hf.out.cell (foldC_k HL8.out HHB.out)
    have k3 : (k : Int) + (m : Int) ≤ 64 := by omega
    have f2_f := Hf.out.frozen
    obtain ⟨w2, hq2, hg9, hz9, hx9⟩ := put1 Hf 73 (.int .i64 ((k : Int) + (m : Int))) _ rfl
    replace HK := Lib.hid (Kept.grown HK.out hg9.out (fun q9 e9 => by obtain rfl := Option.some.inj e9; exact Or.inr (rfl)))
    replace HZS := sz HZS hz9.out
    replace Hf := hx9
    clear hx9 hg9 hz9
    go_wp2_with fail
    clear hq2 f2_f c73
    have HY := Lib.hid (show t ++ ((bytesOf y).take (64 - k)) ++ bytesOf (y.extract m y.size) = bytesOf x from by
     rw [bytesOf_drop y m, take_min y m (64 - k) HM.out, List.append_assoc, List.take_append_drop, HT.out])
    refine ⟨⟨_, t ++ (bytesOf y).take (64 - k), rfl, HY, Lib.hid ⟨h, n, hb2, k + m, ?_, HL8.out, ?_, Or.inr (by omega)⟩, HK⟩, ?_⟩
    ·have h9 := Hf.out
     rwa [← Int.natCast_add, foldC_setk HL8.out HHB.out] at h9
    ·rw [← List.append_assoc]; exact HFL.out
    ·show (y.extract m y.size).size < y.size
     simp
     omega
  ·have hy0 : y.size = 0 := by omega
   have hyn : bytesOf y = [] := List.eq_nil_of_length_eq_zero (by rw [bytesOf_len]; exact hy0)
   have hyd : (y.size : Int) = 0 := by omega
   have HE := Lib.hid (show t = bytesOf x from by have h9 := HT.out; rwa [hyn, List.append_nil] at h9)
   clear hyn hy0 hy HT
   go_wp2_with fail
   go_end0
   exact ⟨rfl, HE.out ▸ HQ.out, HK.out⟩
end Go.Proofs.Ytjmeakfjfpnciaa
namespace Go.Proofs.Ytjmeakfjfpnciaa
open Go.RowKit Go.Lib
theorem zeroB (w : World) : (zeroValue 5).run Try.prog w = .ok (.int .u8 0) w := by kernel_rfl
theorem clear_cells (m : Nat) : List.replicate m (Value.int .u8 0) = byteCells (List.replicate m 0) := by unfold byteCells; rw [List.map_replicate]; rfl
theorem foldC_clear {h : WL} {n k : Nat} {hb : List UInt8} (hh : h.length = 8) (hl : hb.length = 64) (hk : k ≤ 64) : putL (foldC h n hb k) (9 + k) (List.replicate (64 - k) (Value.int .u8 0)) = foldC h n (hb.take k ++ List.replicate (64 - k) 0) k := by
 rw [clear_cells, foldC_putb hh hl k _ (by rw [List.length_replicate]; omega), List.length_replicate, List.drop_eq_nil_of_le (by omega), List.append_nil]
theorem clear_len {hb : List UInt8} {k : Nat} (hl : hb.length = 64) (hk : k ≤ 64) : (hb.take k ++ List.replicate (64 - k) 0).length = 64 := by simp [hl]; omega
theorem out_snoc (R : WL) (i : Nat) (hi : i < R.length) : byteCells (outB (R.take (i + 1))) = byteCells (outB (R.take i)) ++ [.int .u8 (((R.getD i 0).toNat : Int) % 256), .int .u8 (((R.getD i 0).toNat : Int) / 256 % 256), .int .u8 (((R.getD i 0).toNat : Int) / 65536 % 256), .int .u8 (((R.getD i 0).toNat : Int) / 16777216)] := by
 have e0 : R[i] = R.getD i 0 := by simp [List.getD, hi]
 rw [List.take_succ_eq_append_getElem hi, e0]
 unfold outB
 rw [List.flatMap_append, byteCells_app]
 congr 1
 generalize R.getD i 0 = X
 have e : ∀ m : Nat, Value.int .u8 ((UInt8.ofNat (m % 256)).toNat : Int) = .int .u8 ((m : Int) % 256) := fun m => by rw [byte_int]
 have hX := X.isLt
 simp only [List.flatMap_cons, List.flatMap_nil, List.append_nil, byteCells, List.map_cons, List.map_nil, e]
 rw [show ((X.toNat / 16777216 : Nat) : Int) % 256 = (X.toNat : Int) / 16777216 by omega]
 rfl
theorem out_str (s : List UInt8) : strOfNums ((digB s).map fun b => (b.toNat : Int)) = digS s := by
 unfold strOfNums digS
 rw [List.map_map]
 congr 2
 conv => rhs; rw [← List.map_id (digB s)]
 apply List.map_congr_left
 intro x _
 simp
theorem out_take8 (R : WL) (h : R.length = 8) : R.take 8 = R := List.take_of_length_le (by omega)
theorem row_byte {N : Nat} {w : World} {g n c : Nat} {l : List UInt8} (h : RowO N w 5 1 (.slice (some ⟨g, 0, none⟩) n c) n (byteCells l)) (i : Nat) (hi : i < l.length) : w.cell? ⟨g, 0 + i, none⟩ = some (.int .u8 ((l.map fun b => (b.toNat : Int)).getD i 0)) := by
 obtain ⟨b, o, e, _, hc⟩ := h.sl.at i (by rw [byteCells_length]; exact hi)
 cases e
 rw [hc]
 unfold byteCells
 simp [List.getD, hi]
theorem end_any (b : Nat) (s : List UInt8) (hsz : s.length < 4611686018427387904) (w : World) (hF : FoldAt w b s) :
  Calls Try.prog 196 #[.pointer (some ⟨b, 0, none⟩)] w fun e w' => e = .returned (.string (digS s)) ∧ Kept (fun q => q = b) w w' := by
 obtain ⟨h, n, hb, k, hx, hh, hf, h0⟩ := hF
 have HLB := Lib.hid hx.lt
 have Hf := Lib.hid hx
 have HL8 := Lib.hid hh
 have HHB := Lib.hid hf.len
 have HFN := Lib.hid (hf.fin h0)
 have hk6 : k ≤ 64 := hf.le
 have hn : n + k < 4611686018427387904 := by have := hf.sum; omega
 clear hh hf h0 hsz hx
 go_enter Try.func196, Try.ntmps196
 go_wp2_with fail
 have HZS := HLB
 have HK := Lib.hid (Kept.refl (fun q9 => q9 = b) w)
 have c73 := Hf.out.cell (foldC_k HL8.out HHB.out)
 have c8 := Hf.out.cell (foldC_n HL8.out)
 refine wp_region_otail 12 (by kernel_rfl) (by kernel_rfl) ?_
 simp only [List.take_succ_cons, List.take_zero, List.drop_succ_cons, List.drop_zero]
 have hov_b := fun (E : Over w) o => E.cell (b := b) o Hf.out.lt
 repeat (go_big_quiet_step (first | fail))
 all_goals (try unfold elV limbV)
 repeat (go_big_quiet_step (first | fail))
 all_goals (try unfold elV limbV)
 repeat (go_big_quiet_step (first | fail))
 all_goals (try unfold ciphV)
 refine wpQuiet_nil ?_
 rintro _ ⟨E, rfl⟩
 clear hov_b
 replace Hf := Lib.hid (Hf.out.up E.h)
 replace HK := Lib.hid (Kept.up HK.out E.h)
 replace HZS := sz HZS E.h.size
 obtain ⟨w1, hq9⟩ : ∃ W9 : World, E.w = W9 := ⟨_, rfl⟩
 rw [hq9] at Hf HK HZS ⊢
 clear hq9 E c73 c8
 have c8 := Hf.out.cell (foldC_n HL8.out)
 have f2_f := Hf.out.frozen
 obtain ⟨w2, hq2, hg9, hz9, hx9⟩ := put1 Hf 8 (.int .u64 ((n : Int) + (k : Int))) _ rfl
 replace HK := Lib.hid (Kept.grown HK.out hg9.out (fun q9 e9 => by obtain rfl := Option.some.inj e9; exact Or.inr (rfl)))
 replace HZS := sz HZS hz9.out
 replace Hf := hx9
 clear hx9 hg9 hz9
 go_wp2_with fail
 clear hq2 f2_f c8
 have Hf2 := Lib.hid (show Bx w2 b 266 (foldC h (n + k) hb k) from by have h9 := Hf.out; rwa [← Int.natCast_add, foldC_setn HL8.out] at h9)
 clear Hf
 have Hf := Hf2
 clear Hf2
 generalize n + k = N at *
 have c73 := Hf.out.cell (foldC_k HL8.out HHB.out)
 have HCL := Lib.hid (foldC_clear (n := N) HL8.out HHB.out hk6)
 have HB2 := Lib.hid (clear_len HHB.out hk6)
 generalize hb.take k ++ List.replicate (64 - k) 0 = hb2 at *
 by_cases hk : k = 64
 ·subst hk
  refine wp_region_otail 8 (by kernel_rfl) (by kernel_rfl) ?_
  simp only [List.take_succ_cons, List.take_zero, List.drop_succ_cons, List.drop_zero]
  have hov_b := fun (E : Over w2) o => E.cell (b := b) o Hf.out.lt
  repeat (go_big_quiet_step (first | fail))
  all_goals (try unfold elV limbV)
  repeat (go_big_quiet_step (first | fail))
  all_goals (try unfold elV limbV)
  repeat (go_big_quiet_step (first | fail))
  all_goals (try unfold ciphV)
  refine wpQuiet_nil ?_
  rintro _ ⟨E, rfl⟩
  clear hov_b
  replace Hf := Lib.hid (Hf.out.up E.h)
  replace HK := Lib.hid (Kept.up HK.out E.h)
  replace HZS := sz HZS E.h.size
  obtain ⟨w3, hq9⟩ : ∃ W9 : World, E.w = W9 := ⟨_, rfl⟩
  rw [hq9] at Hf HK HZS ⊢
  clear hq9 E c73
  refine wpList_clearB rfl (.tmp 25) 155 rfl 5 (.int .u8 0) Try.underlying155 zeroB rfl rfl b 9 0 0 rfl (foldC h N hb 64) 266 Hf.out (by rw [foldC_len HL8.out HHB.out]; omega) _ rfl ?_
  intro wc hg9 hz9 hx9
  replace HK := Lib.hid (Kept.grown HK.out hg9.out (fun q9 e9 => by obtain rfl := Option.some.inj e9; exact Or.inr (rfl)))
  replace HZS := sz HZS hz9.out
  replace Hf := hx9
  clear hx9 hg9 hz9
  obtain ⟨k, hk⟩ : ∃ k : Nat, k = 64 := ⟨64, rfl⟩
  have Hf2 := Lib.hid (show Bx wc b 266 (foldC h N hb2 k) from by rw [hk]; have e : foldC h N hb 64 = foldC h N hb2 64 := HCL.out; rw [← e]; exact Hf.out)
  clear Hf
  have Hf := Hf2
  clear Hf2 HCL
  have HCL := HB2
  go_wp2_with fail
  have c8 := Hf.out.cell (foldC_n HL8.out)
  have HPC := Lib.hid (fun w => Press_any h (wordsB hb2 64) HL8.out (wordsB_len _ _) N (by omega) true w)
  have HWC := Lib.hid (fun w hx => words_any h N hb2 k HL8.out HB2.out b w hx)
  have HI8 := Lib.hid (show (Try.prog.info? 224).map (·.size) = some (wlV h).length by rw [wlV_len, HL8.out]; exact info8)
  rw [HFN.out] at HPC
  have HRL := Lib.hid (digW_len s)
  obtain ⟨R, hR⟩ : ∃ R, digW s = R := ⟨_, rfl⟩
  have HRE := Lib.hid hR
  rw [hR] at HPC HRL
  clear hR HFN HCL
  generalize wordsB hb2 64 = M at *
  go_simp
  refine wp_region_otail 14 (by kernel_rfl) (by kernel_rfl) ?_
  simp only [List.take_succ_cons, List.take_zero, List.drop_succ_cons, List.drop_zero]
  have hov_b := fun (E : Over wc) o => E.cell (b := b) o Hf.out.lt
  repeat (first | (refine wpQuiet_load rfl 224 (.tmp 29) rfl b 0 rfl (wlV h) _ (fun _ ⟨E, e⟩ => e ▸ foldC_h (Hf.out.up E.h)) Try.underlying224 rfl HI8.out ?_; simp only [Act.put, List.setIfInBounds_toArray, List.set_cons_succ, List.set_cons_zero]) | go_big_quiet_step (first | (go_at_call 205; exact calls_over (HWC.out _ (Hf.out.up (Over.h _)))) | (go_at_call 204; exact calls_over (HPC.out _))))
  all_goals (try unfold elV limbV)
  repeat (first | (refine wpQuiet_load rfl 224 (.tmp 29) rfl b 0 rfl (wlV h) _ (fun _ ⟨E, e⟩ => e ▸ foldC_h (Hf.out.up E.h)) Try.underlying224 rfl HI8.out ?_; simp only [Act.put, List.setIfInBounds_toArray, List.set_cons_succ, List.set_cons_zero]) | go_big_quiet_step (first | (go_at_call 205; exact calls_over (HWC.out _ (Hf.out.up (Over.h _)))) | (go_at_call 204; exact calls_over (HPC.out _))))
  all_goals (try unfold elV limbV)
  repeat (first | (refine wpQuiet_load rfl 224 (.tmp 29) rfl b 0 rfl (wlV h) _ (fun _ ⟨E, e⟩ => e ▸ foldC_h (Hf.out.up E.h)) Try.underlying224 rfl HI8.out ?_; simp only [Act.put, List.setIfInBounds_toArray, List.set_cons_succ, List.set_cons_zero]) | go_big_quiet_step (first | (go_at_call 205; exact calls_over (HWC.out _ (Hf.out.up (Over.h _)))) | (go_at_call 204; exact calls_over (HPC.out _))))
  all_goals (try unfold ciphV)
  refine wpQuiet_nil ?_
  rintro _ ⟨E, rfl⟩
  clear hov_b
  replace Hf := Lib.hid (Hf.out.up E.h)
  replace HK := Lib.hid (Kept.up HK.out E.h)
  replace HZS := sz HZS E.h.size
  obtain ⟨w4, hq9⟩ : ∃ W9 : World, E.w = W9 := ⟨_, rfl⟩
  rw [hq9] at Hf HK HZS ⊢
  clear hq9 E c8 HPC HWC HI8
  have HRI := Lib.hid (show (Try.prog.info? 224).map (·.size) = some (wlV R).length by rw [wlV_len, HRL.out]; exact info8)
  obtain ⟨wz5, hq5, hg9, hz9, hx9⟩ := puts Hf 0 (wlV R) _ (foldC_puth HL8.out R HRL.out)
  refine wpList_store_mid rfl 224 (.tmp 39) (.tmp 37) rfl b 0 (wlV R).toArray rfl rfl (Hf.out.there (by rw [foldC_len HL8.out HB2.out, List.size_toArray, wlV_len, HRL.out]; decide)) (by simpa using HRI.out) (all_oneCell_toArray (wl_one R)) ?_
  rw [List.toList_toArray, hq5]
  replace HK := Lib.hid (Kept.grown HK.out hg9.out (fun q9 e9 => by obtain rfl := Option.some.inj e9; exact Or.inr (rfl)))
  replace HZS := sz HZS hz9.out
  replace Hf := hx9
  clear hx9 hg9 hz9 HL8 hq5
  obtain ⟨i9, hi9, hz90, hz91, hz92⟩ := info_parts infoByte
  go_wp2_with (at_make; refine wpList_make_own _ rfl _ _ 155 rfl (wz5.heap.size) 5 i9 _ 1 Try.underlying155 hi9 hz90 hz91 _ _ _ (32) rfl rfl ?c1 ?c2 ?c3 ?c4 ?_)
  case c1 => rfl
  case c2 => rw [hz92]; omega
  case c3 => unfold maxLen; omega
  case c4 => have g0 := HZS.out; omega
  intro w5 hown9 hg9
  have hb9 : Below wz5.heap.size wz5 w5 := (Below.refl _ _).grown hg9 (Nat.le_refl _) (fun q hq => by cases hq)
  replace Hf := Lib.hid (Hf.out.up hb9)
  replace HK := Lib.hid (Kept.up HK.out hb9)
  replace HZS := sz HZS hb9.size
  have Hr : Hid (RowO (wz5.heap.size) w5 5 1 (.slice (some ⟨wz5.heap.size, 0, none⟩) 0 (32)) 0 []) := Lib.hid hown9
  clear hb9 hown9 hg9 hi9 hz90 hz91 hz92
  go_wp2_with (refine wpList_load_mid rfl 224 (.tmp 43) rfl b 0 rfl (wlV R) _ (foldC_h Hf.out) Try.underlying224 rfl HRI.out ?_)
  go_loopw [45, 3] (fun c v wr => ∃ i g cap : Nat, i ≤ 8 ∧ c = .int .i64 i ∧ v = .slice (some ⟨g, 0, none⟩) (4 * i) cap ∧ Hid (RowO wz5.heap.size wr 5 1 (.slice (some ⟨g, 0, none⟩) (4 * i) cap) (4 * i) (byteCells (outB (R.take i)))) ∧ Hid (Kept (fun q9 => q9 = b) w wr)) (fun c _ _ => 8 - (RowKit.intOf c).toNat)
  case atStart => exact ⟨0, _, _, by omega, rfl, rfl, Hr, HK⟩
  case round =>
   obtain ⟨i, g, cap, hi, rfl, rfl, HQ, HK1⟩ := hrel
   clear HK Hr Hf
   have HK := HK1
   have Hr := HQ
   clear HK1 HQ
   have HSW := Lib.hid HK.out.size
   have HSM := Lib.hid (Hr.out.lt g rfl)
   replace HZS := sz HZS HSW.out
   replace HZS := sz HZS HSM.out
   by_cases hi8 : i < 8
   ·have hix := fun W => run_index_arr (P := Try.prog) W 224 221 .u32 8 (wlV R) i _ (wlV_get R i (by rw [HRL.out]; exact hi8)) Try.underlying224 (by rw [wlV_len, HRL.out]) infoW Try.underlying221
    have HON := Lib.hid (out_snoc R i (by rw [HRL.out]; exact hi8))
    have hX := (R.getD i 0).isLt
    generalize R.getD i 0 = X at *
    go_upto_region 8 with (fail)
    clear hix
    obtain ⟨i9, hi9, hz90, hz91, hz92⟩ := info_parts infoByte
    go_wp2_with (at_builtin; refine wpList_pushM (wz5.heap.size) wr (by have g0 := HZS.out; omega) rfl _ _ 155 rfl 5 i9 _ 1 1 4 Try.underlying155 hi9 hz90 hz91 hz92 rfl (by omega) (by omega) ((.slice (some ⟨g, 0, none⟩) (4 * i) cap)) ((4 * i)) ((byteCells (outB (R.take i)))) rfl Hr.out _ _ _ rfl rfl rfl (by simp [Value.oneCell']) (by omega) (by unfold maxLen; omega) ?_)
    intro g6 c6 w6 hown9 hg9
    replace HK := Lib.hid (Kept.grown HK.out hg9 (fun q hq => Or.inl (Nat.le_trans (show w.heap.size ≤ wz5.heap.size by have g0 := HZS.out; omega) (Hr.out.lt q hq).1)))
    replace HZS := sz HZS hg9.size
    clear Hr
    have Hr := Lib.hid hown9
    clear hown9 hg9 hi9 hz90 hz91 hz92
    have HQ := Lib.hid (Hr.out.eq (ys := byteCells (outB (R.take (i + 1)))) (m := 4 * (i + 1)) (by rw [HON.out]) rfl)
    go_wp2_with fail
    go_roundw
    case rel => exact ⟨i + 1, _, _, by omega, by go_num, rfl, HQ, HK⟩
    case measure => simp [RowKit.intOf]; omega
   ·have hi8' : i = 8 := by omega
    subst hi8'
    have HQ := Hr.out
    rw [out_take8 R HRL.out, show outB R = digB s by rw [← HRE.out]; rfl] at HQ
    have hcv := run_convert_bytes_arg (P := Try.prog) wr 155 5 Try.underlying155 Try.underlying5 g 0 32 cap ((digB s).map fun b => (b.toNat : Int)) (by rw [List.length_map, digB_len]) (fun j hj => row_byte HQ j (by rw [digB_len]; exact hj)) 9 Try.underlying9
    rw [out_str] at hcv
    clear HQ
    go_wp2_with fail
    go_ret
    exact ⟨rfl, HK.out⟩
 ·have k1 : (0 : Int) ≤ (k : Int) := by omega
  have k2 : (k : Int) ≤ 64 := by omega
  have k3 : k < 64 := by omega
  refine wp_region_otail 8 (by kernel_rfl) (by kernel_rfl) ?_
  simp only [List.take_succ_cons, List.take_zero, List.drop_succ_cons, List.drop_zero]
  have hov_b := fun (E : Over w2) o => E.cell (b := b) o Hf.out.lt
  repeat (go_big_quiet_step (first | fail))
  all_goals (try unfold elV limbV)
  repeat (go_big_quiet_step (first | fail))
  all_goals (try unfold elV limbV)
  repeat (go_big_quiet_step (first | fail))
  all_goals (try unfold ciphV)
  refine wpQuiet_nil ?_
  rintro _ ⟨E, rfl⟩
  clear hov_b
  replace Hf := Lib.hid (Hf.out.up E.h)
  replace HK := Lib.hid (Kept.up HK.out E.h)
  replace HZS := sz HZS E.h.size
  obtain ⟨w3, hq9⟩ : ∃ W9 : World, E.w = W9 := ⟨_, rfl⟩
  rw [hq9] at Hf HK HZS ⊢
  clear hq9 E c73 k1 k2
  refine wpList_clearB rfl (.tmp 25) 155 rfl 5 (.int .u8 0) Try.underlying155 zeroB rfl rfl b (9 + k) (64 - k) (64 - k) rfl (foldC h N hb k) 266 Hf.out (by rw [foldC_len HL8.out HHB.out]; omega) _ HCL.out ?_
  intro wc hg9 hz9 hx9
  replace HK := Lib.hid (Kept.grown HK.out hg9.out (fun q9 e9 => by obtain rfl := Option.some.inj e9; exact Or.inr (rfl)))
  replace HZS := sz HZS hz9.out
  replace Hf := hx9
  clear hx9 hg9 hz9
  go_wp2_with fail
  have c8 := Hf.out.cell (foldC_n HL8.out)
  have HPC := Lib.hid (fun w => Press_any h (wordsB hb2 64) HL8.out (wordsB_len _ _) N (by omega) true w)
  have HWC := Lib.hid (fun w hx => words_any h N hb2 k HL8.out HB2.out b w hx)
  have HI8 := Lib.hid (show (Try.prog.info? 224).map (·.size) = some (wlV h).length by rw [wlV_len, HL8.out]; exact info8)
  rw [HFN.out] at HPC
  have HRL := Lib.hid (digW_len s)
  obtain ⟨R, hR⟩ : ∃ R, digW s = R := ⟨_, rfl⟩
  have HRE := Lib.hid hR
  rw [hR] at HPC HRL
  clear hR HFN HCL
  generalize wordsB hb2 64 = M at *
  go_simp
  refine wp_region_otail 14 (by kernel_rfl) (by kernel_rfl) ?_
  simp only [List.take_succ_cons, List.take_zero, List.drop_succ_cons, List.drop_zero]
  have hov_b := fun (E : Over wc) o => E.cell (b := b) o Hf.out.lt
  repeat (first | (refine wpQuiet_load rfl 224 (.tmp 29) rfl b 0 rfl (wlV h) _ (fun _ ⟨E, e⟩ => e ▸ foldC_h (Hf.out.up E.h)) Try.underlying224 rfl HI8.out ?_; simp only [Act.put, List.setIfInBounds_toArray, List.set_cons_succ, List.set_cons_zero]) | go_big_quiet_step (first | (go_at_call 205; exact calls_over (HWC.out _ (Hf.out.up (Over.h _)))) | (go_at_call 204; exact calls_over (HPC.out _))))
  all_goals (try unfold elV limbV)
  repeat (first | (refine wpQuiet_load rfl 224 (.tmp 29) rfl b 0 rfl (wlV h) _ (fun _ ⟨E, e⟩ => e ▸ foldC_h (Hf.out.up E.h)) Try.underlying224 rfl HI8.out ?_; simp only [Act.put, List.setIfInBounds_toArray, List.set_cons_succ, List.set_cons_zero]) | go_big_quiet_step (first | (go_at_call 205; exact calls_over (HWC.out _ (Hf.out.up (Over.h _)))) | (go_at_call 204; exact calls_over (HPC.out _))))
  all_goals (try unfold elV limbV)
  repeat (first | (refine wpQuiet_load rfl 224 (.tmp 29) rfl b 0 rfl (wlV h) _ (fun _ ⟨E, e⟩ => e ▸ foldC_h (Hf.out.up E.h)) Try.underlying224 rfl HI8.out ?_; simp only [Act.put, List.setIfInBounds_toArray, List.set_cons_succ, List.set_cons_zero]) | go_big_quiet_step (first | (go_at_call 205; exact calls_over (HWC.out _ (Hf.out.up (Over.h _)))) | (go_at_call 204; exact calls_over (HPC.out _))))
  all_goals (try unfold ciphV)
  refine wpQuiet_nil ?_
  rintro _ ⟨E, rfl⟩
  clear hov_b
  replace Hf := Lib.hid (Hf.out.up E.h)
  replace HK := Lib.hid (Kept.up HK.out E.h)
  replace HZS := sz HZS E.h.size
  obtain ⟨w4, hq9⟩ : ∃ W9 : World, E.w = W9 := ⟨_, rfl⟩
  rw [hq9] at Hf HK HZS ⊢
  clear hq9 E c8 HPC HWC HI8
  have HRI := Lib.hid (show (Try.prog.info? 224).map (·.size) = some (wlV R).length by rw [wlV_len, HRL.out]; exact info8)
  obtain ⟨wz5, hq5, hg9, hz9, hx9⟩ := puts Hf 0 (wlV R) _ (foldC_puth HL8.out R HRL.out)
  refine wpList_store_mid rfl 224 (.tmp 39) (.tmp 37) rfl b 0 (wlV R).toArray rfl rfl (Hf.out.there (by rw [foldC_len HL8.out HB2.out, List.size_toArray, wlV_len, HRL.out]; decide)) (by simpa using HRI.out) (all_oneCell_toArray (wl_one R)) ?_
  rw [List.toList_toArray, hq5]
  replace HK := Lib.hid (Kept.grown HK.out hg9.out (fun q9 e9 => by obtain rfl := Option.some.inj e9; exact Or.inr (rfl)))
  replace HZS := sz HZS hz9.out
  replace Hf := hx9
  clear hx9 hg9 hz9 HL8 hq5
  obtain ⟨i9, hi9, hz90, hz91, hz92⟩ := info_parts infoByte
  go_wp2_with (at_make; refine wpList_make_own _ rfl _ _ 155 rfl (wz5.heap.size) 5 i9 _ 1 Try.underlying155 hi9 hz90 hz91 _ _ _ (32) rfl rfl ?c1 ?c2 ?c3 ?c4 ?_)
  case c1 => rfl
  case c2 => rw [hz92]; omega
  case c3 => unfold maxLen; omega
  case c4 => have g0 := HZS.out; omega
  intro w5 hown9 hg9
  have hb9 : Below wz5.heap.size wz5 w5 := (Below.refl _ _).grown hg9 (Nat.le_refl _) (fun q hq => by cases hq)
  replace Hf := Lib.hid (Hf.out.up hb9)
  replace HK := Lib.hid (Kept.up HK.out hb9)
  replace HZS := sz HZS hb9.size
  have Hr : Hid (RowO (wz5.heap.size) w5 5 1 (.slice (some ⟨wz5.heap.size, 0, none⟩) 0 (32)) 0 []) := Lib.hid hown9
  clear hb9 hown9 hg9 hi9 hz90 hz91 hz92
  go_wp2_with (refine wpList_load_mid rfl 224 (.tmp 43) rfl b 0 rfl (wlV R) _ (foldC_h Hf.out) Try.underlying224 rfl HRI.out ?_)
  go_loopw [45, 3] (fun c v wr => ∃ i g cap : Nat, i ≤ 8 ∧ c = .int .i64 i ∧ v = .slice (some ⟨g, 0, none⟩) (4 * i) cap ∧ Hid (RowO wz5.heap.size wr 5 1 (.slice (some ⟨g, 0, none⟩) (4 * i) cap) (4 * i) (byteCells (outB (R.take i)))) ∧ Hid (Kept (fun q9 => q9 = b) w wr)) (fun c _ _ => 8 - (RowKit.intOf c).toNat)
  case atStart => exact ⟨0, _, _, by omega, rfl, rfl, Hr, HK⟩
  case round =>
   obtain ⟨i, g, cap, hi, rfl, rfl, HQ, HK1⟩ := hrel
   clear HK Hr Hf
   have HK := HK1
   have Hr := HQ
   clear HK1 HQ
   have HSW := Lib.hid HK.out.size
   have HSM := Lib.hid (Hr.out.lt g rfl)
   replace HZS := sz HZS HSW.out
   replace HZS := sz HZS HSM.out
   by_cases hi8 : i < 8
   ·have hix := fun W => run_index_arr (P := Try.prog) W 224 221 .u32 8 (wlV R) i _ (wlV_get R i (by rw [HRL.out]; exact hi8)) Try.underlying224 (by rw [wlV_len, HRL.out]) infoW Try.underlying221
    have HON := Lib.hid (out_snoc R i (by rw [HRL.out]; exact hi8))
    have hX := (R.getD i 0).isLt
    generalize R.getD i 0 = X at *
    go_upto_region 8 with (fail)
    clear hix
    obtain ⟨i9, hi9, hz90, hz91, hz92⟩ := info_parts infoByte
    go_wp2_with (at_builtin; refine wpList_pushM (wz5.heap.size) wr (by have g0 := HZS.out; omega) rfl _ _ 155 rfl 5 i9 _ 1 1 4 Try.underlying155 hi9 hz90 hz91 hz92 rfl (by omega) (by omega) ((.slice (some ⟨g, 0, none⟩) (4 * i) cap)) ((4 * i)) ((byteCells (outB (R.take i)))) rfl Hr.out _ _ _ rfl rfl rfl (by simp [Value.oneCell']) (by omega) (by unfold maxLen; omega) ?_)
    intro g6 c6 w6 hown9 hg9
    replace HK := Lib.hid (Kept.grown HK.out hg9 (fun q hq => Or.inl (Nat.le_trans (show w.heap.size ≤ wz5.heap.size by have g0 := HZS.out; omega) (Hr.out.lt q hq).1)))
    replace HZS := sz HZS hg9.size
    clear Hr
    have Hr := Lib.hid hown9
    clear hown9 hg9 hi9 hz90 hz91 hz92
    have HQ := Lib.hid (Hr.out.eq (ys := byteCells (outB (R.take (i + 1)))) (m := 4 * (i + 1)) (by rw [HON.out]) rfl)
    go_wp2_with fail
    go_roundw
    case rel => exact ⟨i + 1, _, _, by omega, by go_num, rfl, HQ, HK⟩
    case measure => simp [RowKit.intOf]; omega
   ·have hi8' : i = 8 := by omega
    subst hi8'
    have HQ := Hr.out
    rw [out_take8 R HRL.out, show outB R = digB s by rw [← HRE.out]; rfl] at HQ
    have hcv := run_convert_bytes_arg (P := Try.prog) wr 155 5 Try.underlying155 Try.underlying5 g 0 32 cap ((digB s).map fun b => (b.toNat : Int)) (by rw [List.length_map, digB_len]) (fun j hj => row_byte HQ j (by rw [digB_len]; exact hj)) 9 Try.underlying9
    rw [out_str] at hcv
    clear HQ
    go_wp2_with fail
    go_ret
    exact ⟨rfl, HK.out⟩
end Go.Proofs.Ytjmeakfjfpnciaa
namespace Go.Proofs.Ytjmeakfjfpnciaa
open Go.RowKit Go.Lib
end Go.Proofs.Ytjmeakfjfpnciaa
namespace Go.Proofs.Ytjmeakfjfpnciaa
open Go.RowKit Go.Lib
theorem FoldAt.up {W W' : World} {b : Nat} {s : List UInt8} (h : FoldAt W b s) (hb : Below W.heap.size W W') : FoldAt W' b s :=
 let ⟨h1, n, hb1, k, hx, h2⟩ := h
 ⟨h1, n, hb1, k, hx.up hb, h2⟩
theorem joinL_eq (label : ByteArray) (ps : List ByteArray) : joinL label ps = (label :: ps).flatMap pfxL := by unfold joinL; rw [List.flatMap_cons]
theorem join_snoc (l : List ByteArray) (j : Nat) (h : j < l.length) : (l.take (j + 1)).flatMap pfxL = (l.take j).flatMap pfxL ++ (fourL l[j].size ++ bytesOf l[j]) := by
 rw [List.take_succ_eq_append_getElem h, List.flatMap_append]
 simp [pfxL]
theorem join_len (l : List ByteArray) (j : Nat) (h : j < l.length) : ((l.take j).flatMap pfxL).length + 4 + l[j].size ≤ (l.flatMap pfxL).length := by
 have e : l.flatMap pfxL = (l.take (j + 1)).flatMap pfxL ++ (l.drop (j + 1)).flatMap pfxL := by rw [← List.flatMap_append, List.take_append_drop]
 rw [e, join_snoc l j h, List.length_append, List.length_append, List.length_append, bytesOf_len, show (fourL l[j].size).length = 4 from rfl]
 omega
theorem fourS_bytes (n : Nat) : bytesOf (fourS n) = fourL n := rfl
theorem fold0 {W : World} {b : Nat} (h : Bx W b 266 (foldC h0B 0 z64 0)) : FoldAt W b [] := ⟨h0B, 0, z64, 0, h, rfl, Fold.nil z64 rfl, Or.inl rfl⟩
theorem join_ge (l : List ByteArray) : 4 * l.length ≤ (l.flatMap pfxL).length := by
 induction l with
 | nil => exact Nat.le_refl _
 | cons x l ih => rw [List.flatMap_cons, List.length_append, List.length_cons]; have : 4 ≤ (pfxL x).length := by unfold pfxL; rw [List.length_append]; exact Nat.le_add_right 4 _
                  omega
theorem tag_any (label : ByteArray) (ps : List ByteArray) (n : Nat) (hpn : ps.length = n) (hsz : (joinL label ps).length < 2305843009213693952) (a : Option Addr) (c : Nat) (w : World) (hX : Sl w w.heap.size a (ps.map Value.string)) :
  Calls Try.prog 158 #[.string label, .slice a n c] w fun e w' => e = .returned (.string (tagS label ps)) ∧ Below w.heap.size w w' := by
 have HPN := Lib.hid hpn
 have HSZ := Lib.hid (show ((label :: ps).flatMap pfxL).length < 2305843009213693952 from joinL_eq label ps ▸ hsz)
 have HX := Lib.hid hX
 have hn6 : n < 1152921504606846976 := by
  have := join_ge (label :: ps)
  rw [← joinL_eq, List.length_cons, hpn] at this
  omega
 clear hpn hsz hX
 have hz0 : Try.zeroCells266 = (begC (zw 8)).toArray := by kernel_rfl
 have HI := Lib.hid (show (Try.prog.info? 266).map (·.size) = some (foldC h0B 0 z64 0).length from infoF)
 have HZ := Lib.hid (show (begC (zw 8)).length = (foldC h0B 0 z64 0).length from rfl)
 go_enter Try.func158, Try.ntmps158
 go_wp2_with fail
 refine (begin_any w).mono ?_
 rintro e w1 ⟨rfl, hb9⟩
 have HB := Lib.hid hb9
 have HZS := Lib.hid hb9.size
 clear hb9
 have HFB := Lib.hid HB.out.size
 go_upto_region 2 with (refine wpList_store_new rfl 266 266 (.tmp 5) (.tmp 8) rfl (begC (zw 8)) (foldC h0B 0 z64 0) rfl rfl HI.out HZ.out (foldC_one _ _ _ _) ?_)
 obtain ⟨w2, hq2, hb9, hz9, Hf⟩ := new1 w1 266 (foldC h0B 0 z64 0)
 rw [hq2]
 clear hq2
 replace HB := hbu HB hb9
 replace HZS := sz HZS hz9.out
 clear hb9 hz9 hz0 HI HZ
 have HF := Lib.hid (fold0 Hf.out)
 clear Hf HZS
 generalize w1.heap.size = fb at *
 go_wp2_with fail
 go_loopw [6] (fun c wr => ∃ j : Nat, j ≤ n + 1 ∧ c = .int .i64 ((j : Int) - 1) ∧ Hid (FoldAt wr fb (((label :: ps).take j).flatMap pfxL)) ∧ Hid (Below w.heap.size w wr)) (fun c _ => (n - RowKit.intOf c).toNat)
 case atStart => exact ⟨0, by omega, rfl, HF, HB⟩
 case round =>
  clear HF HB
  obtain ⟨j, hj, rfl, HF, HB⟩ := hrel
  by_cases hj0 : j = 0
  ·subst hj0
   have hn0 : (0 : Int) ≤ (n : Int) := by omega
   have hl9 := join_len (label :: ps) 0 (by rw [List.length_cons, HPN.out]; omega)
   have hs9 := join_snoc (label :: ps) 0 (by rw [List.length_cons, HPN.out]; omega)
   rw [List.getElem_cons_zero] at hl9 hs9
   have HS9 := Lib.hid hs9
   have hl8 : (((label :: ps).take 0).flatMap pfxL).length + 4 + label.size < 2305843009213693952 := by have := HSZ.out; omega
   clear hs9 hl9
   generalize ((label :: ps).take 0).flatMap pfxL = s at *
   go_wp2_with fail
   refine (four_any label.size (by omega) _).mono ?_
   rintro e w5 ⟨rfl, hb5⟩
   have HF5 := Lib.hid (HF.out.up hb5)
   have HB5 := hbu HB hb5
   clear HF HB hb5
   go_wp2_with fail
   refine (take_any fb s (fourS label.size) (by rw [fourS_size]; omega) _ HF5.out).mono ?_
   rintro e w6 ⟨rfl, hf6, hk6⟩
   have HF6 := Lib.hid hf6
   have HB6 := Lib.hid (Below.keptP HB5.out hk6 HB5.out.size (fun q hq => hq ▸ HFB.out))
   clear HF5 HB5 hf6 hk6
   go_wp2_with fail
   refine (take_any fb _ label (by rw [List.length_append, fourS_bytes]; show s.length + 4 + label.size < _; omega) _ HF6.out).mono ?_
   rintro e w7 ⟨rfl, hf7, hk7⟩
   have HF7 := Lib.hid hf7
   have HB7 := Lib.hid (Below.keptP HB6.out hk7 HB6.out.size (fun q hq => hq ▸ HFB.out))
   clear HF6 HB6 hf7 hk7
   have HQ := Lib.hid (show FoldAt w7 fb (((label :: ps).take (0 + 1)).flatMap pfxL) from by rw [HS9.out, ← List.append_assoc]; exact HF7.out)
   clear HF7 HS9
   go_wp2_with fail
   exact ⟨⟨1, by omega, rfl, HQ, HB7⟩, by simp [RowKit.intOf]⟩
  ·by_cases hjn : j < n + 1
   ·obtain ⟨m, rfl⟩ : ∃ m, j = m + 1 := ⟨j - 1, by omega⟩
    have hmn : m < n := by omega
    have hmp : m < ps.length := by rw [HPN.out]; exact hmn
    have e1 : ((m + 1 : Nat) : Int) - 1 = (m : Int) := by omega
    rw [e1]
    clear e1
    obtain ⟨xb, xo, rfl, hxl, hxc⟩ := (HX.out.up HB.out).at m (by rw [List.length_map]; exact hmp)
    rw [List.getElem_map] at hxc
    obtain ⟨x, hx⟩ : ∃ x, ps[m] = x := ⟨_, rfl⟩
    rw [hx] at hxc
    have hl9 := join_len (label :: ps) (m + 1) (by rw [List.length_cons, HPN.out]; omega)
    have hs9 := join_snoc (label :: ps) (m + 1) (by rw [List.length_cons, HPN.out]; omega)
    rw [List.getElem_cons_succ, hx] at hl9 hs9
    have HS9 := Lib.hid hs9
    have hl8 : (((label :: ps).take (m + 1)).flatMap pfxL).length + 4 + x.size < 2305843009213693952 := by have := HSZ.out; omega
    clear hs9 hl9
    generalize ((label :: ps).take (m + 1)).flatMap pfxL = s at *
    go_wp2_with fail
    refine (four_any x.size (by omega) _).mono ?_
    rintro e w5 ⟨rfl, hb5⟩
    have HF5 := Lib.hid (HF.out.up hb5)
    have HB5 := hbu HB hb5
    clear HF HB hb5
    go_wp2_with fail
    refine (take_any fb s (fourS x.size) (by rw [fourS_size]; omega) _ HF5.out).mono ?_
    rintro e w6 ⟨rfl, hf6, hk6⟩
    have HF6 := Lib.hid hf6
    have HB6 := Lib.hid (Below.keptP HB5.out hk6 HB5.out.size (fun q hq => hq ▸ HFB.out))
    clear HF5 HB5 hf6 hk6
    go_wp2_with fail
    refine (take_any fb _ x (by rw [List.length_append, fourS_bytes]; show s.length + 4 + x.size < _; omega) _ HF6.out).mono ?_
    rintro e w7 ⟨rfl, hf7, hk7⟩
    have HF7 := Lib.hid hf7
    have HB7 := Lib.hid (Below.keptP HB6.out hk7 HB6.out.size (fun q hq => hq ▸ HFB.out))
    clear HF6 HB6 hf7 hk7
    have HQ := Lib.hid (show FoldAt w7 fb (((label :: ps).take ((m + 1) + 1)).flatMap pfxL) from by rw [HS9.out, ← List.append_assoc]; exact HF7.out)
    clear HF7 HS9
    go_wp2_with fail
    exact ⟨⟨m + 1 + 1, by omega, by go_num, HQ, HB7⟩, by simp [RowKit.intOf]; omega⟩
   ·have hjn' : j = n + 1 := by omega
    subst hjn'
    rw [List.take_of_length_le (by rw [List.length_cons, HPN.out]; exact Nat.le_refl _)] at HF
    have HEN := Lib.hid (fun w h => end_any fb ((label :: ps).flatMap pfxL) (by have := HSZ.out; omega) w h)
    have e1 : ((n + 1 : Nat) : Int) - 1 = (n : Int) := by omega
    rw [e1]
    clear e1
    go_wp2_with fail
    refine (HEN.out _ HF.out).mono ?_
    rintro e w5 ⟨rfl, hk5⟩
    have HB5 := Lib.hid (Below.keptP HB.out hk5 HB.out.size (fun q hq => hq ▸ HFB.out))
    clear hk5
    go_wp2_with fail
    go_ret
    exact ⟨rfl, HB5.out⟩
theorem Tag_any (label : ByteArray) (ps : List ByteArray) (n : Nat) (hpn : ps.length = n) (hsz : (joinL label ps).length < 2305843009213693952) (a : Option Addr) (c : Nat) (w : World) (hX : Sl w w.heap.size a (ps.map Value.string)) :
  Calls Try.prog 103 #[.string label, .slice a n c] w fun e w' => e = .returned (.string (tagS label ps)) ∧ Below w.heap.size w w' := by
 have HT := Lib.hid (tag_any label ps n hpn hsz a c w hX)
 clear hpn hsz hX
 go_enter Try.func103, Try.ntmps103
 go_wp2_with fail
 refine (HT.out).mono ?_
 rintro e w1 ⟨rfl, hb9⟩
 have HB := Lib.hid hb9
 have HZS := Lib.hid hb9.size
 clear hb9
 go_wp2_with fail
 go_ret
 exact ⟨rfl, HB.out⟩
end Go.Proofs.Ytjmeakfjfpnciaa
namespace Go.Proofs.Ytjmeakfjfpnciaa
open Go.RowKit Go.Lib
end Go.Proofs.Ytjmeakfjfpnciaa
namespace Go.Proofs.Ytjmeakfjfpnciaa
open Go.RowKit Go.Lib
theorem Sl.ofB {W : World} {b : Nat} {t : TypeId} {cs : List Value} (h : Bx W b t cs) : Sl W W.heap.size (some ⟨b, 0, none⟩) cs := Or.inr ⟨b, 0, rfl, h.lt, fun i v hv => by rw [Nat.zero_add]; exact h.cell hv⟩
theorem join_small (l : ByteArray) (ps : List ByteArray) (_m : Nat) (h : ps.length ≤ 3) (hp : ∀ p ∈ ps, p.size < 140737488355328) (hl : l.size < 140737488355328) : (joinL l ps).length < 2305843009213693952 := by
 have key : ∀ x : ByteArray, (pfxL x).length = 4 + x.size := fun x => by unfold pfxL; rw [List.length_append, bytesOf_len]; rfl
 have gen : ∀ qs : List ByteArray, (∀ p ∈ qs, p.size < 140737488355328) → (qs.flatMap pfxL).length ≤ qs.length * 140737488355332 := by
  intro qs
  induction qs with
  | nil => intro _; simp
  | cons x qs ih =>
   intro hq
   have h1 := ih fun p hp => hq p (List.mem_cons_of_mem _ hp)
   have h2 := hq x (List.mem_cons_self ..)
   rw [List.flatMap_cons, List.length_append, List.length_cons, key]
   omega
 have := gen ps hp
 unfold joinL
 rw [List.length_append, key]
 have h3 : ps.length * 140737488355332 ≤ 3 * 140737488355332 := Nat.mul_le_mul_right _ h
 omega
end Go.Proofs.Ytjmeakfjfpnciaa
namespace Go.Proofs.Ytjmeakfjfpnciaa
open Go.RowKit Go.Lib
end Go.Proofs.Ytjmeakfjfpnciaa
namespace Go.Proofs.Ytjmeakfjfpnciaa
def IsPrime (p : Nat) : Prop := 2 ≤ p ∧ ∀ d, d ∣ p → d = 1 ∨ d = p
theorem IsPrime.coprime_of_not_dvd {p a : Nat} (hp : IsPrime p) (h : ¬ p ∣ a) : Nat.Coprime p a := by
 rcases hp.2 (Nat.gcd p a) (Nat.gcd_dvd_left p a) with h1 | h1
 ·exact h1
 ·exact absurd (h1 ▸ Nat.gcd_dvd_right p a) h
theorem IsPrime.dvd_mul {p a b : Nat} (hp : IsPrime p) (h : p ∣ a * b) : p ∣ a ∨ p ∣ b := by
 by_cases ha : p ∣ a
 ·exact Or.inl ha
 ·exact Or.inr ((hp.coprime_of_not_dvd ha).dvd_of_dvd_mul_left h)
theorem exists_prime_dvd : ∀ n : Nat, 2 ≤ n → ∃ p, IsPrime p ∧ p ∣ n := by
 intro n
 induction n using Nat.strongRecOn with
 | ind n ih =>
  intro hn
  by_cases h : ∃ d, d ∣ n ∧ d ≠ 1 ∧ d ≠ n
  ·obtain ⟨d, hd, h1, h2⟩ := h
   have hd0 : d ≠ 0 := by
    intro e; subst e; have := Nat.eq_zero_of_zero_dvd hd; omega
   have hle := Nat.le_of_dvd (by omega) hd
   obtain ⟨p, hp, hpd⟩ := ih d (by omega) (by omega)
   exact ⟨p, hp, Nat.dvd_trans hpd hd⟩
  ·refine ⟨n, ⟨hn, fun d hd => ?_⟩, Nat.dvd_refl n⟩
   by_cases h1 : d = 1
   ·exact Or.inl h1
   ·by_cases h2 : d = n
    ·exact Or.inr h2
    ·exact absurd ⟨d, hd, h1, h2⟩ h
theorem exists_small_prime {n : Nat} (hn : 2 ≤ n) (h : ¬ IsPrime n) : ∃ p, IsPrime p ∧ p ∣ n ∧ p * p ≤ n := by
 have : ∃ d, d ∣ n ∧ d ≠ 1 ∧ d ≠ n := by
  apply Classical.byContradiction
  intro hc
  apply h
  refine ⟨hn, fun d hd => ?_⟩
  by_cases h1 : d = 1
  ·exact Or.inl h1
  ·by_cases h2 : d = n
   ·exact Or.inr h2
   ·exact absurd ⟨d, hd, h1, h2⟩ hc
 obtain ⟨d, ⟨c, hc⟩, h1, h2⟩ := this
 have hd0 : d ≠ 0 := by intro e; subst e; simp at hc; omega
 have hc0 : c ≠ 0 := by intro e; subst e; simp at hc; omega
 have hc1 : c ≠ 1 := by intro e; subst e; simp at hc; omega
 rcases Nat.le_total d c with hdc | hdc
 ·obtain ⟨p, hp, hpd⟩ := exists_prime_dvd d (by omega)
  refine ⟨p, hp, Nat.dvd_trans hpd ⟨c, hc⟩, ?_⟩
  have := Nat.le_of_dvd (by omega) hpd
  calc p * p ≤ d * d := Nat.mul_le_mul this this
   _ ≤ d * c := Nat.mul_le_mul_left d hdc
   _ = n := hc.symm
 ·obtain ⟨p, hp, hpd⟩ := exists_prime_dvd c (by omega)
  refine ⟨p, hp, Nat.dvd_trans hpd ⟨d, by rw [hc, Nat.mul_comm]⟩, ?_⟩
  have := Nat.le_of_dvd (by omega) hpd
  calc p * p ≤ c * c := Nat.mul_le_mul this this
   _ ≤ d * c := Nat.mul_le_mul_right c hdc
   _ = n := hc.symm
def choose : Nat → Nat → Nat
 | _, 0 => 1
 | 0, _ + 1 => 0
 | n + 1, k + 1 => choose n k + choose n (k + 1)
theorem choose_zero (n : Nat) : choose n 0 = 1 := by cases n <;> rfl
theorem choose_big : ∀ n k, n < k → choose n k = 0
 | 0, _ + 1, _ => rfl
 | n + 1, k + 1, h => by rw [choose, choose_big n k (by omega), choose_big n (k + 1) (by omega)]
theorem choose_self : ∀ n, choose n n = 1
 | 0 => rfl
 | n + 1 => by rw [choose, choose_self n, choose_big n (n + 1) (by omega)]
theorem choose_mul : ∀ n k, choose (n + 1) (k + 1) * (k + 1) = (n + 1) * choose n k
 | 0, 0 => rfl
 | 0, k + 1 => by simp [choose]
 | n + 1, 0 => by
  have h := choose_mul n 0
  have e : choose (n + 1 + 1) (0 + 1) = choose (n + 1) 0 + choose (n + 1) (0 + 1) := rfl
  rw [e]
  simp only [choose_zero, Nat.mul_one, Nat.zero_add] at h ⊢
  omega
 | n + 1, k + 1 => by
  have h1 := choose_mul n k
  have h2 := choose_mul n (k + 1)
  have e : choose (n + 1) (k + 1) = choose n k + choose n (k + 1) := rfl
  have e2 : choose (n + 1 + 1) (k + 1 + 1) = choose (n + 1) (k + 1) + choose (n + 1) (k + 1 + 1) := rfl
  rw [e2, Nat.add_mul, h2]
  have : choose (n + 1) (k + 1) * (k + 1 + 1) = choose (n + 1) (k + 1) * (k + 1) + choose (n + 1) (k + 1) := by
   rw [Nat.mul_add, Nat.mul_one]
  rw [this, h1]
  have : (n + 1 + 1) * choose (n + 1) (k + 1) = (n + 1) * choose (n + 1) (k + 1) + choose (n + 1) (k + 1) := by
   rw [Nat.add_mul (n + 1) 1, Nat.one_mul]
  rw [this, e, Nat.mul_add]
  omega
def binom (a n : Nat) : Nat → Nat
 | 0 => 0
 | m + 1 => binom a n m + choose n m * a ^ m
theorem binom_succ (a n : Nat) : ∀ m, binom a (n + 1) (m + 1) = binom a n (m + 1) + a * binom a n m
 | 0 => by simp [binom, choose_zero]
 | m + 1 => by
  have ih := binom_succ a n m
  rw [binom, ih]
  have e : choose (n + 1) (m + 1) = choose n m + choose n (m + 1) := rfl
  rw [e]
  have e1 : binom a n (m + 1 + 1) = binom a n (m + 1) + choose n (m + 1) * a ^ (m + 1) := rfl
  have e2 : binom a n (m + 1) = binom a n m + choose n m * a ^ m := rfl
  rw [e1, Nat.add_mul]
  have e3 : a * binom a n (m + 1) = a * binom a n m + choose n m * a ^ (m + 1) := by
   rw [e2, Nat.mul_add, Nat.pow_succ]
   have : a * (choose n m * a ^ m) = choose n m * (a ^ m * a) := by
    rw [Nat.mul_left_comm, Nat.mul_comm a]
   rw [this]
  rw [e3]
  omega
theorem binom_all (a : Nat) : ∀ n, (a + 1) ^ n = binom a n (n + 1)
 | 0 => by simp [binom, choose]
 | n + 1 => by
  rw [binom_succ, Nat.pow_succ, binom_all a n]
  have e : binom a n (n + 1 + 1) = binom a n (n + 1) := by
   show binom a n (n + 1) + choose n (n + 1) * a ^ (n + 1) = _
   rw [choose_big n (n + 1) (by omega)]; simp
  rw [e, Nat.mul_add, Nat.mul_one, Nat.mul_comm, Nat.add_comm]
theorem prime_dvd_choose {p : Nat} (hp : IsPrime p) {k : Nat} (h0 : 0 < k) (h1 : k < p) : p ∣ choose p k := by
 obtain ⟨n, rfl⟩ : ∃ n, p = n + 1 := ⟨p - 1, by have := hp.1; omega⟩
 obtain ⟨j, rfl⟩ : ∃ j, k = j + 1 := ⟨k - 1, by omega⟩
 have h := choose_mul n j
 have : (n + 1) ∣ choose (n + 1) (j + 1) * (j + 1) := ⟨choose n j, h⟩
 rcases hp.dvd_mul this with h | h
 ·exact h
 ·have := Nat.le_of_dvd (by omega) h; omega
theorem binom_mod {p : Nat} (hp : IsPrime p) (a : Nat) : ∀ m, m < p → binom a p (m + 1) % p = 1 % p
 | 0, _ => by simp [binom, choose_zero]
 | m + 1, h => by
  rw [binom, Nat.add_mod, binom_mod hp a m (by omega)]
  have : choose p (m + 1) * a ^ (m + 1) % p = 0 :=
   Nat.mod_eq_zero_of_dvd (Nat.dvd_trans (prime_dvd_choose hp (by omega) h) ⟨_, rfl⟩)
  rw [this]; simp
theorem succ_pow_mod {p : Nat} (hp : IsPrime p) (a : Nat) : (a + 1) ^ p % p = (a ^ p + 1) % p := by
 have h2 := hp.1
 rw [binom_all]
 show (binom a p p + choose p p * a ^ p) % p = _
 have e := binom_mod hp a (p - 1) (by omega)
 rw [show p - 1 + 1 = p by omega] at e
 rw [choose_self, Nat.one_mul, Nat.add_mod, e, ← Nat.add_mod, Nat.add_comm]
theorem pow_prime_mod {p : Nat} (hp : IsPrime p) : ∀ a : Nat, a ^ p % p = a % p
 | 0 => by rw [Nat.zero_pow (by have := hp.1; omega)]
 | a + 1 => by rw [succ_pow_mod hp, Nat.add_mod, pow_prime_mod hp a, ← Nat.add_mod]
theorem mod_eq_iff_dvd_sub {a b n : Nat} (h : b ≤ a) : a % n = b % n ↔ n ∣ a - b := by
 constructor
 ·intro e
  exact Nat.dvd_of_mod_eq_zero (Nat.sub_mod_eq_zero_of_mod_eq e)
 ·rintro ⟨c, hc⟩
  have : a = b + n * c := by omega
  rw [this, Nat.add_mul_mod_self_left]
theorem mul_cancel_mod {p a x y : Nat} (hp : Nat.Coprime p a) (h : a * x % p = a * y % p) : x % p = y % p := by
 rcases Nat.le_total y x with hxy | hxy
 ·rw [mod_eq_iff_dvd_sub (Nat.mul_le_mul_left a hxy), ← Nat.mul_sub] at h
  exact (mod_eq_iff_dvd_sub hxy).2 (hp.dvd_of_dvd_mul_left h)
 ·have h := h.symm
  rw [mod_eq_iff_dvd_sub (Nat.mul_le_mul_left a hxy), ← Nat.mul_sub] at h
  exact ((mod_eq_iff_dvd_sub hxy).2 (hp.dvd_of_dvd_mul_left h)).symm
theorem fermat {p a : Nat} (hp : IsPrime p) (h : ¬ p ∣ a) : a ^ (p - 1) % p = 1 % p := by
 have h2 := hp.1
 apply mul_cancel_mod (hp.coprime_of_not_dvd h)
 have e := pow_prime_mod hp a
 rw [show p = p - 1 + 1 by omega, Nat.pow_succ, Nat.mul_comm] at e
 rw [show p - 1 + 1 = p by omega] at e
 rw [e, Nat.mul_one]
theorem pow_mod_one {p a m : Nat} (h : a ^ m % p = 1 % p) (k : Nat) : a ^ (m * k) % p = 1 % p := by
 rw [Nat.pow_mul, Nat.pow_mod, h, ← Nat.pow_mod, Nat.one_pow]
theorem pow_gcd {p a : Nat} : ∀ m n : Nat, a ^ m % p = 1 % p → a ^ n % p = 1 % p → a ^ (Nat.gcd m n) % p = 1 % p := by
 intro m
 induction m using Nat.strongRecOn with
 | ind m ih =>
  intro n hm hn
  by_cases h0 : m = 0
  ·subst h0; simpa using hn
  ·rw [Nat.gcd_rec]
   refine ih (n % m) (Nat.mod_lt _ (by omega)) m ?_ hm
   have e : a ^ n = a ^ (m * (n / m)) * a ^ (n % m) := by rw [← Nat.pow_add, Nat.div_add_mod]
   rw [e] at hn
   rw [Nat.mul_mod, pow_mod_one hm, ← Nat.mul_mod, Nat.one_mul] at hn
   exact hn
theorem coprime_of_pow {p a m : Nat} (hp : IsPrime p) (hm : 0 < m) (h : a ^ m % p = 1 % p) : ¬ p ∣ a := by
 intro hd
 have : p ∣ a ^ m := Nat.dvd_trans hd (Nat.dvd_trans ⟨a ^ (m - 1), by rw [← Nat.pow_succ', show (m - 1).succ = m by omega]⟩ (Nat.dvd_refl _))
 rw [Nat.mod_eq_zero_of_dvd this, Nat.mod_eq_of_lt hp.1] at h
 omega
theorem proth {h k a : Nat} (hk : 0 < k) (hh : 0 < h) (hlt : h < 2 ^ k) (hw : (a ^ (h * 2 ^ (k - 1)) + 1) % (h * 2 ^ k + 1) = 0) : IsPrime (h * 2 ^ k + 1) := by
 have h2k : 2 ^ k = 2 * 2 ^ (k - 1) := by rw [← Nat.pow_succ', show (k - 1).succ = k by omega]
 have hpos : 0 < 2 ^ (k - 1) := Nat.pow_pos (by omega)
 apply Classical.byContradiction
 intro hn
 have hbig : 2 ≤ h * 2 ^ k + 1 := by have := Nat.mul_pos hh (show 0 < 2 ^ k by omega); omega
 obtain ⟨p, hp, hpd, hpp⟩ := exists_small_prime hbig hn
 have hdw : p ∣ a ^ (h * 2 ^ (k - 1)) + 1 := Nat.dvd_trans hpd (Nat.dvd_of_mod_eq_zero hw)
 have hp2 := hp.1
 have hodd : p ≠ 2 := by
  intro e; subst e
  obtain ⟨c, hc⟩ := hpd
  have : h * 2 ^ k = 2 * (h * 2 ^ (k - 1)) := by rw [h2k, Nat.mul_left_comm]
  omega
 have hx : a ^ (h * 2 ^ k) % p = 1 % p := by
  have e : a ^ (h * 2 ^ k) = a ^ (h * 2 ^ (k - 1)) * a ^ (h * 2 ^ (k - 1)) := by
   rw [← Nat.pow_add]; congr 1; rw [h2k, Nat.mul_left_comm]; omega
  rw [e]
  generalize a ^ (h * 2 ^ (k - 1)) = A at hdw
  have hA : A ≠ 0 := by
   intro e0; subst e0
   have := Nat.le_of_dvd (by omega) hdw; omega
  obtain ⟨B, rfl⟩ : ∃ B, A = B + 1 := ⟨A - 1, by omega⟩
  have e2 : (B + 1) * (B + 1) = (B + 1 + 1) * B + 1 := by
   rw [Nat.add_mul, Nat.mul_add, Nat.add_mul (B + 1), Nat.add_mul B]; omega
  rw [e2, mod_eq_iff_dvd_sub (by omega)]
  exact Nat.dvd_trans hdw ⟨B, by omega⟩
 have hcop := coprime_of_pow hp (Nat.mul_pos hh (by omega : 0 < 2 ^ k)) hx
 have hfer := fermat hp hcop
 have hg := pow_gcd _ _ hx hfer
 have hdiv : 2 ^ k ∣ Nat.gcd (h * 2 ^ k) (p - 1) := by
  apply Classical.byContradiction
  intro hnd
  have hgd : Nat.gcd (h * 2 ^ k) (p - 1) ∣ h * 2 ^ k := Nat.gcd_dvd_left _ _
  generalize Nat.gcd (h * 2 ^ k) (p - 1) = g at hg hnd hgd
  have key : ∀ k, 0 < k → ∀ g, g ∣ h * 2 ^ k → ¬ 2 ^ k ∣ g → g ∣ h * 2 ^ (k - 1) := by
   intro k
   induction k with
   | zero => intro h0; omega
   | succ k ihk =>
    intro _ g hgd hnd
    show g ∣ h * 2 ^ k
    by_cases hev : 2 ∣ g
    ·obtain ⟨g', rfl⟩ := hev
     rw [Nat.pow_succ] at hgd hnd
     have h1 : g' ∣ h * 2 ^ k := by
      obtain ⟨c, hc⟩ := hgd
      refine ⟨c, ?_⟩
      have : 2 * (h * 2 ^ k) = 2 * (g' * c) := by
       rw [← Nat.mul_assoc 2 g' c, ← hc, Nat.mul_comm 2, Nat.mul_assoc]
      omega
     have h2 : ¬ 2 ^ k ∣ g' := by
      rintro ⟨c, rfl⟩
      exact hnd ⟨c, by rw [Nat.mul_comm (2 ^ k) 2, Nat.mul_assoc]⟩
     by_cases hk0 : k = 0
     ·subst hk0; exact absurd (Nat.one_dvd g') h2
     ·have := ihk (by omega) g' h1 h2
      rw [show k = k - 1 + 1 by omega, Nat.pow_succ, ← Nat.mul_assoc, Nat.mul_comm 2]
      exact Nat.mul_dvd_mul_right this 2
    ·have hc2 : Nat.Coprime g 2 := by
      have p2 : IsPrime 2 := ⟨by omega, fun d hd => by have := Nat.le_of_dvd (by omega) hd; have : d ≠ 0 := (by intro e; subst e; simp at hd); omega⟩
      exact (p2.coprime_of_not_dvd hev).symm
     rw [Nat.pow_succ, ← Nat.mul_assoc] at hgd
     exact hc2.dvd_of_dvd_mul_right hgd
  obtain ⟨c, hc⟩ := key k hk g hgd hnd
  have h1 := pow_mod_one hg c
  rw [← hc] at h1
  have : (a ^ (h * 2 ^ (k - 1)) + 1) % p = 2 % p := by rw [Nat.add_mod, h1, ← Nat.add_mod]
  rw [Nat.mod_eq_zero_of_dvd hdw] at this
  rw [Nat.mod_eq_of_lt (by omega)] at this
  omega
 have h1 : 2 ^ k ∣ p - 1 := Nat.dvd_trans hdiv (Nat.gcd_dvd_right _ _)
 have h2 := Nat.le_of_dvd (by omega) h1
 have h3 : (2 ^ k + 1) * (2 ^ k + 1) ≤ p * p := Nat.mul_le_mul (by omega) (by omega)
 have h4 : h * 2 ^ k ≤ 2 ^ k * 2 ^ k := Nat.mul_le_mul_right _ (by omega)
 have h5 : (2 ^ k + 1) * (2 ^ k + 1) = 2 ^ k * 2 ^ k + 2 ^ k + 2 ^ k + 1 := by rw [Nat.add_mul, Nat.mul_add]; omega
 omega
theorem pocklington {q a : Nat} (hq : IsPrime q) (ha : 2 ≤ a) (h1 : a ^ (2 * q) % (2 * q + 1) = 1) (h2 : Nat.gcd (a ^ 2 - 1) (2 * q + 1) = 1) : IsPrime (2 * q + 1) := by
 have hq2 := hq.1
 apply Classical.byContradiction
 intro hn
 obtain ⟨p, hp, hpd, hpp⟩ := exists_small_prime (by omega) hn
 have hp2 := hp.1
 have hx : a ^ (2 * q) % p = 1 % p := by
  rw [← Nat.mod_mod_of_dvd _ hpd, h1]
 have hcop := coprime_of_pow hp (by omega) hx
 have hfer := fermat hp hcop
 have hg := pow_gcd _ _ hx hfer
 have hdiv : q ∣ Nat.gcd (2 * q) (p - 1) := by
  apply Classical.byContradiction
  intro hnd
  have hgd : Nat.gcd (2 * q) (p - 1) ∣ 2 * q := Nat.gcd_dvd_left _ _
  generalize Nat.gcd (2 * q) (p - 1) = g at hg hnd hgd
  have : g ∣ 2 := (hq.coprime_of_not_dvd hnd).symm.dvd_of_dvd_mul_right hgd
  obtain ⟨c, hc⟩ := this
  have h3 := pow_mod_one hg c
  rw [← hc] at h3
  have hpos : 1 ≤ a ^ 2 := Nat.pow_pos (by omega)
  have h4 := (mod_eq_iff_dvd_sub hpos).1 h3
  have h5 := Nat.dvd_gcd h4 hpd
  rw [h2] at h5
  have := Nat.le_of_dvd (by omega) h5
  omega
 have h3 : q ∣ p - 1 := Nat.dvd_trans hdiv (Nat.gcd_dvd_right _ _)
 have h4 := Nat.le_of_dvd (by omega) h3
 have h5 : (q + 1) * (q + 1) ≤ p * p := Nat.mul_le_mul (by omega) (by omega)
 have h6 : (q + 1) * (q + 1) = q * q + q + q + 1 := by rw [Nat.add_mul, Nat.mul_add]; omega
 have : 2 * q ≤ q * q := Nat.mul_le_mul_right q hq2
 omega
def powMod (a m : Nat) : Nat → Nat → Nat
 | 0, _ => 1 % m
 | f + 1, n => if n = 0 then 1 % m else
   let h := powMod a m f (n / 2)
   if n % 2 = 0 then h * h % m else h * h % m * a % m
theorem powMod_eq (a m : Nat) : ∀ f n, n < 2 ^ f → powMod a m f n = a ^ n % m
 | 0, n, h => by
  have : n = 0 := by simpa using h
  subst this; rfl
 | f + 1, n, h => by
  rw [powMod]
  by_cases h0 : n = 0
  ·subst h0; simp
  ·rw [if_neg h0]
   have ih := powMod_eq a m f (n / 2) (by rw [Nat.pow_succ] at h; omega)
   simp only [ih]
   have hn : n = n / 2 * 2 + n % 2 := by omega
   have e : (a ^ (n / 2) % m) * (a ^ (n / 2) % m) % m = a ^ (n / 2 * 2) % m := by
    rw [← Nat.mul_mod, ← Nat.pow_add]; congr 2; omega
   rw [e]
   by_cases h2 : n % 2 = 0
   ·rw [if_pos h2]; congr 2; omega
   ·rw [if_neg h2, Nat.mod_mul_mod, ← Nat.pow_succ]; congr 2; omega
theorem proth_by {h k a : Nat} (f : Nat) (hk : 0 < k) (hh : 0 < h) (hlt : h < 2 ^ k) (hf : h * 2 ^ (k - 1) < 2 ^ f)
  (hw : (powMod a (h * 2 ^ k + 1) f (h * 2 ^ (k - 1)) + 1) % (h * 2 ^ k + 1) = 0) : IsPrime (h * 2 ^ k + 1) := by
 rw [powMod_eq _ _ _ _ hf] at hw
 refine proth (a := a) hk hh hlt ?_
 rw [Nat.add_mod, Nat.mod_mod, ← Nat.add_mod] at hw
 exact hw
theorem pocklington_by {q a : Nat} (f : Nat) (hq : IsPrime q) (ha : 2 ≤ a) (hf : 2 * q < 2 ^ f) (h1 : powMod a (2 * q + 1) f (2 * q) = 1)
  (h2 : Nat.gcd (a ^ 2 - 1) (2 * q + 1) = 1) : IsPrime (2 * q + 1) := by
 rw [powMod_eq _ _ _ _ hf] at h1
 exact pocklington hq ha h1 h2
theorem prime_q1 : IsPrime 641 := proth_by (h := 5) (k := 7) (a := 3) 10 (by decide +kernel) (by decide +kernel) (by decide +kernel) (by decide +kernel) (by decide +kernel)
theorem prime_p1 : IsPrime 1283 := pocklington_by (q := 641) (a := 2) 11 prime_q1 (by decide +kernel) (by decide +kernel) (by decide +kernel) (by decide +kernel)
theorem prime_q2 : IsPrime 576465431670292481 := proth_by (h := 268437635) (k := 31) (a := 3) 60 (by decide +kernel) (by decide +kernel) (by decide +kernel) (by decide +kernel) (by decide +kernel)
theorem prime_p2 : IsPrime 1152930863340584963 := pocklington_by (q := 576465431670292481) (a := 2) 61 prime_q2 (by decide +kernel) (by decide +kernel) (by decide +kernel) (by decide +kernel)
theorem prime_q3 : IsPrime 7237005577332262213973186563042995786902308146886443998308627866733439352833 := proth_by (h := 42535295865117307932921825928971035519) (k := 127) (a := 3) 253 (by decide +kernel) (by decide +kernel) (by decide +kernel) (by decide +kernel) (by decide +kernel)
theorem prime_p3 : IsPrime 14474011154664524427946373126085991573804616293772887996617255733466878705667 := pocklington_by (q := 7237005577332262213973186563042995786902308146886443998308627866733439352833) (a := 2) 254 prime_q3 (by decide +kernel) (by decide +kernel) (by decide +kernel) (by decide +kernel)
end Go.Proofs.Ytjmeakfjfpnciaa
namespace Go.Proofs.Ytjmeakfjfpnciaa
open Go.RowKit
end Go.Proofs.Ytjmeakfjfpnciaa
namespace Go.Proofs.Ytjmeakfjfpnciaa
open Go.RowKit
end Go.Proofs.Ytjmeakfjfpnciaa
namespace Go.Proofs.Ytjmeakfjfpnciaa
open Go.RowKit
end Go.Proofs.Ytjmeakfjfpnciaa
namespace Go.Proofs.Ytjmeakfjfpnciaa
open Go.RowKit
end Go.Proofs.Ytjmeakfjfpnciaa
namespace Go.Proofs.Ytjmeakfjfpnciaa
open Go.RowKit
end Go.Proofs.Ytjmeakfjfpnciaa
namespace Go.Proofs.Ytjmeakfjfpnciaa
open Go.RowKit
end Go.Proofs.Ytjmeakfjfpnciaa
namespace Go.Proofs.Ytjmeakfjfpnciaa
open Go.RowKit
end Go.Proofs.Ytjmeakfjfpnciaa
namespace Go.Proofs.Ytjmeakfjfpnciaa
open Go.RowKit
end Go.Proofs.Ytjmeakfjfpnciaa
namespace Go.Proofs.Ytjmeakfjfpnciaa
open Go.RowKit
def lowR (q p x : Nat) : Nat := if q < x then p - x else x
end Go.Proofs.Ytjmeakfjfpnciaa
namespace Go.Proofs.Ytjmeakfjfpnciaa
open Go.RowKit
def isSc (q sz : Nat) (s : ByteArray) : Bool := decide (s.size = sz) && decide (numOf s < q)
def isEl (q sz : Nat) (s : ByteArray) : Bool := decide (s.size = sz) && decide (0 < numOf s) && decide (numOf s ≤ q)
end Go.Proofs.Ytjmeakfjfpnciaa
namespace Go.Proofs.Ytjmeakfjfpnciaa
open Go.RowKit
def ReadR (ok : Bool) (v : Value) (w : World) (e : Ending) (w' : World) : Prop := ∃ x : Nat, e = .returned (.tuple #[limbV x, .bool ok]) ∧ Below w.heap.size w w' ∧ (ok = true → limbV x = v)
theorem gScalar_any (G : GP) (ok : G.Ok) (gb : Nat) (s : ByteArray) (w : World) (hG : GroupAt w gb G) :
  Calls Try.prog 52 #[.pointer (some ⟨gb, 0, none⟩), .string s] w (ReadR (isSc G.q.m G.size s) (scV G (numOf s)) w) := by
 have no : isSc G.q.m G.size s = false → ∀ e w', (e = .returned (.tuple #[limbV 0, .bool false]) ∧ Below w.heap.size w w') → ReadR (isSc G.q.m G.size s) (scV G (numOf s)) w e w' := fun h e w' ⟨h1, h2⟩ => ⟨0, by rw [h]; exact h1, h2, fun hc => by rw [h] at hc; cases hc⟩
 by_cases h32 : 32 < s.size
 ·exact (gScalar_long G ok gb s h32 w hG).mono (no (by have := ok.size_le; unfold isSc; simp; omega))
 by_cases hl : s.size = G.size
 ·rcases Nat.lt_trichotomy (numOf s) G.q.m with hc | hc | hc
  ·refine (gScalar_yes G ok gb s hl hc w hG).mono ?_
   rintro e w' ⟨h1, h2⟩
   exact ⟨mont G.q.m (numOf s), by rw [show isSc G.q.m G.size s = true by unfold isSc; simp [hl, hc]]; exact h1, h2, fun _ => rfl⟩
  ·exact (gScalar_eq G ok gb s hl hc w hG).mono (no (by unfold isSc; simp; omega))
  ·exact (gScalar_gt G ok gb s hl hc w hG).mono (no (by unfold isSc; simp; omega))
 ·exact (gScalar_len G ok gb s (by omega) hl w hG).mono (no (by unfold isSc; simp [hl]))
theorem gElem_any (G : GP) (ok : G.Ok) (gb : Nat) (s : ByteArray) (w : World) (hG : GroupAt w gb G) :
  Calls Try.prog 66 #[.pointer (some ⟨gb, 0, none⟩), .string s] w (ReadR (isEl G.q.m G.size s) (elV G (numOf s)) w) := by
 have no : isEl G.q.m G.size s = false → ∀ e w', (e = .returned (.tuple #[limbV 0, .bool false]) ∧ Below w.heap.size w w') → ReadR (isEl G.q.m G.size s) (elV G (numOf s)) w e w' := fun h e w' ⟨h1, h2⟩ => ⟨0, by rw [h]; exact h1, h2, fun hc => by rw [h] at hc; cases hc⟩
 by_cases h32 : 32 < s.size
 ·exact (gElem_long G ok gb s h32 w hG).mono (no (by have := ok.size_le; unfold isEl; simp; omega))
 by_cases hl : s.size = G.size
 ·by_cases h0 : numOf s = 0
  ·exact (gElem_zero G ok gb s hl h0 w hG).mono (no (by unfold isEl; simp [h0]))
  rcases Nat.lt_trichotomy (numOf s) G.q.m with hc | hc | hc
  ·refine (gElem_lt G ok gb s hl (by omega) hc w hG).mono ?_
   rintro e w' ⟨h1, h2⟩
   exact ⟨mont G.p.m (numOf s), by rw [show isEl G.q.m G.size s = true by unfold isEl; simp [hl]; omega]; exact h1, h2, fun _ => rfl⟩
  ·refine (gElem_eq G ok gb s hl (by omega) hc w hG).mono ?_
   rintro e w' ⟨h1, h2⟩
   exact ⟨mont G.p.m (numOf s), by rw [show isEl G.q.m G.size s = true by unfold isEl; simp [hl]; omega]; exact h1, h2, fun _ => rfl⟩
  ·exact (gElem_gt G ok gb s hl hc w hG).mono (no (by unfold isEl; simp; omega))
 ·exact (gElem_len G ok gb s (by omega) hl w hG).mono (no (by unfold isEl; simp [hl]))
end Go.Proofs.Ytjmeakfjfpnciaa
namespace Go.Proofs.Ytjmeakfjfpnciaa
open Go.RowKit
def ReadM (b : Bool) (m : Nat) (w : World) (e : Ending) (w' : World) : Prop := ∃ x : Nat, e = .returned (.tuple #[limbV x, .bool b]) ∧ Below w.heap.size w w' ∧ (b = true → x = m)
theorem ReadR.m {b : Bool} {m : Nat} {w w' : World} {e : Ending} (h : ReadR b (limbV m) w e w') : ReadM b m w e w' := by
 obtain ⟨x, h1, h2, h3⟩ := h
 cases b with
 | true => exact ⟨m, by rw [h1, h3 rfl], h2, fun _ => rfl⟩
 | false => exact ⟨x, h1, h2, fun h => by cases h⟩
theorem gScalar_m (G : GP) (ok : G.Ok) (gb : Nat) (s : ByteArray) (b : Bool) (hb : isSc G.q.m G.size s = b) (w : World) (hG : GroupAt w gb G) :
  Calls Try.prog 52 #[.pointer (some ⟨gb, 0, none⟩), .string s] w (ReadM b (mont G.q.m (numOf s)) w) := by
 subst hb
 exact (gScalar_any G ok gb s w hG).mono fun e w' h => ReadR.m h
theorem gElem_m (G : GP) (ok : G.Ok) (gb : Nat) (s : ByteArray) (b : Bool) (hb : isEl G.q.m G.size s = b) (w : World) (hG : GroupAt w gb G) :
  Calls Try.prog 66 #[.pointer (some ⟨gb, 0, none⟩), .string s] w (ReadM b (mont G.p.m (numOf s)) w) := by
 subst hb
 exact (gElem_any G ok gb s w hG).mono fun e w' h => ReadR.m h
end Go.Proofs.Ytjmeakfjfpnciaa
namespace Go.Proofs.Ytjmeakfjfpnciaa
open Go.RowKit
end Go.Proofs.Ytjmeakfjfpnciaa
namespace Go.Proofs.Ytjmeakfjfpnciaa
open Go.RowKit
end Go.Proofs.Ytjmeakfjfpnciaa
namespace Go.Proofs.Ytjmeakfjfpnciaa
open Go.RowKit
end Go.Proofs.Ytjmeakfjfpnciaa
namespace Go.Proofs.Ytjmeakfjfpnciaa
theorem grp_prime_q (k : Nat) (h1 : 1 ≤ k) (h3 : k ≤ 3) : IsPrime (grp k).q.m := by
 obtain rfl | rfl | rfl : k = 1 ∨ k = 2 ∨ k = 3 := by omega
 ·exact prime_q1
 ·exact prime_q2
 ·exact prime_q3
theorem grp_prime_p (k : Nat) (h1 : 1 ≤ k) (h3 : k ≤ 3) : IsPrime (grp k).p.m := by
 obtain rfl | rfl | rfl : k = 1 ∨ k = 2 ∨ k = 3 := by omega
 ·exact prime_p1
 ·exact prime_p2
 ·exact prime_p3
def PM (p x y : Nat) : Prop := (p : Int) ∣ (x : Int) - y ∨ (p : Int) ∣ (x : Int) + y
theorem PM.refl (p x : Nat) : PM p x x := Or.inl ⟨0, by omega⟩
theorem PM.of_mod {p x y : Nat} (h : x % p = y % p) : PM p x y := Or.inl (by
 have h1 := Nat.div_add_mod x p
 have h2 := Nat.div_add_mod y p
 refine ⟨(x / p : Nat) - (y / p : Nat), ?_⟩
 have e1 : (x : Int) = p * (x / p : Nat) + (x % p : Nat) := by exact_mod_cast h1.symm
 have e2 : (y : Int) = p * (y / p : Nat) + (y % p : Nat) := by exact_mod_cast h2.symm
 rw [e1, e2, h]
 generalize ((x / p : Nat) : Int) = a
 generalize ((y / p : Nat) : Int) = b
 grind)
theorem PM.symm {p x y : Nat} (h : PM p x y) : PM p y x := by
 rcases h with ⟨c, h⟩ | ⟨c, h⟩
 ·exact Or.inl ⟨-c, by grind⟩
 ·exact Or.inr ⟨c, by grind⟩
theorem PM.trans {p x y z : Nat} (h : PM p x y) (g : PM p y z) : PM p x z := by
 rcases h with ⟨c, h⟩ | ⟨c, h⟩ <;> rcases g with ⟨d, g⟩ | ⟨d, g⟩
 ·exact Or.inl ⟨c + d, by grind⟩
 ·exact Or.inr ⟨c + d, by grind⟩
 ·exact Or.inr ⟨c - d, by grind⟩
 ·exact Or.inl ⟨c - d, by grind⟩
theorem PM.mul {p x y u v : Nat} (h : PM p x y) (g : PM p u v) : PM p (x * u) (y * v) := by
 have e1 : ((x * u : Nat) : Int) = x * u := by simp
 have e2 : ((y * v : Nat) : Int) = y * v := by simp
 unfold PM
 rw [e1, e2]
 rcases h with ⟨c, h⟩ | ⟨c, h⟩ <;> rcases g with ⟨d, g⟩ | ⟨d, g⟩
 ·exact Or.inl ⟨c * u + y * d, by grind⟩
 ·exact Or.inr ⟨c * u + y * d, by grind⟩
 ·exact Or.inr ⟨c * u - y * d, by grind⟩
 ·exact Or.inl ⟨c * u - y * d, by grind⟩
theorem PM.pow {p x y : Nat} (h : PM p x y) : ∀ n : Nat, PM p (x ^ n) (y ^ n)
 | 0 => PM.refl _ _
 | n + 1 => by rw [Nat.pow_succ, Nat.pow_succ]; exact PM.mul (PM.pow h n) h
theorem PM.mod (p x : Nat) : PM p (x % p) x := PM.of_mod (Nat.mod_mod _ _)
theorem lowR_pm (q p x : Nat) (hx : x < p) : PM p (lowR q p x) x := by
 unfold lowR
 split
 ·exact Or.inr ⟨1, by omega⟩
 ·exact PM.refl _ _
theorem lowR_leq {q p x : Nat} (hp : p = 2 * q + 1) (hx : x < p) : lowR q p x ≤ q := by
 unfold lowR
 split <;> omega
theorem lowR_pos {q p x : Nat} (hx : x < p) (h0 : 0 < x) : 0 < lowR q p x := by
 unfold lowR
 split <;> omega
theorem low_unique {q p x y : Nat} (hp : p = 2 * q + 1) (hx : x ≤ q) (hy : y ≤ q) (h : PM p x y) : x = y := by
 rcases h with h | h
 ·have := Int.eq_zero_of_dvd_of_natAbs_lt_natAbs h (by omega)
  omega
 ·have := Int.eq_zero_of_dvd_of_natAbs_lt_natAbs h (by omega)
  omega
theorem low_eq {q p x y : Nat} (_hq : 0 < q) (hp : p = 2 * q + 1) (h : PM p x y) : lowR q p (x % p) = lowR q p (y % p) := by
 have hx := Nat.mod_lt x (show 0 < p by omega)
 have hy := Nat.mod_lt y (show 0 < p by omega)
 exact low_unique hp (lowR_leq hp hx) (lowR_leq hp hy) ((((lowR_pm q p _ hx).trans (PM.mod p x)).trans h).trans (((lowR_pm q p _ hy).trans (PM.mod p y)).symm))
theorem pm_low {q p : Nat} (hp : 0 < p) (x : Nat) : PM p (lowR q p (x % p)) x := (lowR_pm q p _ (Nat.mod_lt x hp)).trans (PM.mod p x)
theorem pm_euler {q p a : Nat} (hpp : IsPrime p) (hp : p = 2 * q + 1) (h0 : 0 < a) (ha : a < p) : PM p (a ^ q) 1 := by
 have hnd : ¬ p ∣ a := fun h => by have := Nat.le_of_dvd h0 h; omega
 have hf := fermat hpp hnd
 rw [show p - 1 = q * 2 by omega, Nat.pow_mul] at hf
 obtain ⟨b, hb⟩ : ∃ b, a ^ q = b := ⟨_, rfl⟩
 rw [hb] at hf ⊢
 have hb0 : 0 < b := by rw [← hb]; exact Nat.pow_pos h0
 have h2 : p ∣ b ^ 2 - 1 := (mod_eq_iff_dvd_sub (Nat.pow_pos hb0)).1 hf
 have h3 : b ^ 2 - 1 = (b - 1) * (b + 1) := by
  obtain ⟨c, rfl⟩ : ∃ c, b = c + 1 := ⟨b - 1, by omega⟩
  rw [Nat.add_sub_cancel, Nat.pow_two]
  have : (c + 1) * (c + 1) = c * (c + 1 + 1) + 1 := by grind
  omega
 rw [h3] at h2
 rcases hpp.dvd_mul h2 with ⟨c, h⟩ | ⟨c, h⟩
 ·refine Or.inl ⟨c, ?_⟩
  have : ((b - 1 : Nat) : Int) = p * c := by rw [h]; simp
  omega
 ·refine Or.inr ⟨c, ?_⟩
  have : ((b + 1 : Nat) : Int) = p * c := by rw [h]; simp
  omega
end Go.Proofs.Ytjmeakfjfpnciaa
namespace Go.Proofs.Ytjmeakfjfpnciaa
open Go.RowKit
def T (G : GP) (n : Nat) : ByteArray := textS n G.size
theorem T_size (G : GP) (n : Nat) : (T G n).size = G.size := textS_size _ _
theorem T_num {G : GP} (_ok : G.Ok) {n : Nat} (h : n ≤ G.q.m) (hne : G.q.m < 256 ^ G.size) : numOf (T G n) = n := by
 unfold T
 rw [numOf_textS]
 exact Nat.mod_eq_of_lt (by omega)
theorem T_el {G : GP} (ok : G.Ok) (hne : G.q.m < 256 ^ G.size) {n : Nat} (h0 : 0 < n) (h : n ≤ G.q.m) : isEl G.q.m G.size (T G n) = true := by
 unfold isEl
 rw [T_size, T_num ok h hne]
 simp [h, h0]
theorem grp_fits (k : Nat) (h1 : 1 ≤ k) (h3 : k ≤ 3) : (grp k).q.m < 256 ^ (grp k).size := by
 obtain rfl | rfl | rfl : k = 1 ∨ k = 2 ∨ k = 3 := by omega
 all_goals decide
end Go.Proofs.Ytjmeakfjfpnciaa
namespace Go.Proofs.Ytjmeakfjfpnciaa
open Go.RowKit
def Lw (q p v : Nat) : Nat := lowR q p (v % p)
section
variable {q p : Nat} (hq : 0 < q) (hp : p = 2 * q + 1)
include hq hp
omit hq in
theorem Lw_pm (x : Nat) : PM p (Lw q p x) x := pm_low (by omega) x
omit hq in
theorem Lw_le (x : Nat) : Lw q p x ≤ q := lowR_leq hp (Nat.mod_lt _ (by omega))
omit hq in
omit hq in
theorem Lw_pos {x : Nat} (h : ¬ p ∣ x) : 0 < Lw q p x := by
 unfold Lw
 refine lowR_pos (Nat.mod_lt _ (by omega)) ?_
 rcases Nat.eq_zero_or_pos (x % p) with h0 | h0
 ·exact absurd (Nat.dvd_of_mod_eq_zero h0) h
 ·exact h0
end
theorem IsPrime.not_dvd_mul {p a b : Nat} (hp : IsPrime p) (ha : ¬ p ∣ a) (hb : ¬ p ∣ b) : ¬ p ∣ a * b := fun h => (hp.dvd_mul h).elim ha hb
theorem IsPrime.not_dvd_pow {p a : Nat} (hp : IsPrime p) (ha : ¬ p ∣ a) : ∀ n, ¬ p ∣ a ^ n
 | 0 => fun h => by rw [Nat.pow_zero] at h; have := Nat.le_of_dvd (by decide) h; have := hp.1; omega
 | n + 1 => by rw [Nat.pow_succ]; exact hp.not_dvd_mul (IsPrime.not_dvd_pow hp ha n) ha
theorem not_dvd_small {p a : Nat} (h0 : 0 < a) (h : a < p) : ¬ p ∣ a := fun hd => by have := Nat.le_of_dvd h0 hd; omega
theorem pm_pow_mod {q p a : Nat} (hpp : IsPrime p) (hp : p = 2 * q + 1) (h0 : 0 < a) (ha : a < p) (n : Nat) : PM p (a ^ (n % q)) (a ^ n) := by
 have h1 : a ^ n = a ^ (n % q) * (a ^ q) ^ (n / q) := by
  rw [← Nat.pow_mul, ← Nat.pow_add, Nat.mod_add_div]
 rw [h1]
 have h2 := PM.mul (PM.refl p (a ^ (n % q))) ((pm_euler hpp hp h0 ha).pow (n / q))
 rw [Nat.one_pow, Nat.mul_one] at h2
 exact h2.symm
end Go.Proofs.Ytjmeakfjfpnciaa
namespace Go.Proofs.Ytjmeakfjfpnciaa
open Go.RowKit
section
variable {G : GP}
theorem lowN_eq (ok : G.Ok) {x y : Nat} (h : PM G.p.m x y) : lowN G x = lowN G y := low_eq ok.q.pos ok.twice h
theorem lowN_pm (ok : G.Ok) (x : Nat) : PM G.p.m (lowN G x) x := Lw_pm ok.twice x
theorem lowN_le (ok : G.Ok) (x : Nat) : lowN G x ≤ G.q.m := Lw_le ok.twice x
variable {aq ap : Option Addr} {cq cp : Nat}
end
end Go.Proofs.Ytjmeakfjfpnciaa
namespace Go.Proofs.Ytjmeakfjfpnciaa
open Go.RowKit
def Gives (v : Value) (w : World) (e : Ending) (w' : World) : Prop := e = .returned v ∧ Below w.heap.size w w'
theorem all_take_true {α : Type} {f : α → Bool} {l : List α} (h : (l.take l.length).all f = true) : l.all f = true := by rwa [List.take_length] at h
theorem all_not {α : Type} {f : α → Bool} {l : List α} {i : Nat} (hi : i < l.length) (h : f l[i] = false) : l.all f = false := by
 rw [List.all_eq_false]
 exact ⟨l[i], List.getElem_mem hi, by simp [h]⟩
theorem all_snoc {α : Type} {f : α → Bool} {l : List α} {i : Nat} (hi : i < l.length) (ht : (l.take i).all f = true) (h : f l[i] = true) : (l.take (i + 1)).all f = true := by
 rw [List.take_succ_eq_append_getElem hi, List.all_append, ht]
 simp [h]
section
variable {G : GP}
end
end Go.Proofs.Ytjmeakfjfpnciaa
namespace Go.Proofs.Ytjmeakfjfpnciaa
open Go.RowKit
abbrev streamB : ByteArray := ⟨#[115, 116, 114, 101, 97, 109]⟩
def strmG (TG : List ByteArray → ByteArray) (seed label : ByteArray) : Nat → ByteArray
 | 0 => ⟨#[]⟩
 | i + 1 => strmG TG seed label i ++ TG [seed, label, fourS i]
def strmS (seed label : ByteArray) : ByteArray := strmG (tagS streamB) seed label 2
theorem strmG_size {TG : List ByteArray → ByteArray} (h : ∀ ps, (TG ps).size = 32) (seed label : ByteArray) : ∀ i, (strmG TG seed label i).size = 32 * i
 | 0 => rfl
 | i + 1 => by
  show (strmG TG seed label i ++ _).size = _
  rw [ByteArray.size_append, strmG_size h seed label i, h]
  omega
theorem strmS_size (seed label : ByteArray) : (strmS seed label).size = 64 := strmG_size (tagS_size _) _ _ 2
theorem extract_all (b : ByteArray) (n : Nat) (h : b.size = n) : b.extract 0 n = b := by subst h; exact ByteArray.extract_zero_size ..
theorem strCells_app (a b : ByteArray) : Lib.byteCells a.data.toList ++ Lib.strCells b = Lib.byteCells (a ++ b).data.toList := by
 rw [Lib.strCells_eq, ← Lib.byteCells_append]
 congr 1
theorem stream_gen (TG : List ByteArray → ByteArray) (h32 : ∀ ps, (TG ps).size = 32) (seed label : ByteArray)
  (hT : ∀ (i : Nat), i ≤ 2 → ∀ (a : Option Addr) (c : Nat) (w : World), Sl w w.heap.size a ([seed, label, fourS i].map Value.string) → Calls Try.prog 158 #[.string streamB, .slice a 3 c] w fun e w' => e = .returned (.string (TG [seed, label, fourS i])) ∧ Below w.heap.size w w') (w : World) :
  Calls Try.prog 187 #[.string seed, .string label, .int .i64 64] w (Gives (.tuple #[.string (strmG TG seed label 2), .int .i64 0]) w) := by
 unfold Gives
 have HT := Lib.hid hT
 have HSZ := Lib.hid (strmG_size h32 seed label)
 have H32 := Lib.hid h32
 clear hT h32
 go_enter Try.func187, Try.ntmps187
 go_upto_region 4 with fail
 obtain ⟨w1, hq1, hb1, hz1, hx1⟩ := new1 w 157 [.pointer none, .slice none 0 0]
 have HI0 := Lib.hid (show Lib.IsBuilder 157 5 w.heap.size w.heap.size (Lib.byteCells (strmG TG seed label 0).data.toList) w1 from by rw [← hq1]; exact Lib.fresh_isBuilder _ _ w)
 rw [hq1]
 have HB := Lib.hid hb1
 clear hq1 hb1 hx1 hz1
 go_wp2_with fail
 go_loopw [9] (fun v wr => ∃ i : Nat, i ≤ 2 ∧ v = .int .i64 i ∧ Hid (Below w.heap.size w wr) ∧ Hid (Lib.IsBuilder 157 5 w.heap.size w.heap.size (Lib.byteCells (strmG TG seed label i).data.toList) wr)) (fun v _ => 2 - (intOf v).toNat)
 case atStart => exact ⟨0, Nat.zero_le _, rfl, HB, HI0⟩
 case round =>
  clear HB HI0
  obtain ⟨i, hi, rfl, HB, HI⟩ := hrel
  have HLN := Lib.hid (show ((Lib.byteCells (strmG TG seed label i).data.toList).length : Int) = ((32 * i : Nat) : Int) by rw [Lib.byteCells_length, ← Lib.size_eq, HSZ.out])
  go_wp2_with fail
  refine (Try.Builder_Len _ _ _ _ HI.out).mono ?_
  rintro e wz ⟨rfl, hwz⟩
  replace hwz := hwz.symm
  subst hwz
  rw [HLN.out]
  obtain ⟨k, hk⟩ : ∃ k, 32 * i = k := ⟨_, rfl⟩
  rw [hk]
  have HKK := Lib.hid hk
  by_cases hi2 : i < 2
  ·have hd : decide ((k : Int) < 64) = true := by simp; omega
   have HTI := Lib.hid (HT.out i hi)
   have HFR := Lib.hid (fun w => four_any i (by omega) w)
   have HST := Lib.hid (show strmG TG seed label (i + 1) = strmG TG seed label i ++ TG [seed, label, fourS i] from rfl)
   have HTZ := Lib.hid (H32.out [seed, label, fourS i])
   clear hk
   have HZS := Lib.hid HB.out.size
   have BK := Lib.hid (Below.refl wr.heap.size wr)
   go_wp2_with fail
   refine (HFR.out wr).mono ?_
   rintro e w1 ⟨rfl, hb9⟩
   replace BK := hbu BK hb9
   replace HB := hbu HB hb9
   have HZS := Lib.hid hb9.size
   clear hb9
   generalize fourS i = f4 at *
   generalize TG [seed, label, f4] = tg at *
   obtain ⟨w2, hq2, hb9, hz9, Hr⟩ := new1 w1 9 [.string seed, .string label, .string f4]
   replace BK := hbu BK hb9
   replace HB := hbu HB hb9
   replace HZS := sz HZS hz9.out
   clear hb9 hz9
   have r_ := Hr.out.c3
   go_wp2_with fail
   clear hq2
   refine (HTI.out _ _ w2 (Sl.ofB Hr.out)).mono ?_
   rintro e w3 ⟨rfl, hb9⟩
   clear r_
   replace Hr := Lib.hid (Hr.out.up hb9)
   replace BK := hbu BK hb9
   replace HB := hbu HB hb9
   replace HZS := sz HZS hb9.size
   clear hb9
   have r_ := Hr.out.c3
   have HIW := Lib.hid (sb_up HI.out BK.out)
   have HSW := Lib.hid HB.out.size
   go_wp2_with fail
   refine (sbWrite_any _ _ _ tg _ HIW.out (by have h9 := HLN.out; have h8 := HTZ.out; have h7 := HKK.out; rw [← h7] at hd; omega) HSW.out).mono ?_
   rintro e wn ⟨rfl, hi9, hb9⟩
   rw [strCells_app, ← HST.out] at hi9
   have HIN := Lib.hid hi9
   have HBN := Lib.hid (HB.out.trans hb9)
   clear hi9 hb9
   go_wp2_with fail
   go_roundw
   case rel => exact ⟨i + 1, by omega, by go_num, HBN, HIN⟩
   case measure => simp [intOf]; omega
  ·have hi' : i = 2 := by omega
   subst hi'
   obtain rfl : k = 64 := hk.symm
   clear hk
   have HSB := Lib.hid HB.out.size
   go_wp2_with fail
   refine (Try.Builder_String_any _ _ _ _ HI.out HSB.out).mono ?_
   rintro e wn ⟨rfl, hb9⟩
   have HBN := Lib.hid (HB.out.trans hb9)
   clear hb9
   have hsz := HSZ.out 2
   have hex := extract_all (strmG TG seed label 2) 64 hsz
   rw [show (⟨(strmG TG seed label 2).data.toList.toArray⟩ : ByteArray) = strmG TG seed label 2 by simp]
   obtain ⟨st, hst⟩ : ∃ v, strmG TG seed label 2 = v := ⟨_, rfl⟩
   have HST := Lib.hid hst
   rw [hst] at hex hsz ⊢
   clear hst
   have hsz2 : ¬ ((st.size : Int) < 64) := by omega
   go_wp2_with fail
   go_ret2
   exact ⟨by rw [HST.out]; rfl, HBN.out⟩
theorem stream_any (seed label : ByteArray) (hs : seed.size < 140737488355328) (hl : label.size < 140737488355328) (w : World) :
  Calls Try.prog 187 #[.string seed, .string label, .int .i64 64] w (Gives (.tuple #[.string (strmS seed label), .int .i64 0]) w) :=
 stream_gen (tagS streamB) (tagS_size _) seed label (fun i hi a c w9 h => tag_any streamB [seed, label, fourS i] 3 rfl (join_small streamB _ 0 (by simp) (by
  intro x hx
  simp only [List.mem_cons, List.not_mem_nil, or_false] at hx
  rcases hx with rfl | rfl | rfl
  ·exact hs
  ·exact hl
  ·rw [fourS_size]; decide) (by decide)) a c w9 h) w
end Go.Proofs.Ytjmeakfjfpnciaa
namespace Go.Proofs.Ytjmeakfjfpnciaa
def Cg (q a b : Int) : Prop := q ∣ a - b
section
variable {q a b c d : Int}
theorem Cg.refl (q a : Int) : Cg q a a := by unfold Cg; rw [Int.sub_self]; exact Int.dvd_zero q
theorem Cg.of_eq (h : a = b) : Cg q a b := h ▸ Cg.refl q a
theorem Cg.symm (h : Cg q a b) : Cg q b a := by unfold Cg at *; have := Int.dvd_neg.2 h; rwa [Int.neg_sub] at this
theorem Cg.trans (h : Cg q a b) (g : Cg q b c) : Cg q a c := by unfold Cg at *; have := Int.dvd_add h g; rwa [show a - b + (b - c) = a - c by omega] at this
theorem Cg.add (h : Cg q a b) (g : Cg q c d) : Cg q (a + c) (b + d) := by unfold Cg at *; have := Int.dvd_add h g; rwa [show a - b + (c - d) = a + c - (b + d) by omega] at this
theorem Cg.neg (h : Cg q a b) : Cg q (-a) (-b) := by unfold Cg at *; have := Int.dvd_neg.2 h; rwa [show -(a - b) = -a - -b by omega] at this
theorem Cg.sub (h : Cg q a b) (g : Cg q c d) : Cg q (a - c) (b - d) := by have := h.add g.neg; rwa [← Int.sub_eq_add_neg, ← Int.sub_eq_add_neg] at this
theorem Cg.mul (h : Cg q a b) (g : Cg q c d) : Cg q (a * c) (b * d) := by
 unfold Cg at *
 have h1 := Int.dvd_add (Int.dvd_mul_of_dvd_left (c := c) h) (Int.dvd_mul_of_dvd_right (b := b) g)
 rwa [show (a - b) * c + b * (c - d) = a * c - b * d by rw [Int.sub_mul, Int.mul_sub]; omega] at h1
theorem Cg.mod (q a : Int) : Cg q (a % q) a := by
 unfold Cg
 have := Int.emod_add_mul_ediv a q
 exact ⟨-(a / q), by rw [Int.mul_neg]; omega⟩
end
def Deg (q : Int) : Nat → (Int → Int) → Prop
 | 0, f => ∀ x, Cg q (f x) 0
 | n + 1, f => ∃ c g, Deg q n g ∧ ∀ x, Cg q (f x) (c + x * g x)
section
variable {q : Int}
theorem Deg.congr : ∀ {n : Nat} {f h : Int → Int}, Deg q n f → (∀ x, Cg q (h x) (f x)) → Deg q n h
 | 0, _, _, hf, e => fun x => (e x).trans (hf x)
 | _ + 1, _, _, ⟨c, g, hg, hx⟩, e => ⟨c, g, hg, fun x => (e x).trans (hx x)⟩
theorem Deg.zero : ∀ n, Deg q n (fun _ => 0)
 | 0 => fun _ => Cg.refl _ _
 | n + 1 => ⟨0, fun _ => 0, Deg.zero n, fun x => Cg.of_eq (by simp)⟩
theorem Deg.add : ∀ {n : Nat} {f g : Int → Int}, Deg q n f → Deg q n g → Deg q n (fun x => f x + g x)
 | 0, _, _, hf, hg => fun x => (hf x).add (hg x)
 | _ + 1, _, _, ⟨c, f1, hf, hx⟩, ⟨d, g1, hg, hy⟩ => ⟨c + d, fun x => f1 x + g1 x, hf.add hg, fun x => ((hx x).add (hy x)).trans (Cg.of_eq (by rw [Int.mul_add]; omega))⟩
theorem Deg.smul (k : Int) : ∀ {n : Nat} {f : Int → Int}, Deg q n f → Deg q n (fun x => k * f x)
 | 0, _, hf => fun x => ((Cg.refl q k).mul (hf x)).trans (Cg.of_eq (by simp))
 | _ + 1, _, ⟨c, f1, hf, hx⟩ => ⟨k * c, fun x => k * f1 x, hf.smul k, fun x => ((Cg.refl q k).mul (hx x)).trans (Cg.of_eq (by rw [Int.mul_add, ← Int.mul_assoc, ← Int.mul_assoc, Int.mul_comm k x]))⟩
theorem Deg.mulx {n : Nat} {f : Int → Int} (h : Deg q n f) : Deg q (n + 1) (fun x => x * f x) := ⟨0, f, h, fun x => Cg.of_eq (Int.zero_add _).symm⟩
theorem Deg.up : ∀ {n : Nat} {f : Int → Int}, Deg q n f → Deg q (n + 1) f
 | 0, _, hf => ⟨0, fun _ => 0, fun _ => Cg.refl _ _, fun x => (hf x).trans (Cg.of_eq (by simp))⟩
 | _ + 1, _, ⟨c, g, hg, hx⟩ => ⟨c, g, hg.up, hx⟩
theorem Deg.const (c : Int) : Deg q 1 (fun _ => c) := ⟨c, fun _ => 0, fun _ => Cg.refl _ _, fun x => Cg.of_eq (by simp)⟩
theorem Deg.lin {n : Nat} {f : Int → Int} (a : Int) (h : Deg q n f) : Deg q (n + 1) (fun x => (x - a) * f x) :=
 (h.mulx.add (h.smul (-a)).up).congr fun x => Cg.of_eq (by rw [Int.sub_mul, Int.neg_mul]; omega)
theorem Deg.sub {n : Nat} {f g : Int → Int} (h : Deg q n f) (h1 : Deg q n g) : Deg q n (fun x => f x - g x) :=
 (h.add (h1.smul (-1))).congr fun x => Cg.of_eq (by omega)
theorem Deg.div : ∀ {n : Nat} {f : Int → Int}, Deg q (n + 1) f → ∀ r, ∃ g, Deg q n g ∧ ∀ x, Cg q (f x - f r) ((x - r) * g x)
 | 0, f, ⟨c, g, hg, hx⟩, r => ⟨fun _ => 0, fun _ => Cg.refl _ _, fun x => by
   have e : ∀ x, Cg q (f x) c := fun x => (hx x).trans (((Cg.refl q c).add ((Cg.refl q x).mul (hg x))).trans (Cg.of_eq (by simp)))
   exact ((e x).sub (e r)).trans (Cg.of_eq (by simp))⟩
 | n + 1, f, ⟨c, g, hg, hx⟩, r => by
   obtain ⟨k, hk, hy⟩ := Deg.div hg r
   refine ⟨fun x => g x + r * k x, hg.add (hk.smul r).up, fun x => ?_⟩
   refine ((hx x).sub (hx r)).trans ?_
   have h1 : Cg q ((x - r) * g x + r * (g x - g r)) ((x - r) * g x + r * ((x - r) * k x)) := (Cg.refl _ _).add ((Cg.refl _ _).mul (hy x))
   refine Cg.trans (Cg.of_eq ?_) (h1.trans (Cg.of_eq ?_))
   ·rw [Int.sub_mul, Int.mul_sub]; omega
   ·rw [Int.mul_add, ← Int.mul_assoc r, Int.mul_comm r, Int.mul_assoc]
def Prm (q : Int) : Prop := ∀ a b : Int, q ∣ a * b → q ∣ a ∨ q ∣ b
def Dis (q : Int) (l : List Int) : Prop := l.Pairwise fun a b => ¬ q ∣ b - a
theorem Deg.roots (hq : Prm q) : ∀ {n : Nat} {f : Int → Int}, Deg q n f → ∀ l : List Int, l.length = n → Dis q l → (∀ r ∈ l, Cg q (f r) 0) → ∀ x, Cg q (f x) 0
 | 0, _, hf, _, _, _, _ => hf
 | n + 1, f, hf, [], hl, _, _ => by simp at hl
 | n + 1, f, hf, r :: l, hl, hd, hr => by
   obtain ⟨g, hg, hx⟩ := hf.div r
   have h0 := hr r (List.mem_cons_self ..)
   have hd' := List.pairwise_cons.1 hd
   have hg0 := Deg.roots hq hg l (by simpa using hl) hd'.2 fun s hs => by
    have e1 : Cg q ((s - r) * g s) 0 := (hx s).symm.trans (((hr s (List.mem_cons_of_mem _ hs)).sub h0).trans (Cg.of_eq (by simp)))
    unfold Cg at e1 ⊢
    rw [Int.sub_zero] at e1 ⊢
    exact (hq _ _ e1).resolve_left (hd'.1 s hs)
   intro x
   have e2 : Cg q (f x - f r) 0 := (hx x).trans (((Cg.refl _ _).mul (hg0 x)).trans (Cg.of_eq (by simp)))
   have e3 := e2.add h0
   rwa [show f x - f r + f r = f x by omega] at e3
theorem Deg.uniq (hq : Prm q) {n : Nat} {f g : Int → Int} (hf : Deg q n f) (hg : Deg q n g) (l : List Int) (hl : l.length = n) (hd : Dis q l) (h : ∀ r ∈ l, Cg q (f r) (g r)) (x : Int) : Cg q (f x) (g x) := by
 have := (hf.sub hg).roots hq l hl hd (fun r hr => ((h r hr).sub (Cg.refl _ _)).trans (Cg.of_eq (by simp))) x
 have := this.add (Cg.refl q (g x))
 rwa [show f x - g x + g x = f x by omega, Int.zero_add] at this
end
def pA : List Int → Int → Int
 | [], _ => 1
 | a :: l, x => (x - a) * pA l x
def pE : List Int → Nat → Int → Int
 | [], _, _ => 1
 | _ :: l, 0, x => pA l x
 | a :: l, i + 1, x => (x - a) * pE l i x
section
variable {q : Int}
theorem pA_deg : ∀ l, Deg q (l.length + 1) (pA l)
 | [] => Deg.const 1
 | a :: l => (pA_deg l).lin a
theorem pE_deg : ∀ (l : List Int) (i : Nat), i < l.length → Deg q l.length (pE l i)
 | [], _, h => by simp at h
 | _ :: l, 0, _ => pA_deg l
 | a :: l, i + 1, h => (pE_deg l i (by simpa using h)).lin a
theorem pA_root : ∀ (l : List Int) (r : Int), r ∈ l → pA l r = 0
 | [], _, h => by simp at h
 | a :: l, r, h => by
   rcases List.mem_cons.1 h with rfl | h
   ·simp [pA]
   ·simp [pA, pA_root l r h]
theorem pE_root : ∀ (l : List Int) (i j : Nat) (hj : j < l.length), i ≠ j → pE l i (l[j]) = 0
 | [], _, _, h, _ => by simp at h
 | a :: l, 0, j + 1, h, _ => pA_root l _ (List.getElem_mem _)
 | a :: l, 0, 0, _, h => absurd rfl h
 | a :: l, i + 1, 0, _, _ => by simp [pE]
 | a :: l, i + 1, j + 1, h, hn => by simp only [pE, List.getElem_cons_succ]; rw [pE_root l i j (by simpa using h) (by omega)]; simp
theorem pA_nd (hq : Prm q) (h1 : ¬ q ∣ 1) : ∀ (l : List Int) (x : Int), (∀ a ∈ l, ¬ q ∣ x - a) → ¬ q ∣ pA l x
 | [], _, _ => h1
 | a :: l, x, h => fun e => (hq _ _ e).elim (h a (List.mem_cons_self ..)) (pA_nd hq h1 l x fun b hb => h b (List.mem_cons_of_mem _ hb))
theorem pE_nd (hq : Prm q) (h1 : ¬ q ∣ 1) : ∀ (l : List Int) (i : Nat) (hi : i < l.length), Dis q l → ¬ q ∣ pE l i (l[i])
 | [], _, h, _ => by simp at h
 | a :: l, 0, _, hd => pA_nd hq h1 l a fun b hb => fun e => (List.pairwise_cons.1 hd).1 b hb (by have := Int.dvd_neg.2 e; rwa [Int.neg_sub] at this)
 | a :: l, i + 1, hi, hd => fun e => (hq _ _ e).elim ((List.pairwise_cons.1 hd).1 _ (List.getElem_mem _)) (pE_nd hq h1 l i (by simpa using hi) (List.pairwise_cons.1 hd).2)
def sm : Nat → (Nat → Int) → Int
 | 0, _ => 0
 | n + 1, f => sm n f + f n
theorem sm_cg {n : Nat} {f g : Nat → Int} (h : ∀ i, i < n → Cg q (f i) (g i)) : Cg q (sm n f) (sm n g) := by
 induction n with
 | zero => exact Cg.refl _ _
 | succ n ih => exact (ih fun i hi => h i (by omega)).add (h n (by omega))
theorem sm_zero {n : Nat} {f : Nat → Int} (h : ∀ i, i < n → Cg q (f i) 0) : Cg q (sm n f) 0 := by
 induction n with
 | zero => exact Cg.refl _ _
 | succ n ih => exact ((ih fun i hi => h i (by omega)).add (h n (by omega))).trans (Cg.of_eq (by simp))
theorem sm_one {n : Nat} {f : Nat → Int} (k : Nat) (hk : k < n) (h : ∀ i, i < n → i ≠ k → Cg q (f i) 0) : Cg q (sm n f) (f k) := by
 induction n with
 | zero => omega
 | succ n ih =>
  by_cases e : k = n
  ·subst e
   exact ((sm_zero fun i hi => h i (by omega) (by omega)).add (Cg.refl _ _)).trans (Cg.of_eq (by simp))
  ·exact ((ih (by omega) fun i hi => h i (by omega)).add (h n (by omega) (by omega))).trans (Cg.of_eq (by simp))
theorem sm_deg {m n : Nat} {f : Nat → Int → Int} (h : ∀ i, i < n → Deg q m (f i)) : Deg q m (fun x => sm n fun i => f i x) := by
 induction n with
 | zero => exact Deg.zero m
 | succ n ih => exact (ih fun i hi => h i (by omega)).add (h n (by omega))
def lagr (iv : Int → Int) (l : List Int) (v : Nat → Int) (x : Int) : Int := sm l.length fun i => v i * (pE l i x * iv (pE l i (l.getD i 0)))
theorem lagr_deg (iv : Int → Int) (l : List Int) (v : Nat → Int) : Deg q l.length (lagr iv l v) :=
 sm_deg fun i hi => ((pE_deg l i hi).smul (v i * iv (pE l i (l.getD i 0)))).congr fun x => Cg.of_eq (by rw [Int.mul_assoc, Int.mul_comm (pE l i x)])
theorem lagr_at (hq : Prm q) (h1 : ¬ q ∣ 1) (iv : Int → Int) (hiv : ∀ d, ¬ q ∣ d → Cg q (d * iv d) 1) (l : List Int) (hd : Dis q l) (v : Nat → Int) (k : Nat) (hk : k < l.length) : Cg q (lagr iv l v (l[k])) (v k) := by
 refine (sm_one k hk fun i hi hn => Cg.of_eq ?_).trans ?_
 ·rw [pE_root l i k hk hn]; simp
 ·rw [show l.getD k 0 = l[k] by simp [List.getD, hk]]
  exact ((Cg.refl _ _).mul (hiv _ (pE_nd hq h1 l k hk hd))).trans (Cg.of_eq (by simp))
theorem lagr_uniq (hq : Prm q) (h1 : ¬ q ∣ 1) (iv : Int → Int) (hiv : ∀ d, ¬ q ∣ d → Cg q (d * iv d) 1) (l : List Int) (hd : Dis q l) (v : Nat → Int) {f : Int → Int} {n : Nat} (hf : Deg q n f) (hn : n ≤ l.length) (h : ∀ k (hk : k < l.length), Cg q (f (l[k])) (v k)) (x : Int) : Cg q (lagr iv l v x) (f x) := by
 have hup : ∀ m, n ≤ m → Deg q m f := fun m hm => by
  obtain ⟨j, rfl⟩ : ∃ j, m = n + j := ⟨m - n, by omega⟩
  clear hm hn
  induction j with
  | zero => exact hf
  | succ j ih => exact ih.up
 refine Deg.uniq hq (lagr_deg iv l v) (hup _ hn) l rfl hd (fun r hr => ?_) x
 obtain ⟨k, hk, rfl⟩ := List.getElem_of_mem hr
 exact (lagr_at hq h1 iv hiv l hd v k hk).trans (h k hk).symm
end
end Go.Proofs.Ytjmeakfjfpnciaa
namespace Go.Proofs.Ytjmeakfjfpnciaa
theorem Cg.pow {q a b : Int} (h : Cg q a b) : ∀ n : Nat, Cg q (a ^ n) (b ^ n)
 | 0 => by rw [Int.pow_zero, Int.pow_zero]; exact Cg.refl _ _
 | n + 1 => by rw [Int.pow_succ, Int.pow_succ]; exact (Cg.pow h n).mul h
theorem Cg.nat {q a b : Nat} (h : Cg (q : Int) (a : Int) (b : Int)) : a % q = b % q := by
 unfold Cg at h
 have h1 := Int.emod_emod_of_dvd
 have h2 : (a : Int) % (q : Int) = (b : Int) % (q : Int) := Int.emod_eq_emod_iff_emod_sub_eq_zero.2 (Int.emod_eq_zero_of_dvd h)
 exact_mod_cast h2
theorem Cg.of_nat {q a b : Nat} (h : a % q = b % q) : Cg (q : Int) (a : Int) (b : Int) := by
 unfold Cg
 refine Int.dvd_of_emod_eq_zero (Int.emod_eq_emod_iff_emod_sub_eq_zero.1 ?_)
 exact_mod_cast h
theorem Cg.natmod (q a : Nat) : Cg (q : Int) ((a % q : Nat) : Int) (a : Int) := Cg.of_nat (Nat.mod_mod a q)
def prI : Nat → (Nat → Int) → Int
 | 0, _ => 1
 | n + 1, f => prI n f * f n
theorem prI_cg {q : Int} {n : Nat} {f g : Nat → Int} (h : ∀ i, i < n → Cg q (f i) (g i)) : Cg q (prI n f) (prI n g) := by
 induction n with
 | zero => exact Cg.refl _ _
 | succ n ih => exact (ih fun i hi => h i (by omega)).mul (h n (by omega))
theorem prI_mul (f g : Nat → Int) : ∀ n, prI n (fun i => f i * g i) = prI n f * prI n g
 | 0 => rfl
 | n + 1 => by
  show prI n _ * (f n * g n) = prI n f * f n * (prI n g * g n)
  rw [prI_mul f g n]
  rw [Int.mul_assoc, Int.mul_assoc, Int.mul_left_comm (prI n g)]
theorem prI_shift (f : Nat → Int) : ∀ n, prI (n + 1) f = f 0 * prI n fun i => f (i + 1)
 | 0 => by show 1 * f 0 = f 0 * 1; omega
 | n + 1 => by
  show prI (n + 1) f * f (n + 1) = f 0 * (prI n (fun i => f (i + 1)) * f (n + 1))
  rw [prI_shift f n, Int.mul_assoc]
theorem prI_sgn {f : Nat → Int} (h : ∀ i, f i = 1 ∨ f i = -1) : ∀ n, prI n f = 1 ∨ prI n f = -1
 | 0 => Or.inl rfl
 | n + 1 => by
  show prI n f * f n = 1 ∨ prI n f * f n = -1
  rcases prI_sgn h n with a | a <;> rcases h n with b | b <;> rw [a, b] <;> simp
def gxI (l : List Int) (i : Nat) (x : Int) (t : Nat) : Int := if i = t then 1 else x - l.getD t 0
def sgI (i t : Nat) : Int := if i = t then 1 else -1
theorem pA_pr (x : Int) : ∀ l : List Int, pA l x = prI l.length fun t => x - l.getD t 0
 | [] => rfl
 | a :: l => by
  rw [List.length_cons, prI_shift]
  show (x - a) * pA l x = (x - a) * _
  rw [pA_pr x l]
  rfl
theorem pE_pr (x : Int) : ∀ (l : List Int) (i : Nat), i < l.length → pE l i x = prI l.length (gxI l i x)
 | [], _, h => by simp at h
 | a :: l, 0, _ => by
  rw [List.length_cons, prI_shift]
  show pA l x = 1 * prI l.length fun t => gxI (a :: l) 0 x (t + 1)
  rw [pA_pr, Int.one_mul]
  congr 1
 | a :: l, i + 1, h => by
  rw [List.length_cons, prI_shift]
  show (x - a) * pE l i x = gxI (a :: l) (i + 1) x 0 * prI l.length fun t => gxI (a :: l) (i + 1) x (t + 1)
  rw [pE_pr x l i (by simpa using h)]
  have e0 : gxI (a :: l) (i + 1) x 0 = x - a := by unfold gxI; rw [if_neg (by omega)]; rfl
  have e1 : (fun t => gxI (a :: l) (i + 1) x (t + 1)) = gxI l i x := by
   funext t
   unfold gxI
   by_cases e : i = t
   ·rw [if_pos e, if_pos (by omega)]
   ·rw [if_neg e, if_neg (by omega)]; rfl
  rw [e0, e1]
def prU (f : Int → Nat) (l : List Int) (i : Nat) : Nat → Nat
 | 0 => 1
 | j + 1 => if i = j then prU f l i j else prU f l i j * f (l.getD j 0)
def prQ (q : Nat) (f : Int → Nat) (l : List Int) (i : Nat) : Nat → Nat
 | 0 => 1
 | j + 1 => if i = j then prQ q f l i j else prQ q f l i j * f (l.getD j 0) % q
theorem prU_pr {q : Nat} {f : Int → Nat} {l : List Int} (i : Nat) (x : Int) : ∀ n, (∀ j, j < n → Cg (q : Int) (f (l.getD j 0) : Int) (x - l.getD j 0)) → Cg (q : Int) (prU f l i n : Int) (prI n (gxI l i x))
 | 0, _ => Cg.of_eq rfl
 | n + 1, h => by
  have ih := prU_pr (f := f) i x n fun j hj => h j (by omega)
  show Cg (q : Int) ((if i = n then prU f l i n else prU f l i n * f (l.getD n 0) : Nat) : Int) (prI n (gxI l i x) * gxI l i x n)
  unfold gxI
  by_cases e : i = n
  ·rw [if_pos e, if_pos e, Int.mul_one]; exact ih
  ·rw [if_neg e, if_neg e, Int.natCast_mul]; exact ih.mul (h n (by omega))
theorem prQ_pr {q : Nat} {f : Int → Nat} {l : List Int} (i : Nat) (x : Int) : ∀ n, (∀ j, j < n → Cg (q : Int) (f (l.getD j 0) : Int) (l.getD j 0 - x)) → Cg (q : Int) (prQ q f l i n : Int) (prI n fun t => sgI i t * gxI l i x t)
 | 0, _ => Cg.of_eq rfl
 | n + 1, h => by
  have ih := prQ_pr (f := f) i x n fun j hj => h j (by omega)
  show Cg (q : Int) ((if i = n then prQ q f l i n else prQ q f l i n * f (l.getD n 0) % q : Nat) : Int) (prI n (fun t => sgI i t * gxI l i x t) * (sgI i n * gxI l i x n))
  unfold gxI sgI at ih ⊢
  by_cases e : i = n
  ·rw [if_pos e, if_pos e, if_pos e, Int.mul_one, Int.mul_one]; exact ih
  ·rw [if_neg e, if_neg e, if_neg e]
   refine (Cg.natmod q _).trans ?_
   rw [Int.natCast_mul]
   exact ih.mul ((h n (by omega)).trans (Cg.of_eq (by omega)))
def wtU (q : Nat) (l : List Int) (i : Nat) (x : Int) : Nat := prU (fun b => modI q (x - b)) l i l.length
def wtN (q : Nat) (l : List Int) (i : Nat) (x : Int) : Nat := wtU q l i x * wtU q l i (l.getD i 0) ^ (q - 2)
def sbN (q : Nat) (x b : Int) : Nat := (b.toNat + (q - x.toNat)) % q
def wtV (q : Nat) (l : List Int) (i : Nat) (x : Int) : Nat := prQ q (sbN q x) l i l.length
def wtQ (q : Nat) (l : List Int) (i : Nat) (x : Int) : Nat := wtV q l i x * (wtV q l i (l.getD i 0) ^ (q - 2) % q) % q
theorem modI_cg (q : Nat) (hq : 0 < q) (n : Int) : Cg (q : Int) (modI q n : Int) n := by
 unfold modI
 rw [Int.toNat_of_nonneg (Int.emod_nonneg n (by omega))]
 exact Cg.mod _ _
theorem sbN_cg (q : Nat) (x b : Int) (hx : 0 ≤ x ∧ x ≤ 255) (hb : 0 ≤ b) (hq : 255 ≤ q) : Cg (q : Int) (sbN q x b : Int) (b - x) := by
 unfold sbN
 refine (Cg.natmod q _).trans ?_
 unfold Cg
 have e : ((b.toNat + (q - x.toNat) : Nat) : Int) - (b - x) = (q : Int) := by omega
 rw [e]
 exact ⟨1, by omega⟩
theorem wtU_cg (q : Nat) (hq : 0 < q) (l : List Int) (i : Nat) (hi : i < l.length) (x : Int) : Cg (q : Int) (wtU q l i x : Int) (pE l i x) := by
 rw [pE_pr x l i hi]
 exact prU_pr i x _ fun j _ => modI_cg q hq _
theorem wtN_cg (q : Nat) (hq : 0 < q) (l : List Int) (i : Nat) (hi : i < l.length) (x : Int) : Cg (q : Int) (wtN q l i x : Int) (pE l i x * pE l i (l.getD i 0) ^ (q - 2)) := by
 unfold wtN
 rw [Int.natCast_mul, Int.natCast_pow]
 exact (wtU_cg q hq l i hi x).mul ((wtU_cg q hq l i hi _).pow _)
theorem getD_in {l : List Int} {j : Nat} (h : ∀ b ∈ l, 0 ≤ b ∧ b ≤ 255) : 0 ≤ l.getD j 0 ∧ l.getD j 0 ≤ 255 := by
 by_cases hj : j < l.length
 ·rw [List.getD_eq_getElem?_getD, List.getElem?_eq_getElem hj]; exact h _ (List.getElem_mem hj)
 ·rw [List.getD_eq_getElem?_getD, List.getElem?_eq_none (by omega)]; decide
theorem wtV_cg (q : Nat) (hq : 255 ≤ q) (l : List Int) (hl : ∀ b ∈ l, 0 ≤ b ∧ b ≤ 255) (i : Nat) (hi : i < l.length) (x : Int) (hx : 0 ≤ x ∧ x ≤ 255) : Cg (q : Int) (wtV q l i x : Int) (prI l.length (sgI i) * pE l i x) := by
 rw [pE_pr x l i hi, ← prI_mul]
 exact prQ_pr i x _ fun j _ => sbN_cg q x _ hx (getD_in hl).1 hq
theorem sgn_pow {s : Int} (h : s = 1 ∨ s = -1) : ∀ n : Nat, s * (s * s) ^ n = s
 | 0 => by simp
 | n + 1 => by
  have e : s * s = 1 := by rcases h with h | h <;> rw [h] <;> rfl
  rw [e, Int.one_pow, Int.mul_one]
theorem sgn_odd {s : Int} (h : s = 1 ∨ s = -1) {m : Nat} (hm : m % 2 = 1) : s ^ m = s := by
 have e : m = 2 * (m / 2) + 1 := by omega
 rw [e, Int.pow_succ, Int.pow_mul, show s ^ 2 = s * s by rw [Int.pow_succ, Int.pow_succ, Int.pow_zero, Int.one_mul]]
 rw [Int.mul_comm]
 exact sgn_pow h _
theorem wt_eq (q : Nat) (hq : 255 ≤ q) (ho : q % 2 = 1) (l : List Int) (hl : ∀ b ∈ l, 0 ≤ b ∧ b ≤ 255) (i : Nat) (hi : i < l.length) (x : Int) (hx : 0 ≤ x ∧ x ≤ 255) : wtN q l i x % q = wtQ q l i x := by
 have h1 := wtN_cg q (by omega) l i hi x
 have h2 : Cg (q : Int) (wtQ q l i x : Int) (pE l i x * pE l i (l.getD i 0) ^ (q - 2)) := by
  unfold wtQ
  refine (Cg.natmod q _).trans ?_
  rw [Int.natCast_mul]
  refine ((wtV_cg q hq l hl i hi x hx).mul ((Cg.natmod q _).trans (Cg.of_eq (Int.natCast_pow _ _)))).trans ?_
  refine ((Cg.refl _ _).mul ((wtV_cg q hq l hl i hi _ (getD_in hl)).pow (q - 2))).trans (Cg.of_eq ?_)
  have hs := prI_sgn (f := sgI i) (fun t => by unfold sgI; by_cases e : i = t; exact Or.inl (if_pos e); exact Or.inr (if_neg e)) l.length
  generalize prI l.length (sgI i) = s at hs ⊢
  rw [Int.mul_pow, sgn_odd hs (show (q - 2) % 2 = 1 by omega)]
  have e : s * s = 1 := by rcases hs with h | h <;> rw [h] <;> rfl
  generalize pE l i (l.getD i 0) ^ (q - 2) = D
  generalize pE l i x = U
  calc s * U * (s * D) = (s * s) * (U * D) := by simp only [Int.mul_comm, Int.mul_left_comm]
   _ = U * D := by rw [e, Int.one_mul]
 have h3 := (h1.trans h2.symm).nat
 have h4 : wtQ q l i x % q = wtQ q l i x := Nat.mod_eq_of_lt (by unfold wtQ; exact Nat.mod_lt _ (by omega))
 rw [h3, h4]
def thU (q : Nat) (l : List Int) (v : Nat → Nat) (x : Int) : Nat → Nat
 | 0 => 0
 | i + 1 => thU q l v x i + wtN q l i x * v i
def thQ (q : Nat) (l : List Int) (v : Nat → Nat) (x : Int) : Nat → Nat
 | 0 => 0
 | i + 1 => (thQ q l v x i + wtQ q l i x * v i % q) % q
theorem th_eq (q : Nat) (hq : 255 ≤ q) (ho : q % 2 = 1) (l : List Int) (hl : ∀ b ∈ l, 0 ≤ b ∧ b ≤ 255) (v : Nat → Nat) (x : Int) (hx : 0 ≤ x ∧ x ≤ 255) : ∀ i, i ≤ l.length → thU q l v x i % q = thQ q l v x i
 | 0, _ => Nat.zero_mod q
 | i + 1, h => by
  show (thU q l v x i + wtN q l i x * v i) % q = (thQ q l v x i + wtQ q l i x * v i % q) % q
  rw [Nat.add_mod, th_eq q hq ho l hl v x hx i (by omega), Nat.mul_mod, wt_eq q hq ho l hl i (by omega) x hx, Nat.mul_mod_mod]
theorem thU_cg (q : Nat) (hq : 0 < q) (l : List Int) (v : Nat → Nat) (x : Int) : ∀ i, i ≤ l.length → Cg (q : Int) (thU q l v x i : Int) (sm i fun j => (v j : Int) * (pE l j x * pE l j (l.getD j 0) ^ (q - 2)))
 | 0, _ => Cg.of_eq rfl
 | i + 1, h => by
  show Cg (q : Int) ((thU q l v x i + wtN q l i x * v i : Nat) : Int) (sm i _ + _)
  rw [Int.natCast_add, Int.natCast_mul, Int.mul_comm]
  exact (thU_cg q hq l v x i (by omega)).add ((Cg.refl _ _).mul (wtN_cg q hq l i (by omega) x))
theorem thU_lagr (q : Nat) (hq : 0 < q) (l : List Int) (v : Nat → Nat) (x : Int) : Cg (q : Int) (thU q l v x l.length : Int) (lagr (fun d => d ^ (q - 2)) l (fun j => (v j : Int)) x) := thU_cg q hq l v x _ (Nat.le_refl _)
end Go.Proofs.Ytjmeakfjfpnciaa
namespace Go.Proofs.Ytjmeakfjfpnciaa
open Go.RowKit
def outPl (x : Int) : Bool := decide (x < 0) || decide (255 < x)
def placesE (l : List Int) : Nat := if 16 < l.length then 3 else if l.length = 0 then 2 else if l.any outPl = true then 4 else if l.Nodup then 0 else 10
def intV (x : Int) : Value := .int .i64 x
def thereC (s : List Int) : List Value := (List.range 256).map fun k : Nat => .bool (decide (((k : Nat) : Int) ∈ s))
theorem thereC_len (s : List Int) : (thereC s).length = 256 := by unfold thereC; rw [List.length_map, List.length_range]
theorem thereC_nil : thereC [] = List.replicate 256 (.bool false) := by
 unfold thereC
 have e : (fun k : Nat => Value.bool (decide ((k : Int) ∈ ([] : List Int)))) = fun _ => Value.bool false := by funext k; rw [decide_eq_false List.not_mem_nil]
 rw [e]
 exact (List.map_const' ..).trans (by rw [List.length_range])
theorem thereC_at (s : List Int) (k : Nat) (hk : k < 256) : (thereC s)[k]? = some (.bool (decide ((k : Int) ∈ s))) := by
 unfold thereC
 rw [List.getElem?_map, List.getElem?_range hk]
 rfl
theorem thereC_set (s : List Int) (k : Nat) (hk : k < 256) : (thereC s).set k (.bool true) = thereC (s ++ [(k : Int)]) := by
 refine List.ext_getElem? fun i => ?_
 by_cases hi : i < 256
 ·rw [thereC_at _ _ hi]
  by_cases e : k = i
  ·subst e
   rw [List.getElem?_set_self (by rw [thereC_len]; exact hk)]
   simp
  ·rw [List.getElem?_set_ne e, thereC_at _ _ hi]
   have : ((i : Int) ∈ s ++ [(k : Int)]) ↔ ((i : Int) ∈ s) := by simp; omega
   rw [decide_eq_decide.2 this]
 ·rw [List.getElem?_eq_none (by rw [List.length_set, thereC_len]; omega), List.getElem?_eq_none (by rw [thereC_len]; omega)]
theorem nodup_snoc {s : List Int} {x : Int} : (s ++ [x]).Nodup ↔ s.Nodup ∧ x ∉ s := by
 rw [List.nodup_append]
 constructor
 ·rintro ⟨h1, _, h3⟩
  exact ⟨h1, fun h => h3 x h x (List.mem_singleton.2 rfl) rfl⟩
 ·rintro ⟨h1, h2⟩
  refine ⟨h1, by simp, fun a ha b hb e => ?_⟩
  obtain rfl := List.mem_singleton.1 hb
  subst e
  exact h2 ha
theorem pl_out {l : List Int} {j : Nat} (h16 : ¬ 16 < l.length) (hj : j < l.length) (h : outPl l[j] = true) : placesE l = 4 := by
 unfold placesE
 rw [if_neg h16, if_neg (by omega), if_pos (List.any_eq_true.2 ⟨_, List.getElem_mem hj, h⟩)]
theorem pl_end {l : List Int} (h16 : ¬ 16 < l.length) (h0 : l.length ≠ 0) (h : (l.take l.length).any outPl = false) : placesE l = if l.Nodup then 0 else 10 := by
 unfold placesE
 rw [List.take_length] at h
 rw [if_neg h16, if_neg h0, h]
 rfl
theorem outP_false {x : Int} (h : outPl x = false) : 0 ≤ x ∧ x ≤ 255 := by
 unfold outPl at h
 simp at h
 exact h
theorem outP_cases (x : Int) : (x < 0 ∧ outPl x = true) ∨ (255 < x ∧ ¬ x < 0 ∧ outPl x = true) ∨ (∃ k : Nat, x = k ∧ k < 256 ∧ outPl x = false) := by
 unfold outPl
 by_cases h1 : x < 0
 ·exact Or.inl ⟨h1, by simp [h1]⟩
 ·by_cases h2 : 255 < x
  ·exact Or.inr (Or.inl ⟨h2, h1, by simp [h2]⟩)
  ·exact Or.inr (Or.inr ⟨x.toNat, by omega, by omega, by simp [h1, h2]⟩)
theorem any_snocP {l : List Int} {j : Nat} (hj : j < l.length) (h : (l.take j).any outPl = false) (h1 : outPl l[j] = false) : (l.take (j + 1)).any outPl = false := by
 rw [List.take_succ_eq_append_getElem hj, List.any_append, h]; simp [h1]
theorem places_any (l : List Int) (n : Nat) (hn : l.length = n) (hm : n ≤ 1152921504606846975) (a : Option Addr) (c : Nat) (w : World) (hX : Sl w w.heap.size a (l.map intV)) :
  Calls Try.prog 58 #[.slice a n c] w fun e w' => e = .returned (.int .i64 (placesE l : Int)) ∧ Below w.heap.size w w' := by
 have HN := Lib.hid hn
 have HX := Lib.hid hX
 obtain ⟨z, hz⟩ : ∃ z, placesE l = z := ⟨_, rfl⟩
 rw [hz]
 by_cases h16 : 16 < n
 ·obtain rfl : z = 3 := by rw [← hz]; unfold placesE; rw [if_pos (by omega)]
  have hd : decide ((n : Int) > 16) = true := by simp; omega
  clear hn hX hz h16
  go_enter Try.func58, Try.ntmps58
  go_wp2_with fail
  go_ret
  exact ⟨rfl, Below.refl _ _⟩
 have hd : decide ((n : Int) > 16) = false := by simp; omega
 by_cases h0 : n = 0
 ·obtain rfl : z = 2 := by rw [← hz]; unfold placesE; rw [if_neg (by omega), if_pos (by omega)]
  have hd0 : ((n : Int) == 0) = true := by simp; omega
  clear hn hX hz h16 h0
  go_enter Try.func58, Try.ntmps58
  go_wp2_with fail
  go_ret
  exact ⟨rfl, Below.refl _ _⟩
 have hd0 : ((n : Int) == 0) = false := by simp; omega
 have HP := Lib.hid (fun (j : Nat) (hj : j < l.length) (h : outPl l[j] = true) => (show z = 4 from hz ▸ pl_out (by omega) hj h))
 have HE := Lib.hid (fun (h : (l.take l.length).any outPl = false) => (show z = if l.Nodup then 0 else 10 from hz ▸ pl_end (by omega) (by omega) h))
 have hn16 : n ≤ 16 := by omega
 clear hn hX hz h16 h0 hm
 have hz0 : Try.zeroCells187 = (thereC []).toArray := by rw [thereC_nil]; kernel_rfl
 go_enter Try.func58, Try.ntmps58
 go_upto_region 6 with (fail)
 obtain ⟨w1, hq1, hb9, hz9, Htb⟩ := new1 w 187 (thereC [])
 rw [hq1]
 clear hq1
 have HB := Lib.hid hb9
 have HZS := hz9
 clear hb9 hz9
 go_wp2_with fail
 clear hd hd0
 go_loopw [17, 4] (fun i b wr => ∃ j : Nat, j ≤ n ∧ i = .int .i64 j ∧ b = .bool (decide (¬ (l.take j).Nodup)) ∧ Hid (Below w.heap.size w wr) ∧ Hid ((l.take j).any outPl = false) ∧ Hid (Bx wr w.heap.size 187 (thereC (l.take j)))) (fun i _ _ => n - (intOf i).toNat)
 case atStart => exact ⟨0, Nat.zero_le _, rfl, by simp, HB, rfl, Htb⟩
 case round =>
  clear HB Htb
  obtain ⟨j, hj, rfl, rfl, HB, HAL, Htb⟩ := hrel
  by_cases hjn : j < n
  ·have hjl : j < l.length := by rw [HN.out]; exact hjn
   obtain ⟨bl, ol, rfl, hbl, hc⟩ := (HX.out.up HB.out).at j (by rw [List.length_map]; exact hjl)
   rw [List.getElem_map] at hc
   unfold intV at hc
   have HTK := Lib.hid (List.take_succ_eq_append_getElem hjl)
   have HSN := Lib.hid (any_snocP hjl HAL.out)
   have HPJ := Lib.hid (HP.out j hjl)
   generalize l[j] = x at *
   rcases outP_cases x with ⟨h1, h2⟩ | ⟨h1, h1', h2⟩ | ⟨k, rfl, hk, h2⟩
   ·obtain rfl : z = 4 := HPJ.out h2
    clear h2
    go_wp2_with fail
    go_ret
    exact ⟨rfl, HB.out⟩
   ·obtain rfl : z = 4 := HPJ.out h2
    have h1'' : decide (x < 0) = false := decide_eq_false h1'
    have h1''' : decide (x > 255) = true := decide_eq_true h1
    clear h2 h1 h1'
    go_wp2_with fail
    go_ret
    exact ⟨rfl, HB.out⟩
   ·replace HSN := Lib.hid (HSN.out h2)
    have hcx := Htb.out.cell (thereC_at (l.take j) k hk)
    have HSE := Lib.hid (thereC_set (l.take j) k hk)
    have hd1 : decide ((k : Int) < 0) = false := by simp
    have hd2 : decide ((k : Int) > 255) = false := by simp; omega
    have hkk : k < 256 := hk
    clear h2
    have HND := Lib.hid (show (decide (¬ (l.take j).Nodup) || decide ((k : Int) ∈ l.take j)) = decide (¬ (l.take (j + 1)).Nodup) by
     rw [HTK.out]
     by_cases e1 : (l.take j).Nodup <;> by_cases e2 : (k : Int) ∈ l.take j <;> simp [nodup_snoc, e1, e2])
    obtain ⟨b3, hb3⟩ : ∃ b, decide (¬ (l.take (j + 1)).Nodup) = b := ⟨_, rfl⟩
    have HB3 := Lib.hid hb3
    rw [hb3] at HND
    clear hb3
    have HTW := Lib.hid (fun (W : World) (h : Bx W w.heap.size 187 ((thereC (l.take j)).set k (.bool true))) => show Bx W w.heap.size 187 (thereC (l.take (j + 1))) by rw [HTK.out, ← HSE.out]; exact h)
    clear HTK HSE HAL HPJ
    generalize decide (¬ (l.take j).Nodup) = b1 at *
    generalize decide ((k : Int) ∈ l.take j) = b2 at *
    generalize l.take j = l2 at *
    have HSW := Lib.hid (show w.heap.size < wr.heap.size from Htb.out.lt)
    replace HZS := sz HZS HSW.out
    cases b1
    ·obtain rfl : b2 = b3 := HND.out
     have f2_tb := Htb.out.frozen
     obtain ⟨w2, hq2, hg9, hz9, hx9⟩ := put1 Htb k (.bool true) _ rfl
     replace HB := hbg HB hg9 (by have g0 := HZS.out; omega)
     replace HZS := sz HZS hz9.out
     replace Htb := hx9
     clear hx9 hg9 hz9
     go_wp2_with fail
     go_roundw
     case rel => exact ⟨j + 1, by omega, by go_num, by rw [HB3.out], HB, HSN, Lib.hid (HTW.out _ Htb.out)⟩
     case measure => simp [intOf]; omega
    ·obtain rfl : true = b3 := HND.out
     have f2_tb := Htb.out.frozen
     obtain ⟨w2, hq2, hg9, hz9, hx9⟩ := put1 Htb k (.bool true) _ rfl
     replace HB := hbg HB hg9 (by have g0 := HZS.out; omega)
     replace HZS := sz HZS hz9.out
     replace Htb := hx9
     clear hx9 hg9 hz9
     go_wp2_with fail
     go_roundw
     case rel => exact ⟨j + 1, by omega, by go_num, by rw [HB3.out], HB, HSN, Lib.hid (HTW.out _ Htb.out)⟩
     case measure => simp [intOf]; omega
  ·have hjn' : j = n := by omega
   subst hjn'
   have hz := HE.out (by rw [HN.out]; exact HAL.out)
   rw [List.take_of_length_le (by rw [HN.out]; exact Nat.le_refl _)]
   by_cases hnd : l.Nodup
   ·obtain rfl : z = 0 := by rw [hz, if_pos hnd]
    rw [decide_eq_false (fun h => h hnd)]
    clear hz
    go_wp2_with fail
    go_ret
    exact ⟨rfl, HB.out⟩
   ·obtain rfl : z = 10 := by rw [hz, if_neg hnd]
    rw [decide_eq_true hnd]
    clear hz
    go_wp2_with fail
    go_ret
    exact ⟨rfl, HB.out⟩
end Go.Proofs.Ytjmeakfjfpnciaa
namespace Go.Proofs.Ytjmeakfjfpnciaa
open Go.RowKit
theorem infoScalar : (Try.prog.info? 98).map (fun i => (i.zero, i.size, i.bytes)) = some (some (.agg #[.int .u64 0, .int .u64 0, .int .u64 0, .int .u64 0]), 4, 32) := by kernel_rfl
theorem infoElem : (Try.prog.info? 117).map (fun i => (i.zero, i.size, i.bytes)) = some (some (.agg #[.int .u64 0, .int .u64 0, .int .u64 0, .int .u64 0]), 4, 32) := by kernel_rfl
def limC (m : Nat) (s : ByteArray) : List Value := [.int .u64 (dig (mont m (numOf s)) 0 : Int), .int .u64 (dig (mont m (numOf s)) 1 : Int), .int .u64 (dig (mont m (numOf s)) 2 : Int), .int .u64 (dig (mont m (numOf s)) 3 : Int)]
theorem limC_len (m : Nat) (s : ByteArray) : (limC m s).length = 4 := rfl
end Go.Proofs.Ytjmeakfjfpnciaa
