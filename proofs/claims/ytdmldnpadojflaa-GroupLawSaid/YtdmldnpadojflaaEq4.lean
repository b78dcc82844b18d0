/- Four limbs, compared. No condition. -/
import Derived.Test.YtdmldnpadojflaaBase
import Derived.Laws.StructEq
import Derived.ChangeKeysEq
namespace Go.Proofs.Ytdmldnpadojflaa
open Go.RowKit

theorem run_equalIn_four {P : Program} (w : World) (d : Nat) (t e : TypeId) (ht : P.underlying t = some (.array 4 e)) (he : P.underlying e = some (.int .u64)) (i : TypeInfo) (hi : P.info? e = some i) (hc : P.cellsOf e = 1) (hp : P.plainKey e = true) (x0 x1 x2 x3 y0 y1 y2 y3 : Int) :
    (Op.equalIn (d + 2) t (.agg #[.int .u64 x0, .int .u64 x1, .int .u64 x2, .int .u64 x3]) (.agg #[.int .u64 y0, .int .u64 y1, .int .u64 y2, .int .u64 y3])).run P w = .ok (x0 == y0 && (x1 == y1 && (x2 == y2 && x3 == y3))) w := by
  rw [Op.equalIn]
  simp only [Sem.run_bind, run_underlying ht, Result.andThen_ok, run_sizeOf w hi, hc]
  have hx : ∀ (xs : Array Value) (k : Nat) (v : Value), xs[k]? = some v → (part e xs (k * 1)).run P w = .ok v w := fun xs k v h => run_part_plain w hp (by simpa using h)
  have eqi : ∀ a b : Int, (Op.equalIn (d + 1) e (.int .u64 a) (.int .u64 b)).run P w = .ok (a == b) w := fun a b => run_equalIn_int w d e .u64 .u64 a b he
  have h0 := hx #[.int .u64 x0, .int .u64 x1, .int .u64 x2, .int .u64 x3] 0 _ rfl
  have h1 := hx #[.int .u64 x0, .int .u64 x1, .int .u64 x2, .int .u64 x3] 1 _ rfl
  have h2 := hx #[.int .u64 x0, .int .u64 x1, .int .u64 x2, .int .u64 x3] 2 _ rfl
  have h3 := hx #[.int .u64 x0, .int .u64 x1, .int .u64 x2, .int .u64 x3] 3 _ rfl
  have g0 := hx #[.int .u64 y0, .int .u64 y1, .int .u64 y2, .int .u64 y3] 0 _ rfl
  have g1 := hx #[.int .u64 y0, .int .u64 y1, .int .u64 y2, .int .u64 y3] 1 _ rfl
  have g2 := hx #[.int .u64 y0, .int .u64 y1, .int .u64 y2, .int .u64 y3] 2 _ rfl
  have g3 := hx #[.int .u64 y0, .int .u64 y1, .int .u64 y2, .int .u64 y3] 3 _ rfl
  clear hx
  simp only [Std.Legacy.Range.forIn_eq_forIn_range', Std.Legacy.Range.size]
  have r4 : List.range' 0 ((4 - 0 + 1 - 1) / 1) 1 = [0, 1, 2, 3] := rfl
  rw [r4]
  simp only [List.forIn_cons, List.forIn_nil, Sem.run_bind, Sem.run_ite, Sem.run_pure, Result.andThen_ok, h0, g0, eqi]
  cases h0' : (x0 == y0) <;> cases h1' : (x1 == y1) <;> cases h2' : (x2 == y2) <;> cases h3' : (x3 == y3) <;> first | (simp [Sem.run_bind, h1, h2, h3, g1, g2, g3, eqi, h1', h2', h3']; done) | (simp [Sem.run_bind, h1, h2, h3, g1, g2, g3, eqi, h1', h2', h3']; simpa using h0')

/-- An operation that yields a value, by its own law. -/
theorem wpList_value {P : Program} (w : World) {ops : Array Oper} {rest : List Oper} {o : Oper} {a : Act} {Q : Exit → Act → World → Prop} (hgd : o.guard = none) (op : BinOp) (x y : Operand) (t t2 : TypeId) (ho : o.op = .binOp op t x y t2)
    (u v r : Value) (hx : a.eval x = u) (hy : a.eval y = v) (hg : (eqGuard op t x y u v).run P w = .ok () w) (hb : (binOp op t u v).run P w = .ok r w)
    (h : wpList P ops Q rest (a.put o.dst r) w) : wpList P ops Q (o :: rest) a w := by
  refine wpList_plain hgd fun K hK => ?_
  unfold Oper.wp execOp
  simp only [ho, hx, hy, Sem.run_bind, hg, hb, Result.andThen_ok, Sem.run_pure]
  exact hK _ _ h

theorem wpQuiet_bin {P : Program} {ops : Array Oper} {C : World → Prop} {Q : Act → Prop} {a : Act} {o : Oper} {rest : List Oper} (hw : Region.wanted o (yielded ops a.tmps) = true) (op : BinOp) (x y : Operand) (t t2 : TypeId) (ho : o.op = .binOp op t x y t2)
    (u v r : Value) (hx : a.eval x = u) (hy : a.eval y = v) (hg : ∀ w, (eqGuard op t x y u v).run P w = .ok () w) (hb : ∀ w, (binOp op t u v).run P w = .ok r w)
    (h : wpQuiet P ops C Q rest (a.put o.dst r)) : wpQuiet P ops C Q (o :: rest) a := by
  refine wpQuiet_step fun K hK => ?_
  rw [if_pos hw]
  refine ⟨r, fun w _ => ?_, hK _ h⟩
  unfold Oper.quietAt execOp
  simp only [ho, hx, hy, Sem.run_bind, hg, hb, Result.andThen_ok, Sem.run_pure]
  exact ⟨rfl, rfl⟩

theorem oper_value {P : Program} {o : Oper} {a : Act} {w w' : World} {v : Value} {K : Act → World → Prop} {Q : Exit → Act → World → Prop} (h : (execOp a.eval o).run P w = .ok (.value v) w') (hk : K (a.put o.dst v) w') : Oper.wp P o a w K Q := by
  unfold Oper.wp
  rw [h]
  exact hk

theorem if_wanted {o : Oper} {ys : Nat → Option Bool} {A B : Prop} (h : o.guard = none) (hk : A) : if Region.wanted o ys = true then A else B := by
  have hw : Region.wanted o ys = true := by unfold Region.wanted; rw [h]
  rw [if_pos hw]; exact hk

end Go.Proofs.Ytdmldnpadojflaa
