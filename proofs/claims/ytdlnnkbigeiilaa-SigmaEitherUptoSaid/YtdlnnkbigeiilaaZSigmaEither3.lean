/- Texts of this seat, one behind the other: what SigmaEither leans on. No condition beyond those that each names. -/
import Derived.Test.YtdlnnkbigeiilaaZSigmaEither2
import Derived.Deep.OwnRows

set_option maxRecDepth 100000
set_option maxHeartbeats 4000000
set_option linter.unusedVariables false
set_option linter.unusedSimpArgs false
namespace Go.Proofs.Ytdlnnkbigeiilaa
open Go.RowKit
theorem infoScalar : (Try.prog.info? 78).map (fun i => (i.zero, i.size, i.bytes)) = some (some (.agg #[.int .u64 0, .int .u64 0, .int .u64 0, .int .u64 0]), 4, 32) := by kernel_rfl
theorem infoElem : (Try.prog.info? 164).map (fun i => (i.zero, i.size, i.bytes)) = some (some (.agg #[.int .u64 0, .int .u64 0, .int .u64 0, .int .u64 0]), 4, 32) := by kernel_rfl
def limC (m : Nat) (s : ByteArray) : List Value := [.int .u64 (dig (mont m (numOf s)) 0 : Int), .int .u64 (dig (mont m (numOf s)) 1 : Int), .int .u64 (dig (mont m (numOf s)) 2 : Int), .int .u64 (dig (mont m (numOf s)) 3 : Int)]
theorem limC_len (m : Nat) (s : ByteArray) : (limC m s).length = 4 := rfl
def AllR (m : Nat) (f : ByteArray → Bool) (l : List ByteArray) (w : World) (e : Ending) (w' : World) : Prop :=
 Below w.heap.size w w' ∧ if l.all f then ∃ a c, e = .returned (.tuple #[.slice a l.length c, .bool true]) ∧ Sl w' w'.heap.size a (l.flatMap (limC m)) ∧ (∀ x, a = some x → w.heap.size ≤ x.block) else e = .returned (.tuple #[.slice none 0 0, .bool false])
theorem allSc_any (G : GP) (ok : G.Ok) (gb : Nat) (l : List ByteArray) (al : Option Addr) (cl : Nat) (hl : l.length ≤ 8796093022207) (w : World) (hG : GroupAt w gb G) (hS : Sl w w.heap.size al (l.map Value.string)) :
  Calls Try.prog 108 #[.slice al l.length cl, .func (.func 78) #[.pointer (some ⟨gb, 0, none⟩)] #[]] w (AllR G.q.m (isSc G.q.m G.size) l w) := by
 have OK := Lib.hid ok
 have HG := Lib.hid hG
 have HS := Lib.hid hS
 clear ok hG hS
 go_enter Try.func108, Try.ntmps108
 obtain ⟨i9, hi9, hz90, hz91, hz92⟩ := info_parts infoScalar
 go_wp2_with (at_make; refine wpList_make_own _ rfl _ _ 117 rfl (w.heap.size) 78 i9 _ 4 Try.underlying117 hi9 hz90 hz91 _ _ _ (l.length) rfl rfl ?c1 ?c2 ?c3 ?c4 ?_)
 case c1 => rfl
 case c2 => rw [hz92]; omega
 case c3 => unfold maxLen; omega
 case c4 => omega
 intro w1 hown9 hg9
 have hb9 : Below w.heap.size w w1 := (Below.refl _ _).grown hg9 (Nat.le_refl _) (fun q hq => by cases hq)
 have HB := Lib.hid hb9
 have HZS := Lib.hid hb9.size
 have Hr : Hid (RowO (w.heap.size) w1 78 4 (.slice (some ⟨w.heap.size, 0, none⟩) 0 (l.length)) 0 []) := Lib.hid hown9
 clear hb9 hown9 hg9 hi9 hz90 hz91 hz92
 go_wp2_with fail
 go_loopw [16, 6] (fun i v wr => ∃ j : Nat, j ≤ l.length ∧ i = .int .i64 j ∧ v = .slice (some ⟨w.heap.size, 0, none⟩) j l.length ∧ Hid (Below w.heap.size w wr) ∧ Hid ((l.take j).all (isSc G.q.m G.size) = true) ∧ Hid (RowO w.heap.size wr 78 4 (.slice (some ⟨w.heap.size, 0, none⟩) j l.length) j ((l.take j).flatMap (limC G.q.m)))) (fun i _ _ => l.length - (intOf i).toNat)
 case atStart => exact ⟨0, Nat.zero_le _, rfl, rfl, HB, rfl, Hr⟩
 case round =>
  obtain ⟨j, hj, rfl, rfl, HB, HAL, Hr⟩ := hrel
  by_cases hjl : j < l.length
  ·skip
   have Hs0 := Lib.hid (show w.heap.size < wr.heap.size from (Hr.out.lt _ rfl).2)
   replace HZS := sz HZS Hs0.out
   obtain ⟨bl, ol, rfl, hbl, hc⟩ := (HS.out.up HB.out).at j (by simpa using hjl)
   rw [List.getElem_map] at hc
   obtain ⟨bj, hbj⟩ : ∃ x, isSc G.q.m G.size l[j] = x := ⟨_, rfl⟩
   have HBJ := Lib.hid hbj
   clear hbj
   go_wp2_with fail
   refine (gScalar_m G OK.out gb l[j] bj HBJ.out wr (HG.out.up HB.out)).mono ?_
   rintro e w2 ⟨sx, rfl, hb9, hx9⟩
   replace Hr := Lib.hid (Hr.out.up hb9)
   replace HB := hbu HB hb9
   replace HZS := sz HZS hb9.size
   have HSX := Lib.hid hx9
   clear hx9 hb9
   unfold limbV
   obtain ⟨w3, hq3, hb9, hz9, Hbp⟩ := new1 w2 78 [.int .u64 (dig (sx) 0 : Int), .int .u64 (dig (sx) 1 : Int), .int .u64 (dig (sx) 2 : Int), .int .u64 (dig (sx) 3 : Int)]
   replace Hr := Lib.hid (Hr.out.up hb9)
   replace HB := hbu HB hb9
   replace HZS := sz HZS hz9.out
   clear hb9 hz9
   have bp_ := Hbp.out.c4
   cases bj
   ·go_wp2_with fail
    clear hq3
    go_ret2
    exact ⟨HB.out, by rw [if_neg (by rw [all_not hjl HBJ.out]; decide)]; rfl⟩
   ·obtain rfl := HSX.out rfl
    obtain ⟨i9, hi9, hz90, hz91, hz92⟩ := info_parts infoScalar
    go_wp2_with (at_builtin; refine wpList_fitR (w.heap.size) w3 rfl _ _ 117 rfl 78 i9 4 Try.underlying117 hi9 hz91 (w.heap.size) (j) ((l.length)) (((l.take j).flatMap (limC G.q.m))) rfl Hr.out _ _ _ rfl rfl rfl (by simp [Value.oneCell']) (by omega) ?_)
    intro w4 hown9 hg9
    clear hq3 bp_
    have hb9 := Below.grown HB.out hg9 (by have g0 := HZS.out; omega) (fun q hq => Nat.le_trans (show w.heap.size ≤ w.heap.size by have g0 := HZS.out; omega) (Hr.out.lt q hq).1)
    replace Hbp := Lib.hid (Hbp.out.grown hg9 (fun e9 => by have a0 := Option.some.inj e9; have a1 := Hr.out.lt _ e9; have g0 := HZS.out; omega))
    replace HZS := sz HZS hg9.size
    clear Hr HB
    have Hr := Lib.hid hown9
    have HB := Lib.hid hb9
    clear hb9 hown9 hg9 hi9 hz90 hz91 hz92
    have bp_ := Hbp.out.c4
    go_wp2_with fail
    go_roundw
    case rel => exact ⟨j + 1, by omega, by go_num, rfl, HB, all_snoc hjl HAL.out HBJ.out, Hr.out.eq (flat_snoc _ _ _ hjl).symm rfl⟩
    case measure => simp [intOf]; omega
  ·have hjn : j = l.length := by omega
   subst hjn
   go_wp2_with fail
   go_ret2
   rw [List.take_length] at Hr
   exact ⟨HB.out, by rw [if_pos (all_take_true HAL.out)]; exact ⟨_, _, rfl, Hr.out.sl, fun x hx => by cases hx; exact Nat.le_refl _⟩⟩
theorem allEl_any (G : GP) (ok : G.Ok) (gb : Nat) (l : List ByteArray) (al : Option Addr) (cl : Nat) (hl : l.length ≤ 8796093022207) (w : World) (hG : GroupAt w gb G) (hS : Sl w w.heap.size al (l.map Value.string)) :
  Calls Try.prog 144 #[.slice al l.length cl, .func (.func 105) #[.pointer (some ⟨gb, 0, none⟩)] #[]] w (AllR G.p.m (isEl G.q.m G.size) l w) := by
 have OK := Lib.hid ok
 have HG := Lib.hid hG
 have HS := Lib.hid hS
 clear ok hG hS
 go_enter Try.func144, Try.ntmps144
 obtain ⟨i9, hi9, hz90, hz91, hz92⟩ := info_parts infoElem
 go_wp2_with (at_make; refine wpList_make_own _ rfl _ _ 174 rfl (w.heap.size) 164 i9 _ 4 Try.underlying174 hi9 hz90 hz91 _ _ _ (l.length) rfl rfl ?c1 ?c2 ?c3 ?c4 ?_)
 case c1 => rfl
 case c2 => rw [hz92]; omega
 case c3 => unfold maxLen; omega
 case c4 => omega
 intro w1 hown9 hg9
 have hb9 : Below w.heap.size w w1 := (Below.refl _ _).grown hg9 (Nat.le_refl _) (fun q hq => by cases hq)
 have HB := Lib.hid hb9
 have HZS := Lib.hid hb9.size
 have Hr : Hid (RowO (w.heap.size) w1 164 4 (.slice (some ⟨w.heap.size, 0, none⟩) 0 (l.length)) 0 []) := Lib.hid hown9
 clear hb9 hown9 hg9 hi9 hz90 hz91 hz92
 go_wp2_with fail
 go_loopw [16, 6] (fun i v wr => ∃ j : Nat, j ≤ l.length ∧ i = .int .i64 j ∧ v = .slice (some ⟨w.heap.size, 0, none⟩) j l.length ∧ Hid (Below w.heap.size w wr) ∧ Hid ((l.take j).all (isEl G.q.m G.size) = true) ∧ Hid (RowO w.heap.size wr 164 4 (.slice (some ⟨w.heap.size, 0, none⟩) j l.length) j ((l.take j).flatMap (limC G.p.m)))) (fun i _ _ => l.length - (intOf i).toNat)
 case atStart => exact ⟨0, Nat.zero_le _, rfl, rfl, HB, rfl, Hr⟩
 case round =>
  obtain ⟨j, hj, rfl, rfl, HB, HAL, Hr⟩ := hrel
  by_cases hjl : j < l.length
  ·skip
   have Hs0 := Lib.hid (show w.heap.size < wr.heap.size from (Hr.out.lt _ rfl).2)
   replace HZS := sz HZS Hs0.out
   obtain ⟨bl, ol, rfl, hbl, hc⟩ := (HS.out.up HB.out).at j (by simpa using hjl)
   rw [List.getElem_map] at hc
   obtain ⟨bj, hbj⟩ : ∃ x, isEl G.q.m G.size l[j] = x := ⟨_, rfl⟩
   have HBJ := Lib.hid hbj
   clear hbj
   go_wp2_with fail
   refine (gElem_m G OK.out gb l[j] bj HBJ.out wr (HG.out.up HB.out)).mono ?_
   rintro e w2 ⟨sx, rfl, hb9, hx9⟩
   replace Hr := Lib.hid (Hr.out.up hb9)
   replace HB := hbu HB hb9
   replace HZS := sz HZS hb9.size
   have HSX := Lib.hid hx9
   clear hx9 hb9
   unfold limbV
   obtain ⟨w3, hq3, hb9, hz9, Hbp⟩ := new1 w2 164 [.int .u64 (dig (sx) 0 : Int), .int .u64 (dig (sx) 1 : Int), .int .u64 (dig (sx) 2 : Int), .int .u64 (dig (sx) 3 : Int)]
   replace Hr := Lib.hid (Hr.out.up hb9)
   replace HB := hbu HB hb9
   replace HZS := sz HZS hz9.out
   clear hb9 hz9
   have bp_ := Hbp.out.c4
   cases bj
   ·go_wp2_with fail
    clear hq3
    go_ret2
    exact ⟨HB.out, by rw [if_neg (by rw [all_not hjl HBJ.out]; decide)]; rfl⟩
   ·obtain rfl := HSX.out rfl
    obtain ⟨i9, hi9, hz90, hz91, hz92⟩ := info_parts infoElem
    go_wp2_with (at_builtin; refine wpList_fitR (w.heap.size) w3 rfl _ _ 174 rfl 164 i9 4 Try.underlying174 hi9 hz91 (w.heap.size) (j) ((l.length)) (((l.take j).flatMap (limC G.p.m))) rfl Hr.out _ _ _ rfl rfl rfl (by simp [Value.oneCell']) (by omega) ?_)
    intro w4 hown9 hg9
    clear hq3 bp_
    have hb9 := Below.grown HB.out hg9 (by have g0 := HZS.out; omega) (fun q hq => Nat.le_trans (show w.heap.size ≤ w.heap.size by have g0 := HZS.out; omega) (Hr.out.lt q hq).1)
    replace Hbp := Lib.hid (Hbp.out.grown hg9 (fun e9 => by have a0 := Option.some.inj e9; have a1 := Hr.out.lt _ e9; have g0 := HZS.out; omega))
    replace HZS := sz HZS hg9.size
    clear Hr HB
    have Hr := Lib.hid hown9
    have HB := Lib.hid hb9
    clear hb9 hown9 hg9 hi9 hz90 hz91 hz92
    have bp_ := Hbp.out.c4
    go_wp2_with fail
    go_roundw
    case rel => exact ⟨j + 1, by omega, by go_num, rfl, HB, all_snoc hjl HAL.out HBJ.out, Hr.out.eq (flat_snoc _ _ _ hjl).symm rfl⟩
    case measure => simp [intOf]; omega
  ·have hjn : j = l.length := by omega
   subst hjn
   go_wp2_with fail
   go_ret2
   rw [List.take_length] at Hr
   exact ⟨HB.out, by rw [if_pos (all_take_true HAL.out)]; exact ⟨_, _, rfl, Hr.out.sl, fun x hx => by cases hx; exact Nat.le_refl _⟩⟩
end Go.Proofs.Ytdlnnkbigeiilaa
namespace Go.Proofs.Ytdlnnkbigeiilaa
open Go.RowKit
theorem scalField : ∃ f, (Try.prog.fieldsOf 78).toList = [f] ∧ f.name = "n" ∧ f.type = 76 ∧ f.offset = 0 := by
 have h : ((Try.prog.fieldsOf 78).toList.map fun f => (f.name, f.type, f.offset)) = [("n", 76, 0)] := by kernel_rfl
 generalize (Try.prog.fieldsOf 78).toList = fs at *
 obtain ⟨f, rfl⟩ : ∃ f, fs = [f] := List.length_eq_one_iff.1 (by have := congrArg List.length h; simpa using this)
 simp only [List.map_cons, List.map_nil, List.cons.injEq, Prod.mk.injEq, and_true] at h
 exact ⟨f, rfl, h.1, h.2.1, h.2.2⟩
theorem partLimbs (a b c d : Value) (w : World) : (part 76 #[a, b, c, d] 0).run Try.prog w = .ok (.agg #[a, b, c, d]) w := by
 simp [part, isAgg, run_underlying Try.underlying76]
theorem eqScal (x y : Nat) (hx : x < BB ^ 4) (hy : y < BB ^ 4) (w : World) (b : Bool) (hb : b = decide (x = y)) :
  (Op.equalIn 10000 78 (.agg #[.int .u64 (dig x 0 : Int), .int .u64 (dig x 1 : Int), .int .u64 (dig x 2 : Int), .int .u64 (dig x 3 : Int)]) (.agg #[.int .u64 (dig y 0 : Int), .int .u64 (dig y 1 : Int), .int .u64 (dig y 2 : Int), .int .u64 (dig y 3 : Int)])).run Try.prog w = .ok b w := by
 obtain ⟨f, hf, hn, ht, ho⟩ := scalField
 rw [run_equalIn_struct w 9999 _ _ _ (by kernel_rfl) (by kernel_rfl), hf]
 obtain ⟨i, hi⟩ := Option.isSome_iff_exists.1 infoU64
 have h4 := run_equalIn_four w 9997 _ _ Try.underlying76 Try.underlying74 i hi cellsU64 plainU64 (dig x 0 : Int) (dig x 1 : Int) (dig x 2 : Int) (dig x 3 : Int) (dig y 0 : Int) (dig y 1 : Int) (dig y 2 : Int) (dig y 3 : Int)
 have he : ((dig x 0 : Int) == (dig y 0 : Int) && ((dig x 1 : Int) == (dig y 1 : Int) && ((dig x 2 : Int) == (dig y 2 : Int) && (dig x 3 : Int) == (dig y 3 : Int)))) = b := by
  rw [hb, Bool.eq_iff_iff]
  simp only [Bool.and_eq_true, beq_iff_eq, Int.natCast_inj, decide_eq_true_eq]
  exact ⟨fun ⟨h0, h1, h2, h3⟩ => lim_eq x y hx hy h0 h1 h2 h3, fun e => by rw [e]; exact ⟨rfl, rfl, rfl, rfl⟩⟩
 rw [he] at h4
 simp only [Op.eqFields, hn, ht, ho]
 rw [if_pos (by decide), Sem.run_bind, partLimbs, Result.andThen_ok, Sem.run_bind, partLimbs, Result.andThen_ok, Sem.run_bind]
 erw [h4]
 cases b <;> rfl
theorem guardScal (op : BinOp) (x y : Operand) (xs ys : Array Value) (w : World) : (eqGuard op 78 x y (.agg xs) (.agg ys)).run Try.prog w = .ok () w := run_eqGuard_agg w op _ x y xs ys (by kernel_rfl)
theorem binScal {xs ys : Array Value} {b : Bool} {w : World} (h : (Op.equalIn 10000 78 (.agg xs) (.agg ys)).run Try.prog w = .ok b w) : (binOp .eql 78 (.agg xs) (.agg ys)).run Try.prog w = .ok (.bool b) w := by
 rw [run_eql_struct, h]
 rfl
theorem allSc_v (G : GP) (ok : G.Ok) (gb : Nat) (l : List ByteArray) (b : Bool) (hb : l.all (isSc G.q.m G.size) = b) (n : Nat) (hn : l.length = n) (al : Option Addr) (cl : Nat) (hl : n ≤ 8796093022207) (w : World) (hG : GroupAt w gb G) (hS : Sl w w.heap.size al (l.map Value.string)) :
  Calls Try.prog 108 #[.slice al n cl, .func (.func 78) #[.pointer (some ⟨gb, 0, none⟩)] #[]] w fun e w' => ∃ v, e = .returned (.tuple #[v, .bool b]) ∧ Below w.heap.size w w' ∧ (b = true → ∃ a c, v = .slice a n c ∧ Sl w' w'.heap.size a (l.flatMap (limC G.q.m)) ∧ (∀ x, a = some x → w.heap.size ≤ x.block)) := by
 subst hb
 subst hn
 refine (allSc_any G ok gb l al cl hl w hG hS).mono ?_
 rintro e w' ⟨h1, h2⟩
 cases hb : l.all (isSc G.q.m G.size) with
 | true =>
  rw [if_pos hb] at h2
  obtain ⟨a, c, rfl, h3⟩ := h2
  exact ⟨_, rfl, h1, fun _ => ⟨a, c, rfl, h3⟩⟩
 | false =>
  rw [if_neg (by rw [hb]; decide)] at h2
  exact ⟨_, h2, h1, fun h => by cases h⟩
theorem allEl_v (G : GP) (ok : G.Ok) (gb : Nat) (l : List ByteArray) (b : Bool) (hb : l.all (isEl G.q.m G.size) = b) (n : Nat) (hn : l.length = n) (al : Option Addr) (cl : Nat) (hl : n ≤ 8796093022207) (w : World) (hG : GroupAt w gb G) (hS : Sl w w.heap.size al (l.map Value.string)) :
  Calls Try.prog 144 #[.slice al n cl, .func (.func 105) #[.pointer (some ⟨gb, 0, none⟩)] #[]] w fun e w' => ∃ v, e = .returned (.tuple #[v, .bool b]) ∧ Below w.heap.size w w' ∧ (b = true → ∃ a c, v = .slice a n c ∧ Sl w' w'.heap.size a (l.flatMap (limC G.p.m)) ∧ (∀ x, a = some x → w.heap.size ≤ x.block)) := by
 subst hb
 subst hn
 refine (allEl_any G ok gb l al cl hl w hG hS).mono ?_
 rintro e w' ⟨h1, h2⟩
 cases hb : l.all (isEl G.q.m G.size) with
 | true =>
  rw [if_pos hb] at h2
  obtain ⟨a, c, rfl, h3⟩ := h2
  exact ⟨_, rfl, h1, fun _ => ⟨a, c, rfl, h3⟩⟩
 | false =>
  rw [if_neg (by rw [hb]; decide)] at h2
  exact ⟨_, h2, h1, fun h => by cases h⟩
theorem infoStr : (Try.prog.info? 9).map (fun i => (i.zero, i.size, i.bytes)) = some (some (.string ⟨#[]⟩), 1, 16) := by kernel_rfl
theorem Sl.adr {w : World} {B : Nat} {a : Option Addr} {cs : List Value} (h : Sl w B a cs) (h0 : cs ≠ []) : ∃ b o, a = some ⟨b, o, none⟩ ∧ b < B := by
 rcases h with h | ⟨b, off, rfl, hb, _⟩
 ·exact absurd h h0
 ·exact ⟨b, off, rfl, hb⟩
theorem Sl.elemS {w : World} {B b o : Nat} {α : Type} {f : α → List Value} {k : Nat} {l : List α} (h : Sl w B (some ⟨b, o, none⟩) (l.flatMap f)) (hk : ∀ x, (f x).length = k) (h0 : 0 < k) (i : Nat) (hi : i < l.length) :
  b < B ∧ ∀ j v, (f l[i])[j]? = some v → w.cell? ⟨b, o + i * k + j, none⟩ = some v := by
 obtain ⟨b', o', he, hb, hc⟩ := h.elem hk h0 i hi
 simp only [Option.some.injEq, Addr.mk.injEq, and_true] at he
 obtain ⟨rfl, rfl⟩ := he
 exact ⟨hb, hc⟩
theorem Sl.elemUp {w0 w : World} {a : Option Addr} {α : Type} {f : α → List Value} {k : Nat} {l : List α} (h : Sl w0 w0.heap.size a (l.flatMap f)) (hb : Below w0.heap.size w0 w) (hk : ∀ x, (f x).length = k) (h0 : 0 < k) (i : Nat) (hi : i < l.length) :
  ∃ b off, a = some ⟨b, off, none⟩ ∧ b < w0.heap.size ∧ b < w.heap.size ∧ ∀ j v, (f l[i])[j]? = some v → w.cell? ⟨b, off + i * k + j, none⟩ = some v := by
 obtain ⟨b, off, he, h1, h2⟩ := h.elem hk h0 i hi
 exact ⟨b, off, he, h1, Nat.lt_of_lt_of_le h1 hb.size, fun j v hv => by rw [hb.cell (p := ⟨b, off + i * k + j, none⟩) h1]; exact h2 j v hv⟩
theorem flat_ne {α : Type} {f : α → List Value} {k : Nat} {l : List α} (hk : ∀ x, (f x).length = k) (h0 : 0 < k) (hl : l ≠ []) : l.flatMap f ≠ [] := by
 intro e
 have := flat_len f k hk l
 rw [e, List.length_nil] at this
 have : 0 < l.length * k := Nat.mul_pos (List.length_pos_iff.2 hl) h0
 omega
theorem isSc_le {G : GP} {s : ByteArray} (h : isSc G.q.m G.size s = true) : numOf s ≤ G.q.m := by
 unfold isSc at h
 simp only [Bool.and_eq_true, decide_eq_true_eq] at h
 omega
end Go.Proofs.Ytdlnnkbigeiilaa
namespace Go.Proofs.Ytdlnnkbigeiilaa
open Go.RowKit
def ClaimA.val (c : ClaimA) : Value := .agg #[.slice c.ab c.bases.length c.cb, .slice c.ai c.images.length c.ci]
theorem any_take_true {α : Type} {f : α → Bool} {l : List α} {i : Nat} (hi : i < l.length) (h : f l[i] = true) : l.any f = true := List.any_eq_true.2 ⟨l[i], List.getElem_mem hi, h⟩
theorem any_snoc {α : Type} {f : α → Bool} {l : List α} {i : Nat} (hi : i < l.length) (ht : (l.take i).any f = false) (h : f l[i] = false) : (l.take (i + 1)).any f = false := by
 rw [List.take_succ_eq_append_getElem hi, List.any_append, ht]
 simp [h]
theorem shape1_any (c : ClaimA) (b : Bool) (hb : cLong c = b) (w : World) : Calls Try.prog 157 #[c.val] w (Gives (.bool b) w) := by
 obtain ⟨n, hn⟩ : ∃ n, c.bases.length = n := ⟨_, rfl⟩
 obtain ⟨m, hm⟩ : ∃ m, c.images.length = m := ⟨_, rfl⟩
 have hbv : b = (decide (8 < n) || decide (8 < m)) := by rw [← hb, ← hn, ← hm]; rfl
 unfold ClaimA.val Gives
 rw [hn, hm]
 clear hn hm hb
 by_cases h1 : 8 < n
 ·have hd : decide ((n : Int) > 8) = true := by simp; omega
  obtain rfl : b = true := by rw [hbv]; simp [h1]
  clear hbv h1
  go_enter Try.func157, Try.ntmps157
  go_wp2_with fail
  obtain ⟨w1, hq1, hb9, hz9, Hbc⟩ := new1 w 112 [.slice c.ab n c.cb, .slice c.ai m c.ci]
  rw [hq1]
  clear hq1
  have HB := Lib.hid hb9
  have HZS := hz9
  clear hb9 hz9
  have bc_ := Hbc.out.c2
  go_wp2_with fail
  go_ret
  exact ⟨rfl, HB.out⟩
 ·have hd : decide ((n : Int) > 8) = false := by simp; omega
  by_cases h2 : 8 < m
  ·have hd2 : decide ((m : Int) > 8) = true := by simp; omega
   obtain rfl : b = true := by rw [hbv]; simp [h2]
   clear hbv h1 h2
   go_enter Try.func157, Try.ntmps157
   go_wp2_with fail
   obtain ⟨w1, hq1, hb9, hz9, Hbc⟩ := new1 w 112 [.slice c.ab n c.cb, .slice c.ai m c.ci]
   rw [hq1]
   clear hq1
   have HB := Lib.hid hb9
   have HZS := hz9
   clear hb9 hz9
   have bc_ := Hbc.out.c2
   go_wp2_with fail
   go_ret
   exact ⟨rfl, HB.out⟩
  ·have hd2 : decide ((m : Int) > 8) = false := by simp; omega
   obtain rfl : b = false := by rw [hbv]; simp [h1, h2]
   clear hbv h1 h2
   go_enter Try.func157, Try.ntmps157
   go_wp2_with fail
   obtain ⟨w1, hq1, hb9, hz9, Hbc⟩ := new1 w 112 [.slice c.ab n c.cb, .slice c.ai m c.ci]
   rw [hq1]
   clear hq1
   have HB := Lib.hid hb9
   have HZS := hz9
   clear hb9 hz9
   have bc_ := Hbc.out.c2
   go_wp2_with fail
   go_ret
   exact ⟨rfl, HB.out⟩
theorem shape2_any (c : ClaimA) (b : Bool) (hb : cForm c = b) (w : World) : Calls Try.prog 158 #[c.val] w (Gives (.bool b) w) := by
 obtain ⟨n, hn⟩ : ∃ n, c.bases.length = n := ⟨_, rfl⟩
 obtain ⟨m, hm⟩ : ∃ m, c.images.length = m := ⟨_, rfl⟩
 have hbv : b = (decide (n = 0) || decide (n ≠ m)) := by rw [← hb, ← hn, ← hm]; rfl
 unfold ClaimA.val Gives
 rw [hn, hm]
 clear hn hm hb
 by_cases h1 : n = 0
 ·have hd : ((n : Int) == 0) = true := by simp; omega
  obtain rfl : b = true := by rw [hbv]; simp [h1]
  clear hbv h1
  go_enter Try.func158, Try.ntmps158
  go_wp2_with fail
  obtain ⟨w1, hq1, hb9, hz9, Hbc⟩ := new1 w 112 [.slice c.ab n c.cb, .slice c.ai m c.ci]
  rw [hq1]
  clear hq1
  have HB := Lib.hid hb9
  have HZS := hz9
  clear hb9 hz9
  have bc_ := Hbc.out.c2
  go_wp2_with fail
  go_ret
  exact ⟨rfl, HB.out⟩
 ·have hd : ((n : Int) == 0) = false := by simp; omega
  by_cases h2 : n ≠ m
  ·have hd2 : ((n : Int) != (m : Int)) = true := by simp; omega
   obtain rfl : b = true := by rw [hbv]; simp [h2]
   clear hbv h1 h2
   go_enter Try.func158, Try.ntmps158
   go_wp2_with fail
   obtain ⟨w1, hq1, hb9, hz9, Hbc⟩ := new1 w 112 [.slice c.ab n c.cb, .slice c.ai m c.ci]
   rw [hq1]
   clear hq1
   have HB := Lib.hid hb9
   have HZS := hz9
   clear hb9 hz9
   have bc_ := Hbc.out.c2
   go_wp2_with fail
   go_ret
   exact ⟨rfl, HB.out⟩
  ·have hd2 : ((n : Int) != (m : Int)) = false := by simp; omega
   obtain rfl : b = false := by rw [hbv]; simp [h1]; omega
   clear hbv h1 h2
   go_enter Try.func158, Try.ntmps158
   go_wp2_with fail
   obtain ⟨w1, hq1, hb9, hz9, Hbc⟩ := new1 w 112 [.slice c.ab n c.cb, .slice c.ai m c.ci]
   rw [hq1]
   clear hq1
   have HB := Lib.hid hb9
   have HZS := hz9
   clear hb9 hz9
   have bc_ := Hbc.out.c2
   go_wp2_with fail
   go_ret
   exact ⟨rfl, HB.out⟩
theorem idxLong (l : List ClaimA) (al : Option Addr) (cl : Nat) (b : Bool) (hb : l.any cLong = b) (hl : l.length ≤ 64) (w : World) (hS : Sl w w.heap.size al (l.flatMap ClaimA.cells)) :
  Calls Try.prog 165 #[.slice al l.length cl, .func (.func 157) #[] #[]] w fun e w' => ∃ z : Int, e = .returned (.int .i64 z) ∧ decide (z ≥ 0) = b ∧ Below w.heap.size w w' := by
 have HS := Lib.hid hS
 have HBQ := Lib.hid hb
 clear hS hb
 go_enter Try.func165, Try.ntmps165
 go_wp2_with fail
 go_loopw [8] (fun i wr => ∃ j : Nat, j ≤ l.length ∧ i = .int .i64 j ∧ Hid (Below w.heap.size w wr) ∧ Hid ((l.take j).any cLong = false)) (fun i _ => l.length - (intOf i).toNat)
 case atStart => exact ⟨0, Nat.zero_le _, rfl, Below.refl _ _, rfl⟩
 case round =>
  obtain ⟨j, hj, rfl, HB, HAL⟩ := hrel
  by_cases hjl : j < l.length
  ·skip
   obtain ⟨bl, ol, rfl, hbl, hc⟩ := (HS.out.up HB.out).elem ClaimA.cells_len (by omega) j hjl
   have hc_0 := hc 0 _ rfl
   rw [Nat.add_zero] at hc_0
   have hc_1 := hc 1 _ rfl
   clear hc
   obtain ⟨bj, hbj⟩ : ∃ x, cLong l[j] = x := ⟨_, rfl⟩
   have HBJ := Lib.hid hbj
   clear hbj
   go_wp2_with fail
   refine (shape1_any l[j] bj HBJ.out wr).mono ?_
   rintro e w1 ⟨rfl, hb9⟩
   replace HB := hbu HB hb9
   have HZS := Lib.hid hb9.size
   clear hb9
   cases bj
   ·go_wp2_with fail
    go_roundw
    case rel => exact ⟨j + 1, by omega, by go_num, HB, any_snoc hjl HAL.out HBJ.out⟩
    case measure => simp [intOf]; omega
   ·go_wp2_with fail
    go_ret
    exact ⟨j, rfl, by rw [← HBQ.out, any_take_true hjl HBJ.out]; simp, HB.out⟩
  ·have hjn : j = l.length := by omega
   subst hjn
   go_wp2_with fail
   go_ret
   rw [List.take_length] at HAL
   exact ⟨-1, rfl, by rw [← HBQ.out, HAL.out]; rfl, HB.out⟩
theorem conLong (l : List ClaimA) (al : Option Addr) (cl : Nat) (b : Bool) (hb : l.any cLong = b) (hl : l.length ≤ 64) (w : World) (hS : Sl w w.heap.size al (l.flatMap ClaimA.cells)) :
  Calls Try.prog 156 #[.slice al l.length cl, .func (.func 157) #[] #[]] w (Gives (.bool b) w) := by
 have HS := Lib.hid hS
 have HBQ := Lib.hid hb
 clear hS hb
 unfold Gives
 go_enter Try.func156, Try.ntmps156
 go_wp2_with fail
 refine (idxLong l al cl b HBQ.out hl w HS.out).mono ?_
 rintro e w1 ⟨z, rfl, hz, hb9⟩
 have HB := Lib.hid hb9
 have HZS := Lib.hid hb9.size
 clear hb9
 go_wp2_with fail
 go_ret
 exact ⟨rfl, HB.out⟩
theorem idxForm (l : List ClaimA) (al : Option Addr) (cl : Nat) (b : Bool) (hb : l.any cForm = b) (hl : l.length ≤ 64) (w : World) (hS : Sl w w.heap.size al (l.flatMap ClaimA.cells)) :
  Calls Try.prog 165 #[.slice al l.length cl, .func (.func 158) #[] #[]] w fun e w' => ∃ z : Int, e = .returned (.int .i64 z) ∧ decide (z ≥ 0) = b ∧ Below w.heap.size w w' := by
 have HS := Lib.hid hS
 have HBQ := Lib.hid hb
 clear hS hb
 go_enter Try.func165, Try.ntmps165
 go_wp2_with fail
 go_loopw [8] (fun i wr => ∃ j : Nat, j ≤ l.length ∧ i = .int .i64 j ∧ Hid (Below w.heap.size w wr) ∧ Hid ((l.take j).any cForm = false)) (fun i _ => l.length - (intOf i).toNat)
 case atStart => exact ⟨0, Nat.zero_le _, rfl, Below.refl _ _, rfl⟩
 case round =>
  obtain ⟨j, hj, rfl, HB, HAL⟩ := hrel
  by_cases hjl : j < l.length
  ·skip
   obtain ⟨bl, ol, rfl, hbl, hc⟩ := (HS.out.up HB.out).elem ClaimA.cells_len (by omega) j hjl
   have hc_0 := hc 0 _ rfl
   rw [Nat.add_zero] at hc_0
   have hc_1 := hc 1 _ rfl
   clear hc
   obtain ⟨bj, hbj⟩ : ∃ x, cForm l[j] = x := ⟨_, rfl⟩
   have HBJ := Lib.hid hbj
   clear hbj
   go_wp2_with fail
   refine (shape2_any l[j] bj HBJ.out wr).mono ?_
   rintro e w1 ⟨rfl, hb9⟩
   replace HB := hbu HB hb9
   have HZS := Lib.hid hb9.size
   clear hb9
   cases bj
   ·go_wp2_with fail
    go_roundw
    case rel => exact ⟨j + 1, by omega, by go_num, HB, any_snoc hjl HAL.out HBJ.out⟩
    case measure => simp [intOf]; omega
   ·go_wp2_with fail
    go_ret
    exact ⟨j, rfl, by rw [← HBQ.out, any_take_true hjl HBJ.out]; simp, HB.out⟩
  ·have hjn : j = l.length := by omega
   subst hjn
   go_wp2_with fail
   go_ret
   rw [List.take_length] at HAL
   exact ⟨-1, rfl, by rw [← HBQ.out, HAL.out]; rfl, HB.out⟩
theorem conForm (l : List ClaimA) (al : Option Addr) (cl : Nat) (b : Bool) (hb : l.any cForm = b) (hl : l.length ≤ 64) (w : World) (hS : Sl w w.heap.size al (l.flatMap ClaimA.cells)) :
  Calls Try.prog 156 #[.slice al l.length cl, .func (.func 158) #[] #[]] w (Gives (.bool b) w) := by
 have HS := Lib.hid hS
 have HBQ := Lib.hid hb
 clear hS hb
 unfold Gives
 go_enter Try.func156, Try.ntmps156
 go_wp2_with fail
 refine (idxForm l al cl b HBQ.out hl w HS.out).mono ?_
 rintro e w1 ⟨z, rfl, hz, hb9⟩
 have HB := Lib.hid hb9
 have HZS := Lib.hid hb9.size
 clear hb9
 go_wp2_with fail
 go_ret
 exact ⟨rfl, HB.out⟩
theorem shape_any (l : List ClaimA) (al : Option Addr) (cl : Nat) (w : World) (hS : Sl w w.heap.size al (l.flatMap ClaimA.cells)) :
  Calls Try.prog 143 #[.slice al l.length cl] w (Gives (.int .i64 (shapeE l : Int)) w) := by
 have HS := Lib.hid hS
 clear hS
 obtain ⟨z, hz⟩ : ∃ z, shapeE l = z := ⟨_, rfl⟩
 obtain ⟨b1, hb1⟩ : ∃ b, l.any cLong = b := ⟨_, rfl⟩
 obtain ⟨b2, hb2⟩ : ∃ b, l.any cForm = b := ⟨_, rfl⟩
 have HB1 := Lib.hid hb1
 have HB2 := Lib.hid hb2
 have hzz : z = if (decide (64 < l.length) || b1) = true then 3 else if (decide (l.length = 0) || b2) = true then 2 else 0 := by rw [← hz, ← hb1, ← hb2]; rfl
 rw [hz]
 clear hz hb1 hb2
 unfold Gives
 by_cases h1 : 64 < l.length
 ·have hd : decide ((l.length : Int) > 64) = true := by simp; omega
  obtain rfl : z = 3 := by rw [hzz]; simp [h1]
  clear hzz h1
  go_enter Try.func143, Try.ntmps143
  go_wp2_with fail
  go_ret
  exact ⟨rfl, Below.refl _ _⟩
 have hd : decide ((l.length : Int) > 64) = false := by simp; omega
 cases b1
 case true =>
  obtain rfl : z = 3 := by rw [hzz]; simp
  clear hzz
  go_enter Try.func143, Try.ntmps143
  go_wp2_with fail
  refine (conLong l al cl true HB1.out (by omega) w HS.out).mono ?_
  rintro e w1 ⟨rfl, hb9⟩
  have HB := Lib.hid hb9
  have HZS := Lib.hid hb9.size
  clear hb9
  go_wp2_with fail
  go_ret
  exact ⟨rfl, HB.out⟩
 by_cases h2 : l.length = 0
 ·have hd2 : ((l.length : Int) == 0) = true := by rw [beq_iff_eq]; omega
  obtain rfl : z = 2 := by rw [hzz]; simp [h2]
  clear hzz h2
  go_enter Try.func143, Try.ntmps143
  go_wp2_with fail
  refine (conLong l al cl false HB1.out (by omega) w HS.out).mono ?_
  rintro e w1 ⟨rfl, hb9⟩
  have HB := Lib.hid hb9
  have HZS := Lib.hid hb9.size
  clear hb9
  go_wp2_with fail
  go_ret
  exact ⟨rfl, HB.out⟩
 have hd2 : ((l.length : Int) == 0) = false := by rw [beq_eq_false_iff_ne]; omega
 cases b2
 case true =>
  obtain rfl : z = 2 := by rw [hzz]; simp [h1, h2]
  clear hzz h2
  go_enter Try.func143, Try.ntmps143
  go_wp2_with fail
  refine (conLong l al cl false HB1.out (by omega) w HS.out).mono ?_
  rintro e w1 ⟨rfl, hb9⟩
  have HB := Lib.hid hb9
  have HZS := Lib.hid hb9.size
  clear hb9
  go_wp2_with fail
  refine (conForm l al cl true HB2.out (by omega) w1 (HS.out.up HB.out)).mono ?_
  rintro e w2 ⟨rfl, hb9⟩
  replace HB := hbu HB hb9
  replace HZS := sz HZS hb9.size
  clear hb9
  go_wp2_with fail
  go_ret
  exact ⟨rfl, HB.out⟩
 case false =>
  obtain rfl : z = 0 := by rw [hzz]; simp [h1, h2]
  clear hzz h2
  go_enter Try.func143, Try.ntmps143
  go_wp2_with fail
  refine (conLong l al cl false HB1.out (by omega) w HS.out).mono ?_
  rintro e w1 ⟨rfl, hb9⟩
  have HB := Lib.hid hb9
  have HZS := Lib.hid hb9.size
  clear hb9
  go_wp2_with fail
  refine (conForm l al cl false HB2.out (by omega) w1 (HS.out.up HB.out)).mono ?_
  rintro e w2 ⟨rfl, hb9⟩
  replace HB := hbu HB hb9
  replace HZS := sz HZS hb9.size
  clear hb9
  go_wp2_with fail
  go_ret
  exact ⟨rfl, HB.out⟩
end Go.Proofs.Ytdlnnkbigeiilaa
namespace Go.Proofs.Ytdlnnkbigeiilaa
open Go.RowKit
section
variable {P : Program} {ops : Array Oper} {S : World → Prop} {Q : Exit → Act → World → Prop} {k : Nat} {md : Region.Mode}
def wpAnyK (P : Program) (md : Region.Mode) (ops : Array Oper) (Q : Exit → Act → World → Prop) (S : World → Prop) (k : Nat) : Nat → Array Bool → Act → World → Prop
 | 0, listed, a, w => Region.ready md ops listed = [] ∧ Q .normal a w
 | fuel + 1, listed, a, w =>
  (Region.ready md ops listed = [] → Q .normal a w) ∧
  ∀ i ∈ Region.ready md ops listed, wpOp P ops Q i (fun a' w' => ((listed.setIfInBounds i true).getD k false = false → S w') ∧ wpAnyK P md ops Q S k fuel (listed.setIfInBounds i true) a' w') a w
theorem any_of_K : ∀ (fuel : Nat) (listed : Array Bool) (a : Act) (w : World), wpAnyK P md ops Q S k fuel listed a w → wpAny P md ops Q fuel listed a w
 | 0, _, _, _, h => h
 | fuel + 1, _, _, _, h => ⟨h.1, fun i hi => wpOp_mono (fun a' w' h' => any_of_K fuel _ a' w' h'.2) (h.2 i hi)⟩
theorem anyK_first {SS : World → Prop} (C : Array Bool → Prop) {i : Nat} {oi : Oper} {v : Value} (hi : ops[i]? = some oi) (hik : i ≠ k) (hsel : ∀ (j : Nat) (o : Oper) cs b, ops[j]? = some o → o.op ≠ .select cs b)
  (hQ : ∀ c a w, Q (.panic c) (a.put oi.dst v) w → Q (.panic c) a w)
  (hstep : ∀ listed j, C listed → i ∈ Region.ready md ops listed → j ∈ Region.ready md ops listed → j ≠ i → C (listed.setIfInBounds j true))
  (hSS : ∀ listed w, C listed → (listed.getD k false = false → S w) → SS w) :
  ∀ (fuel : Nat) (listed : Array Bool) (a : Act) (w : World),
   (∀ j oj, ops[j]? = some oj → j ≠ i → listed.getD j true = false → (∀ e ∈ oj.after, Region.binds md e = true → e.on ≠ i) → oi.apart ops oj = true) →
   i ∈ Region.ready md ops listed → C listed → YieldsIf P ops SS oi v a → (listed.getD k false = false → S w) →
   wpAnyK P md ops Q S k fuel (listed.setIfInBounds i true) (a.put oi.dst v) w → wpAnyK P md ops Q S k (fuel + 1) listed a w := by
 intro fuel
 induction fuel with
 | zero =>
  intro listed a w _ hr hC hy hS H
  refine ⟨fun h => (by rw [h] at hr; cases hr), fun j hj => ?_⟩
  by_cases hji : j = i
  ·subst hji; exact hy.wpOp hi (hSS listed w hC hS) ⟨fun h => hS (by rwa [getD_set_ne false hik] at h), H⟩
  ·have := ready_mono hj hji
   rw [H.1] at this
   cases this
 | succ fuel ih =>
  intro listed a w hfree hr hC hy hS H
  refine ⟨fun h => (by rw [h] at hr; cases hr), fun j hj => ?_⟩
  by_cases hji : j = i
  ·subst hji; exact hy.wpOp hi (hSS listed w hC hS) ⟨fun h => hS (by rwa [getD_set_ne false hik] at h), H⟩
  ·have h1 := H.2 j (ready_mono hj hji)
   obtain ⟨hjun, oj, hoj, hall⟩ := mem_ready.1 hj
   have hnot : ∀ e ∈ oj.after, Region.binds md e = true → e.on ≠ i := fun e he hb heq => by
    have h1 := hall e he hb
    have h0 := (mem_ready.1 hr).1
    rw [heq] at h1
    rcases Nat.lt_or_ge i listed.size with h' | h'
    ·simp [h'] at h0 h1; rw [h0] at h1; cases h1
    ·simp [Array.getElem?_eq_none h'] at h1
   have h2 := wpOp_putIf hoj (hfree j oj hoj hji hjun hnot) (fun cs b => hsel i oi cs b hi) (fun cs b => hsel j oj cs b hoj) hQ hy h1
   have hfree' : ∀ m om, ops[m]? = some om → m ≠ i → (listed.setIfInBounds j true).getD m true = false →
     (∀ e ∈ om.after, Region.binds md e = true → e.on ≠ i) → oi.apart ops om = true := fun m om hm hmi hun hno => by
    refine hfree m om hm hmi ?_ hno
    by_cases hjm : j = m
    ·subst hjm; exact hjun
    ·rw [getD_set_ne true hjm] at hun; exact hun
   have hkk : ((listed.setIfInBounds i true).setIfInBounds j true).getD k false = (listed.setIfInBounds j true).getD k false := by
    rw [Array.setIfInBounds_comm _ _ (Ne.symm hji), getD_set_ne false hik]
   have hr' := ready_mono hr (Ne.symm hji)
   refine wpOp_mono (fun a' w' h3 => ?_) h2
   have hS' : (listed.setIfInBounds j true).getD k false = false → S w' := fun h => h3.2.1 (by rw [hkk]; exact h)
   refine ⟨hS', ih (listed.setIfInBounds j true) a' w' hfree' hr' (hstep listed j hC hr hj hji) h3.1 hS' ?_⟩
   rw [Array.setIfInBounds_comm _ _ hji]
   exact h3.2.2
def chainB (md : Region.Mode) (ops : Array Oper) : Nat → List Nat → Bool
 | _, [] => true
 | i, j :: l => (match ops[j]? with | some o => o.after.any (fun e => Region.binds md e && e.on == i) | none => false) && chainB md ops j l
theorem chain_step {i j : Nat} {l : List Nat} {listed : Array Bool} : ∀ (i : Nat) (l : List Nat), chainB md ops i l = true → listed.getD i true = false → (∀ c ∈ l, listed.getD c true = false) → j ∈ Region.ready md ops listed → j ∉ l
 | _, [], _, _, _, _ => by simp
 | i, c :: l, hB, h0, hl, hj => by
  simp only [chainB, Bool.and_eq_true] at hB
  have ih := chain_step (listed := listed) (j := j) (i := i) (l := l) c l hB.2 (hl c (by simp)) (fun d hd => hl d (by simp [hd])) hj
  intro hm
  rcases List.mem_cons.1 hm with rfl | hm
  ·obtain ⟨_, o, ho, hall⟩ := mem_ready.1 hj
   have hB1 := hB.1
   rw [ho] at hB1
   simp only [Array.any_eq_true', Bool.and_eq_true, beq_iff_eq] at hB1
   obtain ⟨e, he, hb, hon⟩ := hB1
   have h1 := hall e he hb
   rw [hon] at h1
   rcases Nat.lt_or_ge i listed.size with h' | h'
   ·simp [h'] at h0 h1; rw [h0] at h1; cases h1
   ·simp [Array.getElem?_eq_none h'] at h1
  ·exact ih hm
inductive TreeK where
 | done : TreeK
 | q : Nat → TreeK → TreeK
 | e : Nat → List Nat → TreeK → TreeK
 | a : Nat → TreeK → TreeK
 | z : Nat → TreeK → TreeK
 | two : Nat → TreeK → Nat → TreeK → TreeK
def TreeK.qs : List Nat → TreeK → TreeK
 | [], t => t
 | i :: l, t => .q i (TreeK.qs l t)
def TreeK.size : TreeK → Nat
 | .done => 0
 | .q _ r => r.size + 1
 | .e _ _ r => r.size + 1
 | .a _ r => r.size + 1
 | .z _ r => r.size + 1
 | .two _ r _ _ => r.size + 1
def wpTreeK (P : Program) (ops : Array Oper) (S : World → Prop) (Q : Exit → Act → World → Prop) (k : Nat) : TreeK → Act → World → Prop
 | .done, a, w => Q .normal a w
 | .q i r, a, w => match ops[i]? with
  | none => False
  | some o => easyOp o = true ∧ wpQuiet P ops (fun _ => True) (fun a' => wpTreeK P ops S Q k r a' w) [o] a
 | .e i _ r, a, w => match ops[i]? with
  | none => False
  | some o => easyOp o = true ∧ wpQuiet P ops S (fun a' => wpTreeK P ops S Q k r a' w) [o] a
 | .a i r, a, w => wpOp P ops Q i (fun a' w' => (i ≠ k → S w') ∧ wpTreeK P ops S Q k r a' w') a w
 | .z i r, a, w => wpOp P ops Q i (fun a' w' => wpTreeK P ops S Q k r a' w') a w
 | .two i r j s, a, w => wpOp P ops Q i (fun a' w' => (i ≠ k → S w') ∧ wpTreeK P ops S Q k r a' w') a w ∧ wpOp P ops Q j (fun a' w' => (j ≠ k → S w') ∧ wpTreeK P ops S Q k s a' w') a w
def treeKB (md : Region.Mode) (ops : Array Oper) (k : Nat) : TreeK → Array Bool → Bool
 | .done, listed => (Region.ready md ops listed).isEmpty
 | .q i r, listed => (Region.ready md ops listed).contains i && Region.free md ops listed i && !(i == k) && treeKB md ops k r (listed.setIfInBounds i true)
 | .e i ch r, listed => (Region.ready md ops listed).contains i && Region.free md ops listed i && !(i == k) && chainB md ops i (ch ++ [k]) && (ch ++ [k]).all (fun c => !listed.getD c true) && !(i ∈ ch ++ [k]) && treeKB md ops k r (listed.setIfInBounds i true)
 | .a i r, listed => decide (Region.ready md ops listed = [i]) && treeKB md ops k r (listed.setIfInBounds i true)
 | .z i r, listed => decide (Region.ready md ops listed = [i]) && listed.getD k false && !(i == k) && treeKB md ops k r (listed.setIfInBounds i true)
 | .two i r j s, listed => decide (Region.ready md ops listed = [i, j]) && decide (r.size = s.size) && treeKB md ops k r (listed.setIfInBounds i true) && treeKB md ops k s (listed.setIfInBounds j true)
theorem listed_k {listed : Array Bool} {i : Nat} (hi : i ∈ Region.ready md ops listed) {w' : World} (h : i ≠ k → S w') : (listed.setIfInBounds i true).getD k false = false → S w' := by
 intro h9
 refine h (fun e => ?_)
 subst e
 have h0 := (mem_ready.1 hi).1
 rcases Nat.lt_or_ge i listed.size with h' | h'
 ·simp [h'] at h9
 ·simp [h'] at h0
theorem K_of_tree (hsel : Region.noSelect ops = true) (hQ : ∀ c a d v w, Q (.panic c) (a.put d v) w → Q (.panic c) a w) :
  ∀ (t : TreeK) (listed : Array Bool) (a : Act) (w : World), (listed.getD k false = false → S w) → treeKB md ops k t listed = true → wpTreeK P ops S Q k t a w → wpAnyK P md ops Q S k t.size listed a w
 | .done, listed, a, w, _, hB, h => ⟨by simpa [treeKB] using hB, h⟩
 | .q i r, listed, a, w, hS, hB, h => by
  unfold wpTreeK at h
  split at h
  ·cases h
  ·rename_i o ho
   obtain ⟨hp, hq⟩ := h
   obtain ⟨v, hy, hK⟩ := yieldsIf_easy hp hq
   simp only [treeKB, Bool.and_eq_true, Bool.not_eq_true', beq_eq_false_iff_ne] at hB
   exact anyK_first (fun _ => True) ho hB.1.2 (Region.noSelect_spec hsel) (fun c a w hq => hQ c a _ _ w hq) (fun _ _ _ _ _ _ => trivial) (fun _ _ _ _ => trivial) _ listed a w (Region.free_spec ho hB.1.1.2) (by simpa using hB.1.1.1) trivial hy hS
    (K_of_tree hsel hQ r _ _ w (fun h9 => hS (by rwa [getD_set_ne false hB.1.2] at h9)) hB.2 hK)
 | .e i ch r, listed, a, w, hS, hB, h => by
  unfold wpTreeK at h
  split at h
  ·cases h
  ·rename_i o ho
   obtain ⟨hp, hq⟩ := h
   obtain ⟨v, hy, hK⟩ := yieldsIf_easy hp hq
   simp only [treeKB, Bool.and_eq_true, Bool.not_eq_true', beq_eq_false_iff_ne, List.all_eq_true, decide_eq_false_iff_not] at hB
   obtain ⟨⟨⟨⟨⟨⟨h1, h2⟩, h3⟩, h4⟩, h5⟩, h6⟩, h7⟩ := hB
   refine anyK_first (SS := S) (fun l => ∀ c ∈ ch ++ [k], l.getD c true = false) ho h3 (Region.noSelect_spec hsel) (fun c a w hq => hQ c a _ _ w hq) ?_ ?_ _ listed a w (Region.free_spec ho h2) (by simpa using h1) h5 hy hS
    (K_of_tree hsel hQ r _ _ w (fun h9 => hS (by rwa [getD_set_ne false h3] at h9)) h7 hK)
   ·intro l j hC hr hj hji c hc
    have hn := chain_step (i := i) (l := ch) (j := j) i (ch ++ [k]) h4 (mem_ready.1 hr).1 hC hj
    rw [getD_set_ne true (fun e => hn (by rw [e]; exact hc))]
    exact hC c hc
   ·intro l w' hC h9
    refine h9 ?_
    have := hC k (by simp)
    rcases Nat.lt_or_ge k l.size with h' | h'
    ·simp [h'] at this ⊢; exact this
    ·simp [h'] at this
 | .a i r, listed, a, w, hS, hB, h => by
  simp only [treeKB, Bool.and_eq_true, decide_eq_true_eq] at hB
  unfold wpTreeK at h
  refine ⟨fun h9 => (by rw [hB.1] at h9; cases h9), fun j hj => ?_⟩
  have hj' : j = i := by rw [hB.1] at hj; simpa using hj
  subst hj'
  exact wpOp_mono (fun a' w' ⟨hS', h'⟩ => ⟨listed_k hj hS', K_of_tree hsel hQ r _ a' w' (listed_k hj hS') hB.2 h'⟩) h
 | .z i r, listed, a, w, hS, hB, h => by
  simp only [treeKB, Bool.and_eq_true, decide_eq_true_eq, Bool.not_eq_true', beq_eq_false_iff_ne] at hB
  unfold wpTreeK at h
  refine ⟨fun h9 => (by rw [hB.1.1.1] at h9; cases h9), fun j hj => ?_⟩
  have hj' : j = i := by rw [hB.1.1.1] at hj; simpa using hj
  subst hj'
  have hk : ∀ W : World, (listed.setIfInBounds j true).getD k false = false → S W := fun W h9 => by
   rw [getD_set_ne false hB.1.2, hB.1.1.2] at h9
   cases h9
  exact wpOp_mono (fun a' w' h' => ⟨hk w', K_of_tree hsel hQ r _ a' w' (hk w') hB.2 h'⟩) h
 | .two i r j s, listed, a, w, hS, hB, h => by
  simp only [treeKB, Bool.and_eq_true, decide_eq_true_eq] at hB
  obtain ⟨⟨⟨h1, h2⟩, h3⟩, h4⟩ := hB
  unfold wpTreeK at h
  refine ⟨fun h9 => (by rw [h1] at h9; cases h9), fun m hm => ?_⟩
  rcases (by rw [h1] at hm; simpa using hm : m = i ∨ m = j) with rfl | rfl
  ·exact wpOp_mono (fun a' w' ⟨hS', h'⟩ => ⟨listed_k hm hS', K_of_tree hsel hQ r _ a' w' (listed_k hm hS') h3 h'⟩) h.1
  ·exact wpOp_mono (fun a' w' ⟨hS', h'⟩ => ⟨listed_k hm hS', by rw [h2]; exact K_of_tree hsel hQ s _ a' w' (listed_k hm hS') h4 h'⟩) h.2
theorem wp_region_treek {id : Nat} {a : Act} {w : World} {l : List Oper} (S : World → Prop) (k : Nat) (t : TreeK) (hm : P.follows .mixedOrders = true)
  (hB : (Region.noSelect l.toArray && decide (t.size = l.toArray.size) && treeKB .any l.toArray k t (Array.replicate l.toArray.size false)) = true)
  (hQ : ∀ c a d v w, Q (.panic c) (a.put d v) w → Q (.panic c) a w) (hS : S w.drew) (h : wpTreeK P l.toArray S Q k t a w.drew) : (Code.region id l.toArray true).wp P Q a w := by
 simp only [Bool.and_eq_true, decide_eq_true_eq] at hB
 refine wp_region_any hm (any_of_K (S := S) (k := k) _ _ _ _ ?_)
 have := K_of_tree hB.1.1 hQ t _ a _ (fun _ => hS) hB.2 h
 rw [hB.1.2] at this
 exact this
theorem treek_q {l : List Oper} {i : Nat} {r : TreeK} {o : Oper} {a : Act} {w : World} (ho : l[i]? = some o) (hp : easyOp o = true) (h : wpQuiet P l.toArray (fun _ => True) (fun a' => wpTreeK P l.toArray S Q k r a' w) [o] a) :
  wpTreeK P l.toArray S Q k (.q i r) a w := by
 unfold wpTreeK
 rw [List.getElem?_toArray, ho]
 exact ⟨hp, h⟩
theorem treek_e {l ch : List _} {i : Nat} {r : TreeK} {o : Oper} {a : Act} {w : World} (ho : l[i]? = some o) (hp : easyOp o = true) (h : wpQuiet P l.toArray S (fun a' => wpTreeK P l.toArray S Q k r a' w) [o] a) :
  wpTreeK P l.toArray S Q k (.e i ch r) a w := by
 unfold wpTreeK
 rw [List.getElem?_toArray, ho]
 exact ⟨hp, h⟩
theorem treek_a {l : List Oper} {i : Nat} {r : TreeK} {o : Oper} {a : Act} {w : World} (ho : l[i]? = some o)
  (h : ∀ K : Act → World → Prop, (∀ a w, (i ≠ k → S w) ∧ wpTreeK P l.toArray S Q k r a w → K a w) → if Region.wanted o (yielded l.toArray a.tmps) = true then Oper.wp P o a w K Q else K (a.put o.dst undef) w) :
  wpTreeK P l.toArray S Q k (.a i r) a w := by
 unfold wpTreeK
 exact wpOp_step (by rw [List.getElem?_toArray, ho]) h
theorem treek_end {a : Act} {w : World} (h : Q .normal a w) : wpTreeK P ops S Q k .done a w := h
end
end Go.Proofs.Ytdlnnkbigeiilaa
namespace Go.Proofs.Ytdlnnkbigeiilaa
open Go.RowKit
structure Kept (P : Nat → Prop) (w0 w : World) : Prop where
 os : w.os = w0.os
 tape : w.tape = w0.tape
 output : w.output = w0.output
 size : w0.heap.size ≤ w.heap.size
 block : ∀ q, q < w0.heap.size → ¬ P q → w.heap[q]? = w0.heap[q]?
section
variable {P : Nat → Prop} {b c n gb : Nat} {w0 w w1 : World} {r : Option Nat} {t : TypeId} {cs : List Value} {G : GP}
theorem Kept.refl (P : Nat → Prop) (w : World) : Kept P w w := ⟨rfl, rfl, rfl, Nat.le_refl _, fun _ _ _ => rfl⟩
theorem Kept.grown (h : Kept P w0 w) (hg : w.grownBy w1 r) (hr : ∀ q, r = some q → w0.heap.size ≤ q ∨ P q) : Kept P w0 w1 :=
 ⟨hg.os.trans h.os, hg.tape.trans h.tape, hg.output.trans h.output, Nat.le_trans h.size hg.size, fun q hq hne => (hg.block q (Nat.lt_of_lt_of_le hq h.size) (fun e => by
  rcases hr q e.symm with h1 | h1
  ·omega
  ·exact hne h1)).trans (h.block q hq hne)⟩
theorem Kept.up (h : Kept P w0 w) (hb : Below w.heap.size w w1) : Kept P w0 w1 := h.grown (below_grown hb) (fun q e => by cases e)
theorem Kept.trans {w2 : World} (h : Kept P w0 w) (h1 : Kept P w w2) : Kept P w0 w2 :=
 ⟨h1.os.trans h.os, h1.tape.trans h.tape, h1.output.trans h.output, Nat.le_trans h.size h1.size, fun q hq hne => (h1.block q (Nat.lt_of_lt_of_le hq h.size) hne).trans (h.block q hq hne)⟩
theorem Sl.kept {a : Option Addr} (h : Sl w0 w0.heap.size a cs) (hk : Kept P w0 w) (hne : ∀ x, a = some x → ¬ P x.block) : Sl w w.heap.size a cs := by
 rcases h with h | ⟨q, off, rfl, hq, hc⟩
 ·exact Or.inl h
 ·refine Or.inr ⟨q, off, rfl, Nat.lt_of_lt_of_le hq hk.size, fun i v hv => ?_⟩
  rw [cell_of_block (hk.block q hq (hne _ rfl))]
  exact hc i v hv
theorem Bx.keptP (h : Bx w0 b t cs) (hk : Kept P w0 w) (hne : ¬ P b) : Bx w b t cs := (hk.block b h.lt hne).trans h
theorem GroupAt.keptP (h : GroupAt w0 gb G) (hk : Kept P w0 w) (hne : ¬ P gb) : GroupAt w gb G := by
 have hc := cell_of_block (hk.block gb h.lt hne)
 have hl := hk.size
 exact ⟨Nat.lt_of_lt_of_le h.lt hl, by rw [hc]; exact h.kind, by rw [hc]; exact h.size, ⟨Nat.lt_of_lt_of_le h.p.lt hl, fun i x hx => by rw [hc]; exact h.p.cell i x hx⟩, ⟨Nat.lt_of_lt_of_le h.q.lt hl, fun i x hx => by rw [hc]; exact h.q.cell i x hx⟩⟩
theorem Below.keptP {W : World} (h : Below n W w0) (hk : Kept P w0 w) (hn : n ≤ w0.heap.size) (hp : ∀ q, P q → n ≤ q) : Below n W w := by
 refine ⟨hk.os.trans h.os, hk.tape.trans h.tape, hk.output.trans h.output, Nat.le_trans h.size hk.size, fun q hq => ?_⟩
 rw [hk.block q (by omega) (fun e => by have := hp q e; omega)]
 exact h.block q hq
theorem Sl.lt {a : Option Addr} {B : Nat} (h : Sl w B a cs) (h0 : cs ≠ []) (x : Addr) (hx : a = some x) : x.block < B := by
 rcases h with h | ⟨q, off, rfl, hq, _⟩
 ·exact absurd h h0
 ·cases hx; exact hq
end
theorem wpList_pushF {P : Program} (N : Nat) (w0 : World) (hN : N ≤ w0.heap.size) {ops : Array Oper} {rest : List Oper} {o : Oper} {a : Act} {Q : Exit → Act → World → Prop} (hgd : o.guard = none) (s x : Operand) (t : TypeId)
  (ho : o.op = .call { callee := .builtin .append, args := #[s, x], argTypes := #[t, t] })
  (e : TypeId) (i : TypeInfo) (z : Value) (size bytes : Nat) (ht : P.underlying t = some (.slice e)) (hi : P.info? e = some i) (hz : i.zero = some z)
  (hsize : i.size = size) (hby : i.bytes = bytes) (hzs : z.cells.size = size) (hsz : 0 < size)
  (v : Value) (n : Nat) (xs : List Value) (hs : a.eval s = v) (hown : RowO N w0 e size v n xs)
  (news : Array Value) (e2 : TypeId) (b : Nat) (hb : w0.heap.size = b) (hx : a.eval x = .slice (some ⟨b, 0, none⟩) 1 1) (hl : news.size = size) (h1 : ∀ u ∈ news.toList, u.oneCell' = true)
  (h63 : (n + 1) * bytes ≤ 140737488355328) (hn : n + 1 ≤ maxLen)
  (h : ∀ g cap w', RowO N w' e size (.slice (some ⟨g, 0, none⟩) (n + 1) cap) (n + 1) (xs ++ news.toList) → w0.grownBy w' v.ownBlock → (v.ownBlock = some g ∨ w0.heap.size ≤ g) → wpList P ops Q rest (a.put o.dst (.slice (some ⟨g, 0, none⟩) (n + 1) cap)) w') :
  wpList P ops Q (o :: rest) a (w0.alloc (.cells news e2)) := by
 subst hb
 refine wpList_append_lies _ hgd s x t ho N e i z size bytes ht hi hz hsize hby hzs hsz v n xs hs (World.ownsRow.alloc hown _) ⟨w0.heap.size, 0, none⟩ 1 1 news.toList hx (by simpa using hl)
  (World.news_of_block (heap_alloc_new w0 _)) h1 (by omega) hn h63 (by simp; omega) _ rfl ?_
 intro g cap w' hown' hg hf _
 refine h g cap w' hown' ⟨hg.os, hg.tape, hg.output, ?_, ?_⟩ ?_
 ·have := hg.size; simp at this; omega
 ·intro k hk hne
  rw [hg.block k (by simp; omega) hne]
  exact Below.heap_alloc _ _ _ hk
 ·rcases hf with h9 | h9
  ·exact Or.inl h9
  ·right; rw [h9]; simp
theorem step_pushF {P : Program} (N : Nat) (w0 : World) (hN : N ≤ w0.heap.size) {ops : Array Oper} {o : Oper} {a : Act} {K : Act → World → Prop} {Q : Exit → Act → World → Prop} {E : Prop} (hgd : o.guard = none) (s x : Operand) (t : TypeId)
  (ho : o.op = .call { callee := .builtin .append, args := #[s, x], argTypes := #[t, t] })
  (e : TypeId) (i : TypeInfo) (z : Value) (size bytes : Nat) (ht : P.underlying t = some (.slice e)) (hi : P.info? e = some i) (hz : i.zero = some z)
  (hsize : i.size = size) (hby : i.bytes = bytes) (hzs : z.cells.size = size) (hsz : 0 < size)
  (v : Value) (n : Nat) (xs : List Value) (hs : a.eval s = v) (hown : RowO N w0 e size v n xs)
  (news : Array Value) (e2 : TypeId) (b : Nat) (hb : w0.heap.size = b) (hx : a.eval x = .slice (some ⟨b, 0, none⟩) 1 1) (hl : news.size = size) (h1 : ∀ u ∈ news.toList, u.oneCell' = true)
  (h63 : (n + 1) * bytes ≤ 140737488355328) (hn : n + 1 ≤ maxLen)
  (h : ∀ g cap w', RowO N w' e size (.slice (some ⟨g, 0, none⟩) (n + 1) cap) (n + 1) (xs ++ news.toList) → w0.grownBy w' v.ownBlock → (v.ownBlock = some g ∨ w0.heap.size ≤ g) → K (a.put o.dst (.slice (some ⟨g, 0, none⟩) (n + 1) cap)) w') :
  if Region.wanted o (yielded ops a.tmps) = true then Oper.wp P o a (w0.alloc (.cells news e2)) K Q else E := by
 subst hb
 refine step_append_lies _ hgd s x t ho N e i z size bytes ht hi hz hsize hby hzs hsz v n xs hs (World.ownsRow.alloc hown _) ⟨w0.heap.size, 0, none⟩ 1 1 news.toList hx (by simpa using hl)
  (World.news_of_block (heap_alloc_new w0 _)) h1 (by omega) hn h63 (by simp; omega) _ rfl ?_
 intro g cap w' hown' hg hf _
 refine h g cap w' hown' ⟨hg.os, hg.tape, hg.output, ?_, ?_⟩ ?_
 ·have := hg.size; simp at this; omega
 ·intro k hk hne
  rw [hg.block k (by simp; omega) hne]
  exact Below.heap_alloc _ _ _ hk
 ·rcases hf with h9 | h9
  ·exact Or.inl h9
  ·right; rw [h9]; simp
end Go.Proofs.Ytdlnnkbigeiilaa
namespace Go.Proofs.Ytdlnnkbigeiilaa
open Go.RowKit
structure ClaimR where
 k : ClaimA
 pb : Nat
 po : Nat
 bb : Nat
 bo : Nat
 bc : Nat
 ib : Nat
 io : Nat
 ic : Nat
def ClaimR.cells (r : ClaimR) : List Value := [.pointer (some ⟨r.pb, r.po, none⟩), .slice (some ⟨r.bb, r.bo, none⟩) r.k.bases.length r.bc, .slice (some ⟨r.ib, r.io, none⟩) r.k.images.length r.ic]
theorem ClaimR.cells_len (r : ClaimR) : r.cells.length = 3 := rfl
structure ClaimR.At (G : GP) (w : World) (r : ClaimR) : Prop where
 b : Sl w w.heap.size (some ⟨r.bb, r.bo, none⟩) (r.k.bases.flatMap (limC G.p.m))
 i : Sl w w.heap.size (some ⟨r.ib, r.io, none⟩) (r.k.images.flatMap (limC G.p.m))
 bl : r.bb < w.heap.size
 il : r.ib < w.heap.size
structure ClaimR.Src (w : World) (r : ClaimR) : Prop where
 c : ∀ j v, r.k.cells[j]? = some v → w.cell? ⟨r.pb, r.po + j, none⟩ = some v
 l : r.pb < w.heap.size
 k : ClaimA.At w r.k
theorem ClaimR.At.up {G : GP} {w w' : World} {r : ClaimR} (h : r.At G w) (hb : Below w.heap.size w w') : r.At G w' := ⟨h.b.up hb, h.i.up hb, Nat.lt_of_lt_of_le h.bl hb.size, Nat.lt_of_lt_of_le h.il hb.size⟩
theorem ClaimR.At.keptP {G : GP} {P : Nat → Prop} {w w' : World} {r : ClaimR} (h : r.At G w) (hk : Kept P w w') (h1 : ¬ P r.bb) (h2 : ¬ P r.ib) : r.At G w' :=
 ⟨h.b.kept hk (fun x e => by cases e; exact h1), h.i.kept hk (fun x e => by cases e; exact h2), Nat.lt_of_lt_of_le h.bl hk.size, Nat.lt_of_lt_of_le h.il hk.size⟩
theorem ClaimR.Src.up {w w' : World} {r : ClaimR} (h : r.Src w) (hb : Below w.heap.size w w') : r.Src w' :=
 ⟨fun j v hv => by rw [hb.cell (p := ⟨r.pb, r.po + j, none⟩) h.l]; exact h.c j v hv, Nat.lt_of_lt_of_le h.l hb.size, h.k.up hb⟩
structure SetAt (G : GP) (w : World) (a : Option Addr) (rs : List ClaimR) : Prop where
 s : Sl w w.heap.size a (rs.flatMap ClaimR.cells)
 e : ∀ r ∈ rs, r.At G w
theorem SetAt.up {G : GP} {w w' : World} {a : Option Addr} {rs : List ClaimR} (h : SetAt G w a rs) (hb : Below w.heap.size w w') : SetAt G w' a rs := ⟨h.s.up hb, fun r hr => (h.e r hr).up hb⟩
def RsP (bl ol : Nat) (rs : List ClaimR) : Prop := ∀ i (h : i < rs.length), rs[i].pb = bl ∧ rs[i].po = ol + i * 2
structure SetNew (n : Nat) (a : Option Addr) (rs : List ClaimR) : Prop where
 a : ∀ x, a = some x → n ≤ x.block
 e : ∀ r ∈ rs, n ≤ r.bb ∧ n ≤ r.ib
theorem SetNew.mono {n m : Nat} {a : Option Addr} {rs : List ClaimR} (h : SetNew n a rs) (hm : m ≤ n) : SetNew m a rs := ⟨fun x hx => Nat.le_trans hm (h.a x hx), fun r hr => ⟨Nat.le_trans hm (h.e r hr).1, Nat.le_trans hm (h.e r hr).2⟩⟩
def set0 : Value := .agg #[.pointer none, .slice none 0 0]
def ReadSet (G : GP) (gb : Nat) (al : Option Addr) (l : List ClaimA) (w : World) (e : Ending) (w' : World) : Prop :=
 Below w.heap.size w w' ∧ if wrongE G l = 0 then ∃ rs a c, e = .returned (.tuple #[.agg #[.pointer (some ⟨gb, 0, none⟩), .slice a rs.length c], .int .i64 0]) ∧ rs.map ClaimR.k = l ∧ SetAt G w' a rs ∧ SetNew w.heap.size a rs ∧ (∃ bl ol, al = some ⟨bl, ol, none⟩ ∧ RsP bl ol rs) else e = .returned (.tuple #[set0, .int .i64 (wrongE G l : Int)])
theorem infoClaim : (Try.prog.info? 176).map (fun i => (i.zero, i.size, i.bytes)) = some (some (.agg #[.pointer none, .slice none 0 0, .slice none 0 0]), 3, 56) := by kernel_rfl
theorem cElems_eq (G : GP) (c : ClaimA) {b1 b2 : Bool} (h1 : c.bases.all (isEl G.q.m G.size) = b1) (h2 : c.images.all (isEl G.q.m G.size) = b2) : cElems G c = (b1 && b2) := by unfold cElems; rw [h1, h2]
theorem RowO.own_le {N n c k size : Nat} {w : World} {e : TypeId} {a : Option Addr} {xs : List Value} {x : Addr} (h : RowO N w e size (.slice a k c) n xs) (hx : a = some x) : N ≤ x.block := by
 rcases h.2 with ⟨hv, _⟩ | ⟨g, cap, cur, hv, hN, _⟩
 ·simp only [Value.slice.injEq] at hv
  rw [hv.1] at hx
  cases hx
 ·simp only [Value.slice.injEq] at hv
  rw [hv.1] at hx
  cases hx
  exact hN
def RsOk (G : GP) (w : World) (v : Value) (B : Nat) (rs : List ClaimR) : Prop := ∀ r ∈ rs, r.At G w ∧ v.ownBlock ≠ some r.bb ∧ v.ownBlock ≠ some r.ib ∧ B ≤ r.bb ∧ B ≤ r.ib
theorem RsOk.snoc {G : GP} {w0 wn w w' : World} {v : Value} {g n c B bs : Nat} {rs : List ClaimR} {r : ClaimR} (h : RsOk G w0 v B rs) (hk : Kept (fun q => q = bs ∨ v.ownBlock = some q) w0 w') (hB : bs < B)
  (hr : r.At G wn) (hk2 : Kept (fun q => q = bs ∨ v.ownBlock = some q) wn w') (h1 : B ≤ r.bb) (h2 : B ≤ r.ib) (h3 : v.ownBlock ≠ some r.bb) (h4 : v.ownBlock ≠ some r.ib)
  (hf : v.ownBlock = some g ∨ w.heap.size ≤ g) (hw0 : w0.heap.size ≤ w.heap.size) (hwn : wn.heap.size ≤ w.heap.size) : RsOk G w' (.slice (some ⟨g, 0, none⟩) n c) B (rs ++ [r]) := by
 have key : ∀ (x : World) (s : ClaimR), s.At G x → x.heap.size ≤ w.heap.size → Kept (fun q => q = bs ∨ v.ownBlock = some q) x w' → v.ownBlock ≠ some s.bb → v.ownBlock ≠ some s.ib → B ≤ s.bb → B ≤ s.ib → s.At G w' ∧ (Value.slice (some ⟨g, 0, none⟩) n c).ownBlock ≠ some s.bb ∧ (Value.slice (some ⟨g, 0, none⟩) n c).ownBlock ≠ some s.ib ∧ B ≤ s.bb ∧ B ≤ s.ib := by
  intro x s a1 a2 a3 a4 a5 a6 a7
  refine ⟨a1.keptP a3 (fun e => e.elim (fun e => by omega) (fun e => a4 e)) (fun e => e.elim (fun e => by omega) (fun e => a5 e)), fun e => ?_, fun e => ?_, a6, a7⟩
  ·have e : g = s.bb := Option.some.inj e
   rcases hf with hf | hf
   ·exact a4 (by rw [hf, e])
   ·have := a1.bl; omega
  ·have e : g = s.ib := Option.some.inj e
   rcases hf with hf | hf
   ·exact a5 (by rw [hf, e])
   ·have := a1.il; omega
 intro s hs
 rcases List.mem_append.1 hs with hs | hs
 ·obtain ⟨b1, b2, b3, b4, b5⟩ := h s hs
  exact key w0 s b1 hw0 hk b2 b3 b4 b5
 ·obtain rfl := List.mem_singleton.1 hs
  exact key wn s hr hwn hk2 h3 h4 h1 h2
theorem RsP.snoc {bl ol j : Nat} {rs : List ClaimR} {r : ClaimR} (h : RsP bl ol rs) (hl : rs.length = j) (h1 : r.pb = bl) (h2 : r.po = ol + j * 2) : RsP bl ol (rs ++ [r]) := by
 intro i hi
 by_cases h9 : i < rs.length
 ·rw [List.getElem_append_left h9]; exact h i h9
 ·have : i = rs.length := by simp at hi; omega
  subst this
  rw [List.getElem_append_right (Nat.le_refl _)]
  simp only [Nat.sub_self, List.getElem_singleton]
  exact ⟨h1, by rw [h2, hl]⟩
theorem src_all {rs : List ClaimR} {l : List ClaimA} {bl ol : Nat} {w : World} (hk : rs.map ClaimR.k = l) (hp : RsP bl ol rs) (hC : ClaimsAt w (some ⟨bl, ol, none⟩) l) : ∀ r ∈ rs, r.Src w := by
 subst hk
 intro r hr
 obtain ⟨i, hi, rfl⟩ := List.getElem_of_mem hr
 obtain ⟨h1, h2⟩ := hp i hi
 obtain ⟨h3, h4⟩ := hC.s.elemS ClaimA.cells_len (by omega) i (by simpa using hi)
 rw [List.getElem_map] at h4
 exact ⟨fun j v hv => by rw [h1, h2]; exact h4 j v hv, by rw [h1]; exact h3, hC.e _ (List.mem_map.2 ⟨_, List.getElem_mem hi, rfl⟩)⟩
theorem wrong_elems {G : GP} {l : List ClaimA} (hz : shapeE l = 0) : (l.all (cElems G) = true → wrongE G l = 0) ∧ (l.all (cElems G) = false → wrongE G l = 7) := by
 unfold wrongE
 rw [if_neg (by rw [hz]; decide)]
 exact ⟨fun h => if_pos h, fun h => if_neg (by rw [h]; decide)⟩
theorem read_shape (gb : Nat) (l : List ClaimA) (z : Nat) (hz : shapeE l = z) (h0 : z ≠ 0) (al : Option Addr) (cl : Nat) (w : World) (hS : Sl w w.heap.size al (l.flatMap ClaimA.cells)) :
  Calls Try.prog 107 #[.pointer (some ⟨gb, 0, none⟩), .slice al l.length cl] w (Gives (.tuple #[set0, .int .i64 (z : Int)]) w) := by
 have hsh := shape_any l al cl w hS
 rw [hz] at hsh
 have hb : ∀ w1, Below w.heap.size w w1 → Calls Try.prog 143 #[.slice al l.length cl] w1 (Gives (.int .i64 (z : Int)) w1) := fun w1 h1 => by
  have h2 := shape_any l al cl w1 (hS.up h1)
  rwa [hz] at h2
 have HSH := Lib.hid hb
 have hd : ((z : Int) != 0) = true := by simp; omega
 clear hb hsh hz hS h0
 unfold Gives set0
 go_enter Try.func107, Try.ntmps107
 go_wp2_with fail
 obtain ⟨w1, hq1, hb9, hz9, Hbr⟩ := new1 w 121 [.pointer none, .slice none 0 0]
 rw [hq1]
 clear hq1
 have HB := Lib.hid hb9
 have HZS := hz9
 clear hb9 hz9
 have br_ := Hbr.out.c2
 go_wp2_with fail
 refine (HSH.out _ HB.out).mono ?_
 rintro e w2 ⟨rfl, hb9⟩
 clear br_
 replace Hbr := Lib.hid (Hbr.out.up hb9)
 replace HB := hbu HB hb9
 replace HZS := sz HZS hb9.size
 clear hb9
 have br_ := Hbr.out.c2
 have f3_br := Hbr.out.frozen
 have o3_br_ := br_; clear br_
 obtain ⟨w3, hq3, hg9, hz9, hx9⟩ := put2 Hbr 0 (.pointer none) 1 (.slice none 0 0) [.pointer none, .slice none 0 0] rfl
 replace HB := hbg HB hg9 (by have g0 := HZS.out; omega)
 replace HZS := sz HZS hz9.out
 replace Hbr := hx9
 clear hx9 hg9 hz9
 have br_ := Hbr.out.c2
 go_wp2_with fail
 clear hq3 o3_br_ f3_br
 simp [bodyPost, results, Try.results107, go_sem, br_]
 exact HB.out
theorem read_body (G : GP) (ok : G.Ok) (gb : Nat) (l : List ClaimA) (hz : shapeE l = 0) (bl ol cl : Nat) (w : World) (hG : GroupAt w gb G) (hC : ClaimsAt w (some ⟨bl, ol, none⟩) l) :
  Calls Try.prog 107 #[.pointer (some ⟨gb, 0, none⟩), .slice (some ⟨bl, ol, none⟩) l.length cl] w (ReadSet G gb (some ⟨bl, ol, none⟩) l w) := by
 have hb : ∀ w1, Below w.heap.size w w1 → Calls Try.prog 143 #[.slice (some ⟨bl, ol, none⟩) l.length cl] w1 (Gives (.int .i64 0) w1) := fun w1 h1 => by
  have h2 := shape_any l _ cl w1 (hC.s.up h1)
  rwa [hz] at h2
 have HSH := Lib.hid hb
 obtain ⟨hl0, hl64, hlc⟩ := shape_ok hz
 have HZ := Lib.hid hz
 have HLC := Lib.hid hlc
 have HC := Lib.hid hC
 have HG := Lib.hid hG
 have OK := Lib.hid ok
 have HGB := Lib.hid hG.lt
 have HBLK := Lib.hid (hC.s.elemS ClaimA.cells_len (by omega) 0 hl0).1
 clear hb hz hlc hC hG ok
 go_enter Try.func107, Try.ntmps107
 go_wp2_with fail
 have HZS := HGB
 replace HZS := sz HZS HBLK.out
 obtain ⟨w1, hq1, hb9, hz9, Hbr⟩ := new1 w 121 [.pointer none, .slice none 0 0]
 rw [hq1]
 clear hq1
 replace HG := Lib.hid (HG.out.up hb9)
 have HB := Lib.hid hb9
 replace HZS := sz HZS hz9.out
 clear hb9 hz9
 have br_ := Hbr.out.c2
 go_wp2_with fail
 refine (HSH.out _ HB.out).mono ?_
 rintro e w2 ⟨rfl, hb9⟩
 clear br_
 replace Hbr := Lib.hid (Hbr.out.up hb9)
 replace HG := Lib.hid (HG.out.up hb9)
 replace HB := hbu HB hb9
 replace HZS := sz HZS hb9.size
 clear hb9
 have br_ := Hbr.out.c2
 have o3_br_ := br_; clear br_
 obtain ⟨w3, hq3, hb9, hz9, Hbs⟩ := new1 w2 121 [.pointer (some ⟨gb, 0, none⟩), .slice none 0 0]
 replace Hbr := Lib.hid (Hbr.out.up hb9)
 replace HG := Lib.hid (HG.out.up hb9)
 replace HB := hbu HB hb9
 replace HZS := sz HZS hz9.out
 clear hb9 hz9
 have br_ := Hbr.out.c2
 have bs_ := Hbs.out.c2
 have f4_bs := Hbs.out.frozen
 have o4_br_ := br_; clear br_
 have o4_bs_ := bs_; clear bs_
 obtain ⟨w4, hq4, hg9, hz9, hx9⟩ := put1 Hbs 1 (.slice none 0 0) [.pointer (some ⟨gb, 0, none⟩), .slice none 0 0] rfl
 replace Hbr := Lib.hid (Hbr.out.grown hg9.out (sne (by have g0 := HZS.out; omega)))
 replace HG := Lib.hid (HG.out.grown hg9.out (sne (by have g0 := HZS.out; omega)))
 replace HB := hbg HB hg9 (by have g0 := HZS.out; omega)
 replace HZS := sz HZS hz9.out
 replace Hbs := hx9
 clear hx9 hg9 hz9
 have br_ := Hbr.out.c2
 have bs_ := Hbs.out.c2
 have HK := Lib.hid (Kept.refl (fun q9 => q9 = w2.heap.size) w4)
 go_wp2_with fail
 clear hq4 o4_bs_ o4_br_ f4_bs hq3 o3_br_
 go_loopw [23] (fun i wr => ∃ (j : Nat) (rs : List ClaimR) (g : Option Addr) (c9 : Nat), j ≤ l.length ∧ i = .int .i64 j ∧ Hid (rs.length = j) ∧ Hid (rs.map ClaimR.k = l.take j) ∧ Hid (Kept (fun q => q = w2.heap.size) w4 wr) ∧ Hid (Bx wr w2.heap.size 121 [.pointer (some ⟨gb, 0, none⟩), .slice g j c9]) ∧ Hid (RowO w4.heap.size wr 176 3 (.slice g j c9) j (rs.flatMap ClaimR.cells)) ∧ Hid (RsOk G wr (.slice g j c9) w4.heap.size rs) ∧ Hid (RsP bl ol rs) ∧ Hid ((l.take j).all (cElems G) = true)) (fun i _ => l.length - (intOf i).toNat)
 case atStart => exact ⟨0, [], none, 0, Nat.zero_le _, rfl, rfl, rfl, HK, Hbs, RowO.nil, Lib.hid (show RsOk G _ _ _ [] from fun _ h => absurd h (by simp)), Lib.hid (show RsP bl ol [] from fun _ h => absurd h (by simp)), rfl⟩
 case round =>
  obtain ⟨j, rs, g, c9, hj, rfl, HRL, HRK, HK, Hbs9, Hr, HRS, HRP, HAL⟩ := hrel
  have hg9 := HK.out
  clear br_ bs_ Hbs
  replace Hbr := Lib.hid (Bx.keptP (P := fun q9 => q9 = w2.heap.size) Hbr.out hg9 (show ¬ (w.heap.size = w2.heap.size) by have g0 := HZS.out; omega))
  replace HG := Lib.hid (HG.out.keptP hg9 (show ¬ (_ = w2.heap.size) by have g0 := HZS.out; omega))
  replace HB := Lib.hid (Below.keptP HB.out hg9 (by have g0 := HZS.out; omega) (fun q9 h9 => (show w.heap.size ≤ _ by subst h9; have g0 := HZS.out; omega)))
  replace HZS := sz HZS (show w4.heap.size ≤ wr.heap.size from hg9.size)
  clear hg9
  have br_ := Hbr.out.c2
  have Hbs := Hbs9
  clear Hbs9
  have bs_ := Hbs.out.c2
  by_cases hjl : j < l.length
  ·have HCC := Lib.hid (fun W (hb : Below w.heap.size w W) => ((HC.out.s.up hb).elemS ClaimA.cells_len (by omega) j hjl).2)
   have HKA := Lib.hid (HC.out.one j hjl)
   have HSHP := Lib.hid (HLC.out l[j] (List.getElem_mem hjl))
   have HTK := Lib.hid (List.take_succ_eq_append_getElem hjl)
   have HALS := Lib.hid (fun h => all_snoc (f := cElems G) hjl HAL.out h)
   have HALN := Lib.hid (fun h => all_not (f := cElems G) hjl h)
   generalize l[j] = c at *
   obtain ⟨b1, hb1⟩ : ∃ b, c.bases.all (isEl G.q.m G.size) = b := ⟨_, rfl⟩
   obtain ⟨b2, hb2⟩ : ∃ b, c.images.all (isEl G.q.m G.size) = b := ⟨_, rfl⟩
   have HB1 := Lib.hid hb1
   have HB2 := Lib.hid hb2
   have HCE := Lib.hid (cElems_eq G c hb1 hb2)
   clear hb1 hb2
   have hn8 := HSHP.out.2.1
   have hni := HSHP.out.2.2
   have HNI := Lib.hid hni
   clear hni
   have HRLT := Lib.hid (fun q (e : (Value.slice g j c9).ownBlock = some q) => (Hr.out.lt q e).2)
   have HSB := Lib.hid (show w2.heap.size < w4.heap.size from (by have a1 := HZS.out; have a2 := HZS.out; omega))
   have HK2 := Lib.hid (Kept.refl (fun q9 => q9 = w2.heap.size ∨ Value.ownBlock (.slice g j c9) = some q9) wr)
   have hc := HCC.out _ HB.out
   have hc_0 := hc 0 _ rfl
   rw [Nat.add_zero] at hc_0
   have hc_1 := hc 1 _ rfl
   clear hc
   go_wp2_with fail
   clear hc_0 hc_1
   refine (allEl_v G OK.out gb c.bases b1 HB1.out c.bases.length rfl c.ab c.cb (by omega) wr HG.out (HKA.out.b.up HB.out)).mono ?_
   rintro e w5 ⟨vx, rfl, hb9, hx9⟩
   clear br_
   replace Hbr := Lib.hid (Hbr.out.up hb9)
   clear bs_
   replace Hbs := Lib.hid (Hbs.out.up hb9)
   replace HG := Lib.hid (HG.out.up hb9)
   replace Hr := Lib.hid (Hr.out.up hb9)
   replace HK := Lib.hid (Kept.up HK.out hb9)
   replace HK2 := Lib.hid (Kept.up HK2.out hb9)
   replace HB := hbu HB hb9
   replace HZS := sz HZS hb9.size
   have HX := Lib.hid hx9
   clear hx9 hb9
   have br_ := Hbr.out.c2
   have bs_ := Hbs.out.c2
   have BR1 := Lib.hid (Below.refl w5.heap.size w5)
   have hc := HCC.out _ HB.out
   have hc_0 := hc 0 _ rfl
   rw [Nat.add_zero] at hc_0
   have hc_1 := hc 1 _ rfl
   clear hc
   go_wp2_with fail
   clear hc_0 hc_1
   refine (allEl_v G OK.out gb c.images b2 HB2.out c.images.length rfl c.ai c.ci (by rw [HNI.out]; omega) w5 HG.out (HKA.out.i.up HB.out)).mono ?_
   rintro e w6 ⟨vy, rfl, hb9, hy9⟩
   clear br_
   replace Hbr := Lib.hid (Hbr.out.up hb9)
   clear bs_
   replace Hbs := Lib.hid (Hbs.out.up hb9)
   replace HG := Lib.hid (HG.out.up hb9)
   replace Hr := Lib.hid (Hr.out.up hb9)
   replace BR1 := hbu BR1 hb9
   replace HK := Lib.hid (Kept.up HK.out hb9)
   replace HK2 := Lib.hid (Kept.up HK2.out hb9)
   replace HB := hbu HB hb9
   replace HZS := sz HZS hb9.size
   have HY := Lib.hid hy9
   clear hy9 hb9
   have br_ := Hbr.out.c2
   have bs_ := Hbs.out.c2
   have HK4 := Lib.hid (Kept.refl (fun q9 => q9 = w2.heap.size ∨ Value.ownBlock (.slice g j c9) = some q9) w6)
   obtain ⟨bb, hbb⟩ : ∃ b, (b1 && b2) = b := ⟨_, rfl⟩
   cases b1
   case false =>
    have hw7 := (wrong_elems (G := G) HZ.out).2 (HALN.out HCE.out)
    have f7_br := Hbr.out.frozen
    have o7_br_ := br_; clear br_
    have o7_bs_ := bs_; clear bs_
    obtain ⟨w7, hq7, hg9, hz9, hx9⟩ := put2 Hbr 0 (.pointer none) 1 (.slice none 0 0) [.pointer none, .slice none 0 0] rfl
    replace Hbs := Lib.hid (Hbs.out.grown hg9.out (sne (by have g0 := HZS.out; omega)))
    replace HG := Lib.hid (HG.out.grown hg9.out (sne (by have g0 := HZS.out; omega)))
    replace HB := hbg HB hg9 (by have g0 := HZS.out; omega)
    replace HZS := sz HZS hz9.out
    replace Hbr := hx9
    clear hx9 hg9 hz9
    have br_ := Hbr.out.c2
    have bs_ := Hbs.out.c2
    go_wp2_with fail
    clear hq7 o7_bs_ o7_br_ f7_br
    simp [bodyPost, results, Try.results107, go_sem, br_]
    exact ⟨HB.out, by rw [if_neg (by rw [hw7]; decide), hw7]; rfl⟩
   cases b2
   case false =>
    have hw7 := (wrong_elems (G := G) HZ.out).2 (HALN.out HCE.out)
    have f7_br := Hbr.out.frozen
    have o7_br_ := br_; clear br_
    have o7_bs_ := bs_; clear bs_
    obtain ⟨w7, hq7, hg9, hz9, hx9⟩ := put2 Hbr 0 (.pointer none) 1 (.slice none 0 0) [.pointer none, .slice none 0 0] rfl
    replace Hbs := Lib.hid (Hbs.out.grown hg9.out (sne (by have g0 := HZS.out; omega)))
    replace HG := Lib.hid (HG.out.grown hg9.out (sne (by have g0 := HZS.out; omega)))
    replace HB := hbg HB hg9 (by have g0 := HZS.out; omega)
    replace HZS := sz HZS hz9.out
    replace Hbr := hx9
    clear hx9 hg9 hz9
    have br_ := Hbr.out.c2
    have bs_ := Hbs.out.c2
    go_wp2_with fail
    clear hq7 o7_bs_ o7_br_ f7_br
    simp [bodyPost, results, Try.results107, go_sem, br_]
    exact ⟨HB.out, by rw [if_neg (by rw [hw7]; decide), hw7]; rfl⟩
   clear hbb bb
   obtain ⟨ax, cx, rfl, hsx, hfx⟩ := HX.out rfl
   obtain ⟨ay, cy, rfl, hsy, hfy⟩ := HY.out rfl
   obtain ⟨xb, xo, rfl, hxl⟩ := hsx.adr (flat_ne (limC_len _) (by omega) (List.length_pos_iff.1 HSHP.out.1))
   obtain ⟨yb, yo, rfl, hyl⟩ := hsy.adr (flat_ne (limC_len _) (by omega) (List.length_pos_iff.1 (by rw [HNI.out]; exact HSHP.out.1)))
   have HAN := Lib.hid (show ClaimR.At G w6 ⟨c, bl, ol + j * 2, xb, xo, cx, yb, yo, cy⟩ from ⟨hsx.up BR1.out, hsy, Nat.lt_of_lt_of_le hxl BR1.out.size, hyl⟩)
   have HFX := Lib.hid (hfx _ rfl)
   have HFY := Lib.hid (hfy _ rfl)
   clear hsx hsy hfx hfy hxl hyl HX HY
   go_wp2_with fail
   have HT := Lib.hid (show Below w6.heap.size w6 w6.drew from (Below.refl _ _).drew)
   have hl_br := Hbr.out.lt
   have hl_bs := Hbs.out.lt
   refine wp_region_treek (fun wq9 => ∃ E : But w6 (Value.ownBlock (.slice g j c9)), wq9 = E.w) 11 ((.qs [0] (.e 1 [] (.qs [2, 3, 4, 5, 6, 7] (.a 8 (.a 9 (.qs [10] (.a 11 .done)))))))) (by kernel_rfl) (by kernel_rfl) (fun _ _ d _ _ h => by cases d <;> exact h) ⟨⟨_, ((below_grown HT.out).but _)⟩, rfl⟩ ?_
   have hov_br := fun (E : But w6 (Value.ownBlock (.slice g j c9))) o => E.cell (b := w.heap.size) o hl_br (by intro e9; have a1 := Hr.out.lt _ e9; have g0 := HZS.out; omega)
   have hov_bs := fun (E : But w6 (Value.ownBlock (.slice g j c9))) o => E.cell (b := w2.heap.size) o hl_bs (by intro e9; have a1 := Hr.out.lt _ e9; have g0 := HZS.out; omega)
   simp only [TreeK.qs]
   repeat (first | (refine treek_q rfl rfl ?_; go_big_quiet_step (fail); refine wpQuiet_nil ?_) | (refine treek_e rfl rfl ?_; go_big_quiet_step (fail); refine wpQuiet_nil ?_))
   clear hov_br hl_br hov_bs hl_bs
   refine treek_a rfl (fun K hK => ?_)
   go_simp
   refine hK _ _ ⟨fun _ => ⟨⟨_, (below_grown (HT.out.alloc HT.out.size _)).but _⟩, rfl⟩, ?_⟩
   clear hK K
   obtain ⟨i9, hi9, hz90, hz91, hz92⟩ := info_parts infoClaim
   have HG1 := Lib.hid ((below_grown HT.out).but (Value.ownBlock (.slice g j c9)))
   clear br_
   replace Hbr := Lib.hid (Hbr.out.up HT.out)
   clear bs_
   replace Hbs := Lib.hid (Hbs.out.up HT.out)
   replace HG := Lib.hid (HG.out.up HT.out)
   replace Hr := Lib.hid (Hr.out.up HT.out)
   replace HK := Lib.hid (Kept.up HK.out HT.out)
   replace HK2 := Lib.hid (Kept.up HK2.out HT.out)
   replace HK4 := Lib.hid (Kept.up HK4.out HT.out)
   replace HB := hbu HB HT.out
   replace HZS := sz HZS HT.out.size
   refine treek_a rfl (fun K hK => ?_)
   refine step_pushF (w4.heap.size) w6.drew (by have g0 := HZS.out; omega) rfl _ _ 119 rfl 176 i9 _ 3 56 Try.underlying119 hi9 hz90 hz91 hz92 rfl (by omega) ((.slice g j c9)) (j) ((rs.flatMap ClaimR.cells)) rfl Hr.out _ _ _ rfl rfl rfl (by simp [Value.oneCell']) (by omega) (by unfold maxLen; omega) ?_
   intro g7 c7 w7 hown9 hg9 hf9
   have HF9 := Lib.hid hf9
   clear hf9
   have HGR := Lib.hid (HG1.out.trans hg9)
   have hb9 := Below.grown HB.out hg9 (by have g0 := HZS.out; omega) (fun q hq => Nat.le_trans (show w.heap.size ≤ w4.heap.size by have g0 := HZS.out; omega) (Hr.out.lt q hq).1)
   replace Hbr := Lib.hid (Hbr.out.grown hg9 (fun e9 => by have a1 := Hr.out.lt _ e9; have g0 := HZS.out; omega))
   replace Hbs := Lib.hid (Hbs.out.grown hg9 (fun e9 => by have a1 := Hr.out.lt _ e9; have g0 := HZS.out; omega))
   replace HG := Lib.hid (HG.out.grown hg9 (fun e9 => by have a1 := Hr.out.lt _ e9; have g0 := HZS.out; omega))
   replace HK := Lib.hid (Kept.grown HK.out hg9 (fun q hq => Or.inl (Nat.le_trans (show w4.heap.size ≤ w4.heap.size by have g0 := HZS.out; omega) (Hr.out.lt q hq).1)))
   replace HK2 := Lib.hid (Kept.grown HK2.out hg9 (fun q hq => Or.inr (Or.inr hq)))
   replace HK4 := Lib.hid (Kept.grown HK4.out hg9 (fun q hq => Or.inr (Or.inr hq)))
   replace HZS := sz HZS hg9.size
   clear Hr HB HT HG1
   have Hr := Lib.hid hown9
   have HB := Lib.hid hb9
   clear hb9 hown9 hg9 hi9 hz90 hz91 hz92
   refine hK _ _ ⟨fun _ => ⟨⟨w7, HGR.out⟩, rfl⟩, ?_⟩
   clear hK K HGR
   try simp only [Act.put, List.setIfInBounds_toArray, List.set_cons_succ, List.set_cons_zero]
   repeat (first | (refine treek_q rfl rfl ?_; go_big_quiet_step (fail); refine wpQuiet_nil ?_) | (refine treek_e rfl rfl ?_; go_big_quiet_step (fail); refine wpQuiet_nil ?_))
   replace HZS := sz HZS (Hr.out.lt g7 rfl).1
   have br_ := Hbr.out.c2
   have bs_ := Hbs.out.c2
   have f8_bs := Hbs.out.frozen
   have o8_br_ := br_; clear br_
   have o8_bs_ := bs_; clear bs_
   obtain ⟨w8, hq8, hg9, hz9, hx9⟩ := put1 Hbs 1 (.slice (some ⟨g7, 0, none⟩) ((j + 1)) c7) [.pointer (some ⟨gb, 0, none⟩), .slice (some ⟨g7, 0, none⟩) ((j + 1)) c7] rfl
   replace Hbr := Lib.hid (Hbr.out.grown hg9.out (sne (by have g0 := HZS.out; omega)))
   replace HG := Lib.hid (HG.out.grown hg9.out (sne (by have g0 := HZS.out; omega)))
   replace Hr := Lib.hid (RowO.grown Hr.out hg9.out (fun q9 e8 e9 => by have a1 := Hr.out.lt _ e8; have a0 := Option.some.inj e9; have g0 := HZS.out; omega))
   replace HK := Lib.hid (Kept.grown HK.out hg9.out (fun q9 e9 => by obtain rfl := Option.some.inj e9; exact Or.inr (rfl)))
   replace HK2 := Lib.hid (Kept.grown HK2.out hg9.out (fun q9 e9 => by obtain rfl := Option.some.inj e9; exact Or.inr (Or.inl rfl)))
   replace HK4 := Lib.hid (Kept.grown HK4.out hg9.out (fun q9 e9 => by obtain rfl := Option.some.inj e9; exact Or.inr (Or.inl rfl)))
   replace HB := hbg HB hg9 (by have g0 := HZS.out; omega)
   replace HZS := sz HZS hz9.out
   replace Hbs := hx9
   clear hx9 hg9 hz9
   have br_ := Hbr.out.c2
   have bs_ := Hbs.out.c2
   refine treek_a rfl (fun K hK => ?_)
   go_simp
   try rw [hq8]
   refine hK _ _ ⟨fun h9 => absurd rfl h9, ?_⟩
   clear hK K hq8 o8_bs_ o8_br_ f8_bs
   refine treek_end ?_
   go_wp2_with fail
   go_roundw
   case rel => exact ⟨j + 1, rs ++ [⟨c, bl, ol + j * 2, xb, xo, cx, yb, yo, cy⟩], _, _, by omega, by go_num, Lib.hid (by rw [List.length_append, HRL.out]; rfl), Lib.hid (by rw [List.map_append, HRK.out, HTK.out]; rfl), HK, Hbs, Hr.out.eq (by simp [ClaimR.cells]) rfl, Lib.hid (HRS.out.snoc HK2.out HSB.out HAN.out HK4.out (show _ ≤ xb by have a1 := HZS.out; have a2 := HFX.out; omega) (show _ ≤ yb by have a1 := HZS.out; have a2 := HZS.out; have a3 := HFY.out; omega) (fun e => by have a1 := HRLT.out xb e; have a2 := HFX.out; omega) (fun e => by have a1 := HRLT.out yb e; have a2 := HZS.out; have a3 := HFY.out; omega) HF9.out (by have a1 := HZS.out; have a2 := HZS.out; have a3 := HZS.out; omega) (by have a1 := HZS.out; omega)), HRP.out.snoc HRL.out rfl rfl, HALS.out HCE.out⟩
   case measure => simp [intOf]; omega
  ·have hjn : j = l.length := by omega
   subst hjn
   rw [List.take_length] at HRK HAL
   have HKB := Lib.hid (Kept.refl (fun q9 => q9 = w.heap.size) wr)
   have HBS := Lib.hid (show w.heap.size < w4.heap.size from (by have a0 := HZS.out; have a1 := HZS.out; have a2 := HZS.out; have a3 := HZS.out; omega))
   have f5_br := Hbr.out.frozen
   have o5_br_ := br_; clear br_
   have o5_bs_ := bs_; clear bs_
   obtain ⟨w5, hq5, hg9, hz9, hx9⟩ := put2 Hbr 0 (.pointer (some ⟨gb, 0, none⟩)) 1 (.slice g l.length c9) [.pointer (some ⟨gb, 0, none⟩), .slice g l.length c9] rfl
   replace Hbs := Lib.hid (Hbs.out.grown hg9.out (sne (by have g0 := HZS.out; omega)))
   replace HG := Lib.hid (HG.out.grown hg9.out (sne (by have g0 := HZS.out; omega)))
   replace Hr := Lib.hid (RowO.grown Hr.out hg9.out (fun q9 e8 e9 => by have a1 := Hr.out.lt _ e8; have a0 := Option.some.inj e9; have g0 := HZS.out; omega))
   replace HKB := Lib.hid (Kept.grown HKB.out hg9.out (fun q9 e9 => by obtain rfl := Option.some.inj e9; exact Or.inr (rfl)))
   replace HB := hbg HB hg9 (by have g0 := HZS.out; omega)
   replace HZS := sz HZS hz9.out
   replace Hbr := hx9
   clear hx9 hg9 hz9
   have br_ := Hbr.out.c2
   have bs_ := Hbs.out.c2
   go_wp2_with fail
   clear hq5 o5_bs_ o5_br_ f5_br
   simp [bodyPost, results, Try.results107, go_sem, br_]
   exact ⟨HB.out, by rw [if_pos ((wrong_elems HZ.out).1 HAL.out)]; exact ⟨rs, g, c9, by rw [HRL.out], HRK.out, ⟨Hr.out.sl, fun r hr => by obtain ⟨b1, _, _, b4, b5⟩ := HRS.out r hr; have a0 := HBS.out; exact b1.keptP HKB.out (show ¬ (r.bb = w.heap.size) by omega) (show ¬ (r.ib = w.heap.size) by omega)⟩, ⟨fun x hx => by have a0 := HBS.out; have a1 := RowO.own_le Hr.out hx; omega, fun r hr => by obtain ⟨_, _, _, b4, b5⟩ := HRS.out r hr; have a0 := HBS.out; omega⟩, ⟨bl, ol, rfl, HRP.out⟩⟩⟩
theorem sread_any (G : GP) (ok : G.Ok) (gb : Nat) (l : List ClaimA) (al : Option Addr) (cl : Nat) (w : World) (hG : GroupAt w gb G) (hC : ClaimsAt w al l) :
  Calls Try.prog 107 #[.pointer (some ⟨gb, 0, none⟩), .slice al l.length cl] w (ReadSet G gb al l w) := by
 by_cases hz : shapeE l = 0
 ·obtain ⟨bl, ol, rfl, _⟩ := hC.s.adr (flat_ne ClaimA.cells_len (by omega) (List.length_pos_iff.1 (shape_ok hz).1))
  exact read_body G ok gb l hz bl ol cl w hG hC
 ·refine (read_shape gb l _ rfl hz al cl w hC.s).mono ?_
  rintro e w' ⟨rfl, hb⟩
  have h9 : wrongE G l = shapeE l := by unfold wrongE; rw [if_pos hz]
  exact ⟨hb, by rw [h9, if_neg hz]⟩
end Go.Proofs.Ytdlnnkbigeiilaa
namespace Go.Proofs.Ytdlnnkbigeiilaa
theorem Lw_iff {q p : Nat} (hq : 0 < q) (hp : p = 2 * q + 1) (u v : Nat) : Lw q p u = Lw q p v ↔ PM p u v :=
 ⟨fun h => ((Lw_pm hp u).symm.trans (by rw [h]; exact PM.refl _ _)).trans (Lw_pm hp v), fun h => Lw_eq hq hp h⟩
end Go.Proofs.Ytdlnnkbigeiilaa
namespace Go.Proofs.Ytdlnnkbigeiilaa
open Go.RowKit
section
variable {G : GP}
theorem lowN_iff (ok : G.Ok) (x y : Nat) : lowN G x = lowN G y ↔ PM G.p.m x y := Lw_iff ok.q.pos ok.twice x y
end
end Go.Proofs.Ytdlnnkbigeiilaa
namespace Go.Proofs.Ytdlnnkbigeiilaa
open Go.RowKit
theorem elemField : ∃ f, (Try.prog.fieldsOf 164).toList = [f] ∧ f.name = "n" ∧ f.type = 76 ∧ f.offset = 0 := by
 have h : ((Try.prog.fieldsOf 164).toList.map fun f => (f.name, f.type, f.offset)) = [("n", 76, 0)] := by kernel_rfl
 generalize (Try.prog.fieldsOf 164).toList = fs at *
 obtain ⟨f, rfl⟩ : ∃ f, fs = [f] := List.length_eq_one_iff.1 (by have := congrArg List.length h; simpa using this)
 simp only [List.map_cons, List.map_nil, List.cons.injEq, Prod.mk.injEq, and_true] at h
 exact ⟨f, rfl, h.1, h.2.1, h.2.2⟩
theorem eqElem (x y : Nat) (hx : x < BB ^ 4) (hy : y < BB ^ 4) (w : World) (b : Bool) (hb : b = decide (x = y)) :
  (Op.equalIn 10000 164 (.agg #[.int .u64 (dig x 0 : Int), .int .u64 (dig x 1 : Int), .int .u64 (dig x 2 : Int), .int .u64 (dig x 3 : Int)]) (.agg #[.int .u64 (dig y 0 : Int), .int .u64 (dig y 1 : Int), .int .u64 (dig y 2 : Int), .int .u64 (dig y 3 : Int)])).run Try.prog w = .ok b w := by
 obtain ⟨f, hf, hn, ht, ho⟩ := elemField
 rw [run_equalIn_struct w 9999 _ _ _ (by kernel_rfl) (by kernel_rfl), hf]
 obtain ⟨i, hi⟩ := Option.isSome_iff_exists.1 infoU64
 have h4 := run_equalIn_four w 9997 _ _ Try.underlying76 Try.underlying74 i hi cellsU64 plainU64 (dig x 0 : Int) (dig x 1 : Int) (dig x 2 : Int) (dig x 3 : Int) (dig y 0 : Int) (dig y 1 : Int) (dig y 2 : Int) (dig y 3 : Int)
 have he : ((dig x 0 : Int) == (dig y 0 : Int) && ((dig x 1 : Int) == (dig y 1 : Int) && ((dig x 2 : Int) == (dig y 2 : Int) && (dig x 3 : Int) == (dig y 3 : Int)))) = b := by
  rw [hb, Bool.eq_iff_iff]
  simp only [Bool.and_eq_true, beq_iff_eq, Int.natCast_inj, decide_eq_true_eq]
  exact ⟨fun ⟨h0, h1, h2, h3⟩ => lim_eq x y hx hy h0 h1 h2 h3, fun e => by rw [e]; exact ⟨rfl, rfl, rfl, rfl⟩⟩
 rw [he] at h4
 simp only [Op.eqFields, hn, ht, ho]
 rw [if_pos (by decide), Sem.run_bind, partLimbs, Result.andThen_ok, Sem.run_bind, partLimbs, Result.andThen_ok, Sem.run_bind]
 erw [h4]
 cases b <;> rfl
theorem guardElem (op : BinOp) (x y : Operand) (xs ys : Array Value) (w : World) : (eqGuard op 164 x y (.agg xs) (.agg ys)).run Try.prog w = .ok () w := run_eqGuard_agg w op _ x y xs ys (by kernel_rfl)
theorem binElem {xs ys : Array Value} {b : Bool} {w : World} (h : (Op.equalIn 10000 164 (.agg xs) (.agg ys)).run Try.prog w = .ok b w) : (binOp .eql 164 (.agg xs) (.agg ys)).run Try.prog w = .ok (.bool b) w := by
 rw [run_eql_struct, h]
 rfl
theorem mont_iff {R : RingP} (ok : R.Ok) (x y : Nat) : mont R.m x = mont R.m y ↔ x % R.m = y % R.m :=
 ⟨fun h => mont_cancel ok.low (show (x * BB ^ 4) % R.m = (y * BB ^ 4) % R.m from h), fun h => by rw [← mont_mod R.m x, h, mont_mod]⟩
theorem dvd_sub_iff (p x y : Nat) : (p : Int) ∣ (x : Int) - y ↔ x % p = y % p :=
 ⟨fun h => by have := Int.emod_eq_emod_iff_emod_sub_eq_zero.2 (Int.emod_eq_zero_of_dvd h); exact_mod_cast this, fun h => Int.dvd_of_emod_eq_zero (Int.emod_eq_emod_iff_emod_sub_eq_zero.1 (by exact_mod_cast h))⟩
theorem same_iff {G : GP} (ok : G.Ok) (x y : Nat) : lowN G x = lowN G y ↔ mont G.p.m x = mont G.p.m y ∨ mont G.p.m (x + y) = 0 := by
 rw [lowN_iff ok, mont_iff ok.p, ← mont_zero G.p.m, mont_iff ok.p]
 unfold PM
 rw [dvd_sub_iff]
 refine or_congr Iff.rfl ⟨fun h => ?_, fun h => ?_⟩
 ·have h2 : G.p.m ∣ x + y := by exact_mod_cast h
  rw [Nat.mod_eq_zero_of_dvd h2, Nat.zero_mod]
 ·have h2 : G.p.m ∣ x + y := Nat.dvd_of_mod_eq_zero (by rw [h, Nat.zero_mod])
  exact_mod_cast h2
theorem gSame_any (G : GP) (ok : G.Ok) (gb x y : Nat) (w : World) (hG : GroupAt w gb G) :
  Calls Try.prog 110 #[.pointer (some ⟨gb, 0, none⟩), elV G x, elV G y] w (Gives (.bool (decide (lowN G x = lowN G y))) w) := by
 have OK := Lib.hid ok
 have HG := Lib.hid hG
 obtain ⟨b1, hb1⟩ : ∃ b, decide (mont G.p.m x = mont G.p.m y) = b := ⟨_, rfl⟩
 obtain ⟨b2, hb2⟩ : ∃ b, decide (mont G.p.m (x + y) = 0) = b := ⟨_, rfl⟩
 have hr : decide (lowN G x = lowN G y) = (b1 || b2) := by
  rw [← hb1, ← hb2, Bool.eq_iff_iff]
  simp only [Bool.or_eq_true, decide_eq_true_eq]
  exact same_iff ok x y
 have HEQ := Lib.hid (fun W => binElem (w := W) (eqElem (mont G.p.m x) (mont G.p.m y) (ok.p.mont _) (ok.p.mont _) W b1 hb1.symm))
 have HEZ := Lib.hid (fun W => binLimbs (w := W) (eqZero (mont G.p.m (x + y)) (ok.p.mont _) W b2 hb2.symm))
 rw [hr]
 clear ok hG hb1 hb2 hr
 unfold Gives elV limbV
 go_enter Try.func110, Try.ntmps110
 go_wp2_with fail
 obtain ⟨w1, hq1, hb9, hz9, Hbx, Hby⟩ := new2 w 164 [.int .u64 (dig (mont G.p.m x) 0 : Int), .int .u64 (dig (mont G.p.m x) 1 : Int), .int .u64 (dig (mont G.p.m x) 2 : Int), .int .u64 (dig (mont G.p.m x) 3 : Int)] 164 [.int .u64 (dig (mont G.p.m y) 0 : Int), .int .u64 (dig (mont G.p.m y) 1 : Int), .int .u64 (dig (mont G.p.m y) 2 : Int), .int .u64 (dig (mont G.p.m y) 3 : Int)]
 rw [hq1]
 clear hq1
 replace HG := Lib.hid (HG.out.up hb9)
 have HB := Lib.hid hb9
 have HZS := hz9
 clear hb9 hz9
 have bx_ := Hbx.out.c4
 have by_ := Hby.out.c4
 go_wp2_with fail
 cases b1
 ·have hl_bx := Hbx.out.lt
  have hl_by := Hby.out.lt
  refine wp_region_over (by kernel_rfl) (by kernel_rfl) ?_
  have hov_bx := fun (E : Over w1) o => E.cell (b := w.heap.size) o hl_bx
  have hov_by := fun (E : Over w1) o => E.cell (b := w.heap.size + 1) o hl_by
  go_big_quiet_step (fail)
  go_big_quiet_step (fail)
  refine wpQuiet_bin rfl .eql _ _ 164 _ rfl _ _ (.bool false) rfl rfl (fun _ => guardElem _ _ _ _ _ _) (fun _ => HEQ.out _) ?_
  simp only [Act.put, List.setIfInBounds_toArray, List.set_cons_succ, List.set_cons_zero]
  repeat (go_big_quiet_step (first | (go_at_call 121; exact calls_over (addM G.p OK.out.p gb 2 x y _ (HG.out.up (Over.h _)).p))))
  unfold limbV
  refine wpQuiet_bin rfl .eql _ _ 76 _ rfl _ _ (.bool b2) rfl rfl (fun _ => guardLimbs _ _ _ _ _ _) (fun _ => HEZ.out _) ?_
  simp only [Act.put, List.setIfInBounds_toArray, List.set_cons_succ, List.set_cons_zero]
  repeat (go_big_quiet_step (fail))
  refine wpQuiet_nil ?_
  rintro _ ⟨E, rfl⟩
  clear hov_bx hl_bx hov_by hl_by bx_
  replace Hbx := Lib.hid (Hbx.out.up E.h)
  clear by_
  replace Hby := Lib.hid (Hby.out.up E.h)
  replace HG := Lib.hid (HG.out.up E.h)
  replace HB := hbu HB E.h
  replace HZS := sz HZS E.h.size
  obtain ⟨w2, hq9⟩ : ∃ W9 : World, E.w = W9 := ⟨_, rfl⟩
  rw [hq9] at Hbx Hby HG HB HZS ⊢
  clear hq9 E
  have bx_ := Hbx.out.c4
  have by_ := Hby.out.c4
  go_wp2_with fail
  go_ret
  exact ⟨by simp, HB.out⟩
 ·have hl_bx := Hbx.out.lt
  have hl_by := Hby.out.lt
  refine wp_region_over (by kernel_rfl) (by kernel_rfl) ?_
  have hov_bx := fun (E : Over w1) o => E.cell (b := w.heap.size) o hl_bx
  have hov_by := fun (E : Over w1) o => E.cell (b := w.heap.size + 1) o hl_by
  go_big_quiet_step (fail)
  go_big_quiet_step (fail)
  refine wpQuiet_bin rfl .eql _ _ 164 _ rfl _ _ (.bool true) rfl rfl (fun _ => guardElem _ _ _ _ _ _) (fun _ => HEQ.out _) ?_
  simp only [Act.put, List.setIfInBounds_toArray, List.set_cons_succ, List.set_cons_zero]
  repeat (go_big_quiet_step (fail))
  refine wpQuiet_nil ?_
  rintro _ ⟨E, rfl⟩
  clear hov_bx hl_bx hov_by hl_by bx_
  replace Hbx := Lib.hid (Hbx.out.up E.h)
  clear by_
  replace Hby := Lib.hid (Hby.out.up E.h)
  replace HG := Lib.hid (HG.out.up E.h)
  replace HB := hbu HB E.h
  replace HZS := sz HZS E.h.size
  obtain ⟨w2, hq9⟩ : ∃ W9 : World, E.w = W9 := ⟨_, rfl⟩
  rw [hq9] at Hbx Hby HG HB HZS ⊢
  clear hq9 E
  have bx_ := Hbx.out.c4
  have by_ := Hby.out.c4
  go_wp2_with fail
  go_ret
  exact ⟨by simp, HB.out⟩
end Go.Proofs.Ytdlnnkbigeiilaa
namespace Go.Proofs.Ytdlnnkbigeiilaa
open Go.RowKit
def ScalQ (G : GP) (er : Nat) (l : List ByteArray) (w : World) (e : Ending) (w' : World) : Prop :=
 Below w.heap.size w w' ∧ ∃ v, e = .returned (.tuple #[v, .int .i64 (er : Int)]) ∧ (er = 0 → ∃ a c, v = .slice a l.length c ∧ Sl w' w'.heap.size a (l.flatMap (limC G.q.m)) ∧ (∀ x, a = some x → w.heap.size ≤ x.block))
def ScalR (G : GP) (n : Nat) (l : List ByteArray) (w : World) (e : Ending) (w' : World) : Prop := ScalQ G (scE G n l) l w e w'
theorem scalars_any (G : GP) (ok : G.Ok) (gb n : Nat) (a : Option Addr) (c : Nat) (l : List ByteArray) (al : Option Addr) (cl : Nat) (hn : l.length ≤ 8796093022207) (w : World) (hG : GroupAt w gb G) (hS : Sl w w.heap.size al (l.map Value.string)) :
  Calls Try.prog 67 #[.agg #[.pointer (some ⟨gb, 0, none⟩), .slice a n c], .slice al l.length cl] w (ScalR G n l w) := by
 have OK := Lib.hid ok
 have HG := Lib.hid hG
 have HS := Lib.hid hS
 clear ok hG hS
 obtain ⟨z, hz⟩ : ∃ z, scE G n l = z := ⟨_, rfl⟩
 have hzz : z = if l.length = n then if l.all (isSc G.q.m G.size) = true then 0 else 6 else 2 := hz.symm
 unfold ScalR
 rw [hz]
 clear hz
 by_cases h1 : l.length = n
 ·have hd : ((l.length : Int) != (n : Int)) = false := by simp; omega
  rw [if_pos h1] at hzz
  obtain ⟨b, hb⟩ : ∃ b, l.all (isSc G.q.m G.size) = b := ⟨_, rfl⟩
  rw [hb] at hzz
  have HBB := Lib.hid hb
  clear hb h1
  go_enter Try.func67, Try.ntmps67
  go_wp2_with fail
  obtain ⟨w1, hq1, hb9, hz9, Hbs⟩ := new1 w 121 [.pointer (some ⟨gb, 0, none⟩), .slice a n c]
  rw [hq1]
  clear hq1
  replace HG := Lib.hid (HG.out.up hb9)
  have HB := Lib.hid hb9
  have HZS := hz9
  clear hb9 hz9
  have bs_ := Hbs.out.c2
  go_wp2_with fail
  refine (allSc_v G OK.out gb l b HBB.out l.length rfl al cl hn w1 HG.out (HS.out.up HB.out)).mono ?_
  rintro e w2 ⟨vx, rfl, hb9, hx9⟩
  clear bs_
  replace Hbs := Lib.hid (Hbs.out.up hb9)
  replace HG := Lib.hid (HG.out.up hb9)
  replace HB := hbu HB hb9
  replace HZS := sz HZS hb9.size
  have HX := Lib.hid hx9
  clear hx9 hb9
  have bs_ := Hbs.out.c2
  cases b
  ·obtain rfl : z = 6 := by rw [hzz, if_neg (by decide)]
   clear hzz
   go_wp2_with fail
   go_ret2
   exact ⟨HB.out, .slice none 0 0, rfl, fun h => by cases h⟩
  ·obtain rfl : z = 0 := by rw [hzz, if_pos rfl]
   clear hzz
   obtain ⟨ax, cx, rfl, hsx, hfx⟩ := HX.out rfl
   have HSX := Lib.hid hsx
   have HFX := Lib.hid (show ∀ x, ax = some x → w.heap.size ≤ x.block from fun x hx => Nat.le_trans (by have a0 := HZS.out; omega) (hfx x hx))
   clear hsx hfx HX
   go_wp2_with fail
   go_ret2
   exact ⟨HB.out, .slice ax l.length cx, rfl, fun _ => ⟨ax, cx, rfl, HSX.out, HFX.out⟩⟩
 ·have hd : ((l.length : Int) != (n : Int)) = true := by simp; omega
  obtain rfl : z = 2 := by rw [hzz, if_neg h1]
  clear hzz h1
  go_enter Try.func67, Try.ntmps67
  go_wp2_with fail
  obtain ⟨w1, hq1, hb9, hz9, Hbs⟩ := new1 w 121 [.pointer (some ⟨gb, 0, none⟩), .slice a n c]
  rw [hq1]
  clear hq1
  have HB := Lib.hid hb9
  have HZS := hz9
  clear hb9 hz9
  have bs_ := Hbs.out.c2
  go_wp2_with fail
  go_ret2
  exact ⟨HB.out, .slice none 0 0, rfl, fun h => by cases h⟩
end Go.Proofs.Ytdlnnkbigeiilaa
namespace Go.Proofs.Ytdlnnkbigeiilaa
open Go.RowKit
def limN (m n : Nat) : List Value := [.int .u64 (dig (mont m n) 0 : Int), .int .u64 (dig (mont m n) 1 : Int), .int .u64 (dig (mont m n) 2 : Int), .int .u64 (dig (mont m n) 3 : Int)]
def powC (G : GP) (x : Nat) (b : ByteArray) : List Value := limN G.p.m (numOf b ^ (x % G.q.m))
theorem powC_len (G : GP) (x : Nat) (b : ByteArray) : (powC G x b).length = 4 := rfl
theorem SetAt.at {G : GP} {w : World} {a : Option Addr} {rs : List ClaimR} (h : SetAt G w a rs) (i : Nat) (hi : i < rs.length) : ∃ b o, a = some ⟨b, o, none⟩ ∧ b < w.heap.size :=
 let ⟨b, o, e, hb, _⟩ := h.s.elem ClaimR.cells_len (by omega) i hi
 ⟨b, o, e, hb⟩
theorem SetAt.cells {G : GP} {w w1 : World} {b o : Nat} {rs : List ClaimR} (h : SetAt G w (some ⟨b, o, none⟩) rs) (hb : Below w.heap.size w w1) (i : Nat) (hi : i < rs.length) : ∀ j v, (rs[i].cells)[j]? = some v → w1.cell? ⟨b, o + i * 3 + j, none⟩ = some v :=
 ((h.s.up hb).elemS ClaimR.cells_len (by omega) i hi).2
theorem powers_any (G : GP) (ok : G.Ok) (gb : Nat) (rs : List ClaimR) (a : Option Addr) (c i : Nat) (hi : i < rs.length) (x : Nat) (hlen : rs[i].k.bases.length ≤ 8) (w : World) (hG : GroupAt w gb G) (hS : SetAt G w a rs) :
  Calls Try.prog 109 #[.agg #[.pointer (some ⟨gb, 0, none⟩), .slice a rs.length c], .int .i64 (i : Int), scV G x] w
   (fun e w' => ∃ a' c', e = .returned (.slice a' rs[i].k.bases.length c') ∧ Below w.heap.size w w' ∧ Sl w' w'.heap.size a' (rs[i].k.bases.flatMap (powC G x))) := by
 obtain ⟨ba, oa, rfl, hba⟩ := hS.at i hi
 have HCC := Lib.hid (fun w1 (hb : Below w.heap.size w w1) => hS.cells hb i hi)
 have HRB := Lib.hid (hS.e _ (List.getElem_mem hi)).b
 have HBA := Lib.hid hba
 have HGB := Lib.hid hG.lt
 have HG := Lib.hid hG
 have OK := Lib.hid ok
 have hin : (i : Nat) < rs.length := hi
 generalize rs[i] = r at *
 generalize rs.length = n at *
 obtain ⟨m, hm⟩ : ∃ m, r.k.bases.length = m := ⟨_, rfl⟩
 have HM := Lib.hid hm
 rw [hm] at hlen ⊢
 clear hS hba hG ok hm hi
 unfold scV limbV
 have hc_1 := HCC.out w (Below.refl _ _) 1 _ rfl
 rw [HM.out] at hc_1
 have hba9 := HBA.out
 go_enter Try.func109, Try.ntmps109
 go_wp2_with fail
 have HZS := HBA
 replace HZS := sz HZS HGB.out
 obtain ⟨w1, hq1, hb9, hz9, Hbs, Hbx⟩ := new2 w 121 [.pointer (some ⟨gb, 0, none⟩), .slice (some ⟨ba, oa, none⟩) n c] 78 [.int .u64 (dig (mont G.q.m x) 0 : Int), .int .u64 (dig (mont G.q.m x) 1 : Int), .int .u64 (dig (mont G.q.m x) 2 : Int), .int .u64 (dig (mont G.q.m x) 3 : Int)]
 rw [hq1]
 clear hq1
 replace HG := Lib.hid (HG.out.up hb9)
 have HB := Lib.hid hb9
 replace HZS := sz HZS hz9.out
 clear hb9 hz9
 have bs_ := Hbs.out.c2
 have bx_ := Hbx.out.c4
 have BL := Lib.hid (Below.refl w1.heap.size w1)
 clear hc_1 hba9
 go_wp2_with fail
 go_loopw [17, 7] (fun i v wr => ∃ (j : Nat) (g : Option Addr) (c9 : Nat), j ≤ m ∧ i = .int .i64 j ∧ v = .slice g j c9 ∧ Hid (Below w1.heap.size w1 wr) ∧ Hid (RowO w1.heap.size wr 164 4 (.slice g j c9) j ((r.k.bases.take j).flatMap (powC G x)))) (fun i _ _ => m - (intOf i).toNat)
 case atStart => exact ⟨0, none, 0, Nat.zero_le _, rfl, rfl, BL, RowO.nil⟩
 case round =>
  obtain ⟨j, g, c9, hj, rfl, rfl, HL9, Hr⟩ := hrel
  have hb9 := HL9.out
  clear HL9 bs_
  replace Hbs := Lib.hid (Hbs.out.up hb9)
  clear bx_
  replace Hbx := Lib.hid (Hbx.out.up hb9)
  replace HG := Lib.hid (HG.out.up hb9)
  replace BL := hbu BL hb9
  replace HB := hbu HB hb9
  replace HZS := sz HZS hb9.size
  clear hb9
  have bs_ := Hbs.out.c2
  have bx_ := Hbx.out.c4
  by_cases hjm : j < m
  ·have hjl : j < r.k.bases.length := by rw [HM.out]; exact hjm
   have hce := ((HRB.out.up HB.out).elemS (limC_len _) (by omega) j hjl).2
   have HSN := Lib.hid (flat_snoc (powC G x) r.k.bases j hjl)
   generalize r.k.bases[j] = b at *
   have hce_0 := hce 0 _ rfl
   rw [Nat.add_zero] at hce_0
   have hce_1 := hce 1 _ rfl
   have hce_2 := hce 2 _ rfl
   have hce_3 := hce 3 _ rfl
   clear hce
   have o2_bs_ := bs_; clear bs_
   have o2_bx_ := bx_; clear bx_
   obtain ⟨w2, hq2, hb9, hz9, Hbe⟩ := new1 wr 164 [.int .u64 (dig (mont G.p.m (numOf b)) 0 : Int), .int .u64 (dig (mont G.p.m (numOf b)) 1 : Int), .int .u64 (dig (mont G.p.m (numOf b)) 2 : Int), .int .u64 (dig (mont G.p.m (numOf b)) 3 : Int)]
   replace Hbs := Lib.hid (Hbs.out.up hb9)
   replace Hbx := Lib.hid (Hbx.out.up hb9)
   replace HG := Lib.hid (HG.out.up hb9)
   replace Hr := Lib.hid (Hr.out.up hb9)
   replace BL := hbu BL hb9
   replace HB := hbu HB hb9
   replace HZS := sz HZS hz9.out
   clear hb9 hz9
   have bs_ := Hbs.out.c2
   have bx_ := Hbx.out.c4
   have be_ := Hbe.out.c4
   go_wp2_with fail
   clear hq2 o2_bx_ o2_bs_ hce_0 hce_1 hce_2 hce_3
   refine (gPower_any G OK.out gb (numOf b) x w2 HG.out).mono ?_
   rintro e w3 ⟨rfl, hb9⟩
   clear bs_
   replace Hbs := Lib.hid (Hbs.out.up hb9)
   clear bx_
   replace Hbx := Lib.hid (Hbx.out.up hb9)
   clear be_
   replace Hbe := Lib.hid (Hbe.out.up hb9)
   replace HG := Lib.hid (HG.out.up hb9)
   replace Hr := Lib.hid (Hr.out.up hb9)
   replace BL := hbu BL hb9
   replace HB := hbu HB hb9
   replace HZS := sz HZS hb9.size
   clear hb9
   have bs_ := Hbs.out.c2
   have bx_ := Hbx.out.c4
   have be_ := Hbe.out.c4
   unfold elV limbV
   clear be_ Hbe
   obtain ⟨i9, hi9, hz90, hz91, hz92⟩ := info_parts infoElem
   go_wp2_with (at_builtin; refine wpList_pushR (w1.heap.size) w3 (by have g0 := HZS.out; omega) rfl _ _ 174 rfl 164 i9 _ 4 32 Try.underlying174 hi9 hz90 hz91 hz92 rfl (by omega) ((.slice g j c9)) (j) (((r.k.bases.take j).flatMap (powC G x))) rfl Hr.out _ _ _ rfl rfl rfl (by simp [Value.oneCell']) (by omega) (by unfold maxLen; omega) ?_)
   intro g4 c4 w4 hown9 hg9
   clear bs_ bx_
   have hb9 := Below.grown HB.out hg9 (by have g0 := HZS.out; omega) (fun q hq => Nat.le_trans (show w.heap.size ≤ w1.heap.size by have g0 := HZS.out; omega) (Hr.out.lt q hq).1)
   replace Hbs := Lib.hid (Hbs.out.grown hg9 (fun e9 => by have a1 := Hr.out.lt _ e9; have g0 := HZS.out; omega))
   replace Hbx := Lib.hid (Hbx.out.grown hg9 (fun e9 => by have a1 := Hr.out.lt _ e9; have g0 := HZS.out; omega))
   replace HG := Lib.hid (HG.out.grown hg9 (fun e9 => by have a1 := Hr.out.lt _ e9; have g0 := HZS.out; omega))
   replace BL := Lib.hid (Below.grown BL.out hg9 (by have g0 := HZS.out; omega) (fun q hq => Nat.le_trans (show w1.heap.size ≤ w1.heap.size by have g0 := HZS.out; omega) (Hr.out.lt q hq).1))
   replace HZS := sz HZS hg9.size
   clear Hr HB
   have Hr := Lib.hid hown9
   have HB := Lib.hid hb9
   clear hb9 hown9 hg9 hi9 hz90 hz91 hz92
   have bs_ := Hbs.out.c2
   have bx_ := Hbx.out.c4
   go_wp2_with fail
   go_roundw
   case rel => exact ⟨j + 1, _, _, by omega, by go_num, rfl, BL, Hr.out.eq HSN.out.symm rfl⟩
   case measure => simp [intOf]; omega
  ·have hjn : j = m := by omega
   subst hjn
   have hT : r.k.bases.take j = r.k.bases := List.take_of_length_le (by rw [HM.out]; exact Nat.le_refl _)
   rw [hT] at Hr
   clear hT
   go_wp2_with fail
   go_ret
   exact ⟨g, c9, rfl, HB.out, Hr.out.sl⟩
end Go.Proofs.Ytdlnnkbigeiilaa
namespace Go.Proofs.Ytdlnnkbigeiilaa
open Go.RowKit
end Go.Proofs.Ytdlnnkbigeiilaa
namespace Go.Proofs.Ytdlnnkbigeiilaa
open Go.RowKit
end Go.Proofs.Ytdlnnkbigeiilaa
namespace Go.Proofs.Ytdlnnkbigeiilaa
open Go.RowKit
theorem bx_made (w : World) (e : TypeId) (z : Value) (n : Nat) : Bx (w.alloc (.cells (madeCells #[z] n) e)) w.heap.size e (List.replicate n z) := by
 have h : madeCells #[z] n = (List.replicate n z).toArray := by
  apply Array.ext
  ·simp [madeCells]
  ·intro i h1 h2
   simp [madeCells, Nat.mod_one]
 rw [h]
 exact Bx.new w e _ _ rfl
theorem mid_get {xs ys : List Value} {v : Value} {j : Nat} (h : xs.length = j) : (xs ++ v :: ys)[j]? = some v := by subst h; simp
theorem mid_set {xs ys : List Value} {v u : Value} {j : Nat} (h : xs.length = j) : (xs ++ v :: ys).set j u = xs ++ u :: ys := by subst h; simp
theorem rows_len (ro : List RowA) : (ro.flatMap RowA.cells).length = ro.length := by rw [flat_len RowA.cells 1 RowA.cells_len, Nat.mul_one]
def eachL (G : GP) (val : Nat → Nat → Nat) (i m : Nat) : List ByteArray := (List.range m).map fun t => textS (lowN G (val i t)) G.size
def RowsF (L : List (List ByteArray)) (w : World) (e : Ending) (w' : World) : Prop :=
 Below w.heap.size w w' ∧ ∃ a c ro, e = .returned (.slice a L.length c) ∧ ro.map RowA.l = L ∧ RowsAt w' a ro ∧ (∀ r ∈ ro, r.Ok) ∧ (∀ x, a = some x → w.heap.size ≤ x.block) ∧ ∀ r ∈ ro, ∀ x, r.a = some x → w.heap.size ≤ x.block
theorem fresh_le {n m : Nat} {a : Option Addr} {ro : List RowA} (h : (∀ r ∈ ro, r.Ok) ∧ (∀ x, a = some x → m ≤ x.block) ∧ ∀ r ∈ ro, ∀ x, r.a = some x → m ≤ x.block) (hn : n ≤ m) : (∀ r ∈ ro, r.Ok) ∧ (∀ x, a = some x → n ≤ x.block) ∧ ∀ r ∈ ro, ∀ x, r.a = some x → n ≤ x.block :=
 ⟨h.1, fun x hx => Nat.le_trans hn (h.2.1 x hx), fun r hr x hx => Nat.le_trans hn (h.2.2 r hr x hx)⟩
def eachA (G : GP) (val : Nat → Nat → Nat) (ms : List Nat) (j : Nat) : List (List ByteArray) := (List.range j).map fun i => eachL G val i (ms.getD i 0)
theorem eachA_snoc (G : GP) (val : Nat → Nat → Nat) (ms : List Nat) (j : Nat) : eachA G val ms (j + 1) = eachA G val ms j ++ [eachL G val j (ms.getD j 0)] := by unfold eachA; rw [List.range_succ, List.map_append]; rfl
theorem eachA_len (G : GP) (val : Nat → Nat → Nat) (ms : List Nat) (j : Nat) : (eachA G val ms j).length = j := by unfold eachA; simp
theorem eachL_snoc (G : GP) (val : Nat → Nat → Nat) (i t : Nat) : (eachL G val i (t + 1)).map Value.string = (eachL G val i t).map Value.string ++ [.string (textS (lowN G (val i t)) G.size)] := by unfold eachL; rw [List.range_succ, List.map_append, List.map_append]; rfl
theorem eachL_len (G : GP) (val : Nat → Nat → Nat) (i t : Nat) : (eachL G val i t).length = t := by unfold eachL; simp
def RowsNew (n : Nat) (w : World) (ro : List RowA) : Prop := ∀ r ∈ ro, RowA.At w r ∧ (∀ x, r.a = some x → n ≤ x.block) ∧ r.Ok
theorem RowsNew.kept {n b : Nat} {w w1 : World} {ro : List RowA} (h : RowsNew n w ro) (hk : Kept (fun q => q = b) w w1) (hb : b < n) : RowsNew n w1 ro := fun r hr =>
 let ⟨h1, h2, h3⟩ := h r hr
 ⟨Sl.kept h1 hk (fun x hx e => by have := h2 x hx; have e : x.block = b := e; omega), h2, h3⟩
theorem infoStrs : (Try.prog.info? 22).map (fun i => (i.zero, i.size, i.bytes)) = some (some (.slice none 0 0), 1, 24) := by kernel_rfl
theorem RowO.none_cap {N n c k size : Nat} {w : World} {e : TypeId} {a : Option Addr} {xs : List Value} (h : RowO N w e size (.slice a k c) n xs) (hx : a = none) : c = 0 := by
 rcases h.2 with ⟨hv, _⟩ | ⟨g, cap, cur, hv, hN, _⟩
 ·simp only [Value.slice.injEq] at hv
  exact hv.2.2
 ·simp only [Value.slice.injEq] at hv
  rw [hv.1] at hx
  cases hx
theorem RowO.rowOk {N n c k : Nat} {w : World} {e : TypeId} {a : Option Addr} {L : List ByteArray} (h : RowO N w e 1 (.slice a k c) n (L.map Value.string)) : RowA.Ok ⟨a, c, L⟩ := by
 have hl := h.1
 rw [List.length_map, Nat.mul_one] at hl
 refine ⟨fun hx => RowO.none_cap h hx, ?_⟩
 show L.length ≤ c
 rcases h.2 with ⟨hv, h0⟩ | ⟨g, cap, cur, hv, hN, _, hc, _⟩
 ·omega
 ·simp only [Value.slice.injEq] at hv
  omega
theorem eachFirst (G : GP) (ok : G.Ok) (gb : Nat) (rs : List ClaimR) (n : Nat) (hrs : rs.length = n) (hn : n ≤ 64) (ms : List Nat) (hms : rs.map (fun r => r.k.bases.length) = ms) (hm8 : ∀ r ∈ rs, r.k.bases.length ≤ 8) (a : Option Addr) (c : Nat) (p1 p2 : Value) (val : Nat → Nat → Nat) (w : World) (hG : GroupAt w gb G) (hS : SetAt G w a rs)
  (hcall : ∀ w1, Below w.heap.size w w1 → ∀ i t : Nat, i < n → t < ms.getD i 0 → Calls Try.prog 116 #[.int .i64 (i : Int), .int .i64 (t : Int), p1, p2] w1 (Gives (elV G (val i t)) w1)) :
  Calls Try.prog 115 #[.agg #[.pointer (some ⟨gb, 0, none⟩), .slice a n c], .func (.func 116) #[] #[p1, p2]] w (RowsF (eachA G val ms n) w) := by
 have HRS := Lib.hid hrs
 have HMS := Lib.hid hms
 have HM8 := Lib.hid hm8
 have HG := Lib.hid hG
 have HGB := Lib.hid hG.lt
 have OK := Lib.hid ok
 have HS := Lib.hid hS
 have HCALL := Lib.hid hcall
 clear hrs hms hm8 hG ok hS hcall
 have hmk := Go.run_make_row' (P := Try.prog) 58 22 (.slice none 0 0) 24 Try.underlying58 infoStrs rfl .i64 .i64 n (by omega) (by omega)
 go_enter Try.func115, Try.ntmps115
 have HZS := HGB
 go_upto_region 1 with fail
 obtain ⟨w1, hq1, hb9, hz9, Hbs⟩ := new1 w 121 [.pointer (some ⟨gb, 0, none⟩), .slice a n c]
 rw [hq1]
 clear hq1
 replace HG := Lib.hid (HG.out.up hb9)
 have HB := Lib.hid hb9
 replace HZS := sz HZS hz9.out
 clear hb9 hz9
 have bs_ := Hbs.out.c2
 go_upto_region 2 with fail
 have hmb := bx_made w1 22 (.slice none 0 0) n
 have hb9 : Below w1.heap.size w1 (w1.alloc (.cells (madeCells #[.slice none 0 0] n) 22)) := (Below.refl _ _).alloc (Nat.le_refl _) _
 have hz9 : (w1.alloc (.cells (madeCells #[.slice none 0 0] n) 22)).heap.size = w1.heap.size + 1 := by simp
 obtain ⟨wm, hq9⟩ : ∃ W9 : World, (w1.alloc (.cells (madeCells #[.slice none 0 0] n) 22)) = W9 := ⟨_, rfl⟩
 rw [hq9] at hmb hb9 hz9 ⊢
 clear hq9 hmk
 have HZM := Lib.hid hz9
 have HZ9 := Lib.hid HB.out.size
 clear hz9
 replace HZS := sz HZS HZM.out
 clear bs_
 replace Hbs := Lib.hid (Hbs.out.up hb9)
 replace HG := Lib.hid (HG.out.up hb9)
 replace HB := hbu HB hb9
 replace HZS := sz HZS hb9.size
 clear hb9
 have bs_ := Hbs.out.c2
 have Hob := Lib.hid hmb
 clear hmb
 have HK := Lib.hid (Kept.refl (fun q9 => q9 = w1.heap.size) wm)
 go_wp2_with fail
 go_loopw [15] (fun i wr => ∃ (j : Nat) (ro : List RowA), j ≤ n ∧ i = .int .i64 j ∧ Hid (ro.length = j) ∧ Hid (ro.map RowA.l = eachA G val ms j) ∧ Hid (Kept (fun q => q = w1.heap.size) wm wr) ∧ Hid (Bx wr w1.heap.size 22 (ro.flatMap RowA.cells ++ List.replicate (n - j) (.slice none 0 0))) ∧ Hid (RowsNew wm.heap.size wr ro)) (fun i _ => n - (intOf i).toNat)
 case atStart => exact ⟨0, [], Nat.zero_le _, rfl, rfl, rfl, HK, by simpa using Hob, fun _ h => by cases h⟩
 case round =>
  obtain ⟨j, ro, hj, rfl, HRL, HRM, HK, Hob9, HRN⟩ := hrel
  have hg9 := HK.out
  clear bs_ Hob
  replace Hbs := Lib.hid (Bx.keptP (P := fun q9 => q9 = w1.heap.size) Hbs.out hg9 (show ¬ (w.heap.size = w1.heap.size) by have g0 := HZS.out; omega))
  replace HG := Lib.hid (HG.out.keptP hg9 (show ¬ (_ = w1.heap.size) by have g0 := HZS.out; omega))
  replace HB := Lib.hid (Below.keptP HB.out hg9 (by have g0 := HZS.out; omega) (fun q9 h9 => (show w.heap.size ≤ _ by subst h9; have g0 := HZS.out; omega)))
  replace HZS := sz HZS (show wm.heap.size ≤ wr.heap.size from hg9.size)
  clear hg9
  have bs_ := Hbs.out.c2
  have Hob := Hob9
  clear Hob9
  by_cases hjn : j < n
  ·have hjr : j < rs.length := by rw [HRS.out]; exact hjn
   obtain ⟨ba, oa, rfl, hba0⟩ := HS.out.at j hjr
   have HCC := Lib.hid (fun w1 (hb : Below w.heap.size w w1) => HS.out.cells hb j hjr)
   have HMJ := Lib.hid (show rs[j].k.bases.length = ms.getD j 0 by rw [← HMS.out]; simp [List.getD, hjr])
   have HM1 := Lib.hid (HM8.out _ (List.getElem_mem hjr))
   generalize rs[j] = r at *
   obtain ⟨m, hm⟩ : ∃ m, ms.getD j 0 = m := ⟨_, rfl⟩
   rw [hm] at HMJ
   have HMM := Lib.hid hm
   have hm8 : m ≤ 8 := by rw [← HMJ.out]; exact HM1.out
   rw [show n - j = (n - j - 1) + 1 by omega, List.replicate_succ] at Hob
   clear hm
   obtain ⟨wo, rfl⟩ : ∃ wo : World, wo = wr := ⟨_, rfl⟩
   have hc := HCC.out _ HB.out
   have hc_1 := hc 1 _ rfl
   rw [HMJ.out] at hc_1
   clear hc
   have HRN2 := HRN
   have HK2 := Lib.hid (Kept.refl (fun q9 => q9 = w1.heap.size) wo)
   have hba9 := hba0
   go_wp2_with fail
   clear hc_1 hba9
   go_loopw [25] (fun i wr => ∃ (t : Nat) (g : Option Addr) (c9 : Nat), t ≤ m ∧ i = .int .i64 t ∧ Hid (Kept (fun q => q = w1.heap.size) wo wr) ∧ Hid (Bx wr w1.heap.size 22 (ro.flatMap RowA.cells ++ (.slice g t c9) :: List.replicate (n - j - 1) (.slice none 0 0))) ∧ Hid (RowO wo.heap.size wr 9 1 (.slice g t c9) t ((eachL G val j t).map Value.string))) (fun i _ => m - (intOf i).toNat)
   case atStart => exact ⟨0, none, 0, Nat.zero_le _, rfl, HK2, Hob, RowO.nil⟩
   case round =>
    obtain ⟨t, g, c9, ht, rfl, HK2, Hob9, Hr⟩ := hrel
    have hg9 := HK2.out
    clear bs_ Hob
    replace Hbs := Lib.hid (Bx.keptP (P := fun q9 => q9 = w1.heap.size) Hbs.out hg9 (show ¬ (w.heap.size = w1.heap.size) by have g0 := HZS.out; omega))
    replace HG := Lib.hid (HG.out.keptP hg9 (show ¬ (_ = w1.heap.size) by have g0 := HZS.out; omega))
    replace HB := Lib.hid (Below.keptP HB.out hg9 (by have g0 := HZS.out; omega) (fun q9 h9 => (show w.heap.size ≤ _ by subst h9; have g0 := HZS.out; omega)))
    replace HZS := sz HZS (show wo.heap.size ≤ wr.heap.size from hg9.size)
    clear hg9
    have bs_ := Hbs.out.c2
    have Hob := Hob9
    clear Hob9
    by_cases htm : t < m
    ·have hob : w1.heap.size < wr.heap.size := Hob.out.lt
     have hoc : wr.cell? ⟨w1.heap.size, j, none⟩ = some (.slice g t c9) := Hob.out.cell (mid_get (by rw [rows_len, HRL.out]))
     go_wp2_with fail
     have HT := Lib.hid (show Below wr.heap.size wr wr.drew from (Below.refl _ _).drew)
     have hl_bs := Hbs.out.lt
     refine wp_region_treek (fun wq9 => ∃ E : But wr (Value.ownBlock (.slice g t c9)), wq9 = E.w) 16 ((.qs [0, 1, 2, 3, 4] (.e 5 [] (.qs [6] (.e 7 [] (.qs [8, 9, 10] (.a 11 (.a 12 (.a 13 (.a 14 (.qs [15] (.a 16 .done)))))))))))) (by kernel_rfl) (by kernel_rfl) (fun _ _ d _ _ h => by cases d <;> exact h) ⟨⟨_, ((below_grown HT.out).but _)⟩, rfl⟩ ?_
     have hov_bs := fun (E : But wr (Value.ownBlock (.slice g t c9))) o => E.cell (b := w.heap.size) o hl_bs (by intro e9; have a1 := Hr.out.lt _ e9; have g0 := HZS.out; omega)
     have hov_w1_heap_size := fun (E : But wr (Value.ownBlock (.slice g t c9))) o => E.cell (b := w1.heap.size) o hob (by intro e9; have a1 := Hr.out.lt _ e9; have g0 := HZS.out; omega)
     simp only [TreeK.qs]
     repeat (first | (refine treek_q rfl rfl ?_; go_big_quiet_step (fail); refine wpQuiet_nil ?_) | (refine treek_e rfl rfl ?_; go_big_quiet_step (fail); refine wpQuiet_nil ?_))
     refine treek_a rfl (fun K hK => ?_)
     go_simp
     refine (HCALL.out _ (below_up HB.out HT.out) j t hjn (by rw [HMM.out]; exact htm)).mono ?_
     rintro e w2 ⟨rfl, hb9⟩
     replace HT := Lib.hid (below_up HT.out hb9)
     replace HZS := sz HZS (show wr.heap.size ≤ w2.heap.size from HT.out.size)
     clear hb9
     refine hK _ _ ⟨fun _ => ⟨⟨w2, ((below_grown HT.out).but _)⟩, rfl⟩, ?_⟩
     clear hK K
     repeat (first | (refine treek_q rfl rfl ?_; go_big_quiet_step (fail); refine wpQuiet_nil ?_) | (refine treek_e rfl rfl ?_; go_big_quiet_step (fail); refine wpQuiet_nil ?_))
     refine treek_a rfl (fun K hK => ?_)
     go_simp
     refine (gText_any G OK.out gb (val j t) _ (HG.out.up HT.out)).mono ?_
     rintro e w3 ⟨rfl, hb9⟩
     replace HT := Lib.hid (below_up HT.out hb9)
     replace HZS := sz HZS (show wr.heap.size ≤ w3.heap.size from HT.out.size)
     clear hb9
     refine hK _ _ ⟨fun _ => ⟨⟨w3, ((below_grown HT.out).but _)⟩, rfl⟩, ?_⟩
     clear hK K
     repeat (first | (refine treek_q rfl rfl ?_; go_big_quiet_step (fail); refine wpQuiet_nil ?_) | (refine treek_e rfl rfl ?_; go_big_quiet_step (fail); refine wpQuiet_nil ?_))
     clear hoc hob hov_bs hl_bs hov_w1_heap_size
     refine treek_a rfl (fun K hK => ?_)
     go_simp
     refine hK _ _ ⟨fun _ => ⟨⟨_, (below_grown (HT.out.alloc HT.out.size _)).but _⟩, rfl⟩, ?_⟩
     clear hK K
     obtain ⟨i9, hi9, hz90, hz91, hz92⟩ := info_parts infoStr
     have HG1 := Lib.hid ((below_grown HT.out).but (Value.ownBlock (.slice g t c9)))
     clear bs_
     replace Hbs := Lib.hid (Hbs.out.up HT.out)
     replace Hob := Lib.hid (Hob.out.up HT.out)
     replace HG := Lib.hid (HG.out.up HT.out)
     replace Hr := Lib.hid (Hr.out.up HT.out)
     replace HK2 := Lib.hid (Kept.up HK2.out HT.out)
     replace HB := hbu HB HT.out
     replace HZS := sz HZS HT.out.size
     refine treek_a rfl (fun K hK => ?_)
     refine step_pushF (wo.heap.size) w3 (by have g0 := HZS.out; omega) rfl _ _ 22 rfl 9 i9 _ 1 16 Try.underlying22 hi9 hz90 hz91 hz92 rfl (by omega) ((.slice g t c9)) (t) (((eachL G val j t).map Value.string)) rfl Hr.out _ _ _ rfl rfl rfl (by simp [Value.oneCell']) (by omega) (by unfold maxLen; omega) ?_
     intro g4 c4 w4 hown9 hg9 hf9
     have HF9 := Lib.hid hf9
     clear hf9
     have HGR := Lib.hid (HG1.out.trans hg9)
     have hb9 := Below.grown HB.out hg9 (by have g0 := HZS.out; omega) (fun q hq => Nat.le_trans (show w.heap.size ≤ wo.heap.size by have g0 := HZS.out; omega) (Hr.out.lt q hq).1)
     replace Hbs := Lib.hid (Hbs.out.grown hg9 (fun e9 => by have a1 := Hr.out.lt _ e9; have g0 := HZS.out; omega))
     replace Hob := Lib.hid (Hob.out.grown hg9 (fun e9 => by have a1 := Hr.out.lt _ e9; have g0 := HZS.out; omega))
     replace HG := Lib.hid (HG.out.grown hg9 (fun e9 => by have a1 := Hr.out.lt _ e9; have g0 := HZS.out; omega))
     replace HK2 := Lib.hid (Kept.grown HK2.out hg9 (fun q hq => Or.inl (Nat.le_trans (show wo.heap.size ≤ wo.heap.size by have g0 := HZS.out; omega) (Hr.out.lt q hq).1)))
     replace HZS := sz HZS hg9.size
     clear Hr HB HT HG1
     have Hr := Lib.hid hown9
     have HB := Lib.hid hb9
     clear hb9 hown9 hg9 hi9 hz90 hz91 hz92
     refine hK _ _ ⟨fun _ => ⟨⟨w4, HGR.out⟩, rfl⟩, ?_⟩
     clear hK K HGR
     try simp only [Act.put, List.setIfInBounds_toArray, List.set_cons_succ, List.set_cons_zero]
     repeat (first | (refine treek_q rfl rfl ?_; go_big_quiet_step (fail); refine wpQuiet_nil ?_) | (refine treek_e rfl rfl ?_; go_big_quiet_step (fail); refine wpQuiet_nil ?_))
     replace HZS := sz HZS (Hr.out.lt g4 rfl).1
     have hoc := Hob.out.cell (mid_get (v := .slice g t c9) (ys := List.replicate (n - j - 1) (.slice none 0 0)) (show (ro.flatMap RowA.cells).length = j by rw [rows_len, HRL.out]))
     have bs_ := Hbs.out.c2
     have f5_ob := Hob.out.frozen
     have o5_bs_ := bs_; clear bs_
     obtain ⟨w5, hq5, hg9, hz9, hx9⟩ := put1 Hob j (.slice (some ⟨g4, 0, none⟩) (t + 1) c4) _ rfl
     replace Hbs := Lib.hid (Hbs.out.grown hg9.out (sne (by have g0 := HZS.out; omega)))
     replace HG := Lib.hid (HG.out.grown hg9.out (sne (by have g0 := HZS.out; omega)))
     replace Hr := Lib.hid (RowO.grown Hr.out hg9.out (fun q9 e8 e9 => by have a1 := Hr.out.lt _ e8; have a0 := Option.some.inj e9; have g0 := HZS.out; omega))
     replace HK2 := Lib.hid (Kept.grown HK2.out hg9.out (fun q9 e9 => by obtain rfl := Option.some.inj e9; exact Or.inr (rfl)))
     replace HB := hbg HB hg9 (by have g0 := HZS.out; omega)
     replace HZS := sz HZS hz9.out
     replace Hob := hx9
     clear hx9 hg9 hz9
     have bs_ := Hbs.out.c2
     refine treek_a rfl (fun K hK => ?_)
     go_simp
     try rw [hq5]
     refine hK _ _ ⟨fun h9 => absurd rfl h9, ?_⟩
     clear hK K hq5 o5_bs_ f5_ob hoc
     refine treek_end ?_
     go_wp2_with fail
     go_roundw
     case rel => exact ⟨t + 1, _, _, by omega, by go_num, HK2, Lib.hid (by have h9 := Hob.out; rwa [mid_set (by rw [rows_len, HRL.out])] at h9), Hr.out.eq (eachL_snoc G val j t).symm rfl⟩
     case measure => simp [intOf]; omega
    ·have htm' : t = m := by omega
     subst htm'
     have HROW := Lib.hid (show RowsNew wm.heap.size wr (ro ++ [⟨g, c9, eachL G val j t⟩]) from fun x hx => by
      rcases List.mem_append.1 hx with hx | hx
      ·exact (HRN.out.kept HK2.out (by have a0 := HZM.out; omega)) x hx
      ·obtain rfl := List.mem_singleton.1 hx
       exact ⟨Hr.out.sl, fun y hy => Nat.le_trans (by have a1 := HZS.out; omega) (RowO.own_le Hr.out hy), RowO.rowOk Hr.out⟩)
     go_wp2_with fail
     go_roundw
     case rel => exact ⟨j + 1, ro ++ [⟨g, c9, eachL G val j t⟩], by omega, by go_num, Lib.hid (by rw [List.length_append, HRL.out]; rfl), Lib.hid (by rw [List.map_append, HRM.out, eachA_snoc, HMM.out]; rfl), Lib.hid (HK.out.trans HK2.out), Lib.hid (by rw [List.flatMap_append]; have h9 := Hob.out; simpa [RowA.cells, eachL_len, Nat.sub_sub] using h9), HROW⟩
     case measure => simp [intOf]; omega
  ·have hjn' : j = n := by omega
   subst hjn'
   have hsl : Sl wr wr.heap.size (some ⟨w1.heap.size, 0, none⟩) (ro.flatMap RowA.cells) := by
    have h9 := Hob.out
    rw [Nat.sub_self, List.replicate_zero, List.append_nil] at h9
    simpa using Sl.of_block h9
   have HSL := Lib.hid hsl
   clear hsl
   go_wp2_with fail
   go_ret
   exact ⟨HB.out, _, j, ro, by rw [eachA_len]; rfl, HRM.out, ⟨HSL.out, fun r hr => (HRN.out r hr).1⟩, fun r hr => (HRN.out r hr).2.2, fun x hx => by cases hx; show w.heap.size ≤ w1.heap.size; have a0 := HZ9.out; omega, fun r hr x hx => Nat.le_trans (show w.heap.size ≤ wm.heap.size by have a0 := HZ9.out; have a1 := HZM.out; omega) ((HRN.out r hr).2.1 x hx)⟩
theorem eachBack (G : GP) (ok : G.Ok) (gb : Nat) (rs : List ClaimR) (n : Nat) (hrs : rs.length = n) (hn : n ≤ 64) (ms : List Nat) (hms : rs.map (fun r => r.k.bases.length) = ms) (hm8 : ∀ r ∈ rs, r.k.bases.length ≤ 8) (a : Option Addr) (c : Nat) (p1 p2 p3 : Value) (val : Nat → Nat → Nat) (w : World) (hG : GroupAt w gb G) (hS : SetAt G w a rs)
  (hcall : ∀ w1, Below w.heap.size w w1 → ∀ i t : Nat, i < n → t < ms.getD i 0 → Calls Try.prog 119 #[.int .i64 (i : Int), .int .i64 (t : Int), p1, p2, p3] w1 (Gives (elV G (val i t)) w1)) :
  Calls Try.prog 115 #[.agg #[.pointer (some ⟨gb, 0, none⟩), .slice a n c], .func (.func 119) #[] #[p1, p2, p3]] w (RowsF (eachA G val ms n) w) := by
 have HRS := Lib.hid hrs
 have HMS := Lib.hid hms
 have HM8 := Lib.hid hm8
 have HG := Lib.hid hG
 have HGB := Lib.hid hG.lt
 have OK := Lib.hid ok
 have HS := Lib.hid hS
 have HCALL := Lib.hid hcall
 clear hrs hms hm8 hG ok hS hcall
 have hmk := Go.run_make_row' (P := Try.prog) 58 22 (.slice none 0 0) 24 Try.underlying58 infoStrs rfl .i64 .i64 n (by omega) (by omega)
 go_enter Try.func115, Try.ntmps115
 have HZS := HGB
 go_upto_region 1 with fail
 obtain ⟨w1, hq1, hb9, hz9, Hbs⟩ := new1 w 121 [.pointer (some ⟨gb, 0, none⟩), .slice a n c]
 rw [hq1]
 clear hq1
 replace HG := Lib.hid (HG.out.up hb9)
 have HB := Lib.hid hb9
 replace HZS := sz HZS hz9.out
 clear hb9 hz9
 have bs_ := Hbs.out.c2
 go_upto_region 2 with fail
 have hmb := bx_made w1 22 (.slice none 0 0) n
 have hb9 : Below w1.heap.size w1 (w1.alloc (.cells (madeCells #[.slice none 0 0] n) 22)) := (Below.refl _ _).alloc (Nat.le_refl _) _
 have hz9 : (w1.alloc (.cells (madeCells #[.slice none 0 0] n) 22)).heap.size = w1.heap.size + 1 := by simp
 obtain ⟨wm, hq9⟩ : ∃ W9 : World, (w1.alloc (.cells (madeCells #[.slice none 0 0] n) 22)) = W9 := ⟨_, rfl⟩
 rw [hq9] at hmb hb9 hz9 ⊢
 clear hq9 hmk
 have HZM := Lib.hid hz9
 have HZ9 := Lib.hid HB.out.size
 clear hz9
 replace HZS := sz HZS HZM.out
 clear bs_
 replace Hbs := Lib.hid (Hbs.out.up hb9)
 replace HG := Lib.hid (HG.out.up hb9)
 replace HB := hbu HB hb9
 replace HZS := sz HZS hb9.size
 clear hb9
 have bs_ := Hbs.out.c2
 have Hob := Lib.hid hmb
 clear hmb
 have HK := Lib.hid (Kept.refl (fun q9 => q9 = w1.heap.size) wm)
 go_wp2_with fail
 go_loopw [15] (fun i wr => ∃ (j : Nat) (ro : List RowA), j ≤ n ∧ i = .int .i64 j ∧ Hid (ro.length = j) ∧ Hid (ro.map RowA.l = eachA G val ms j) ∧ Hid (Kept (fun q => q = w1.heap.size) wm wr) ∧ Hid (Bx wr w1.heap.size 22 (ro.flatMap RowA.cells ++ List.replicate (n - j) (.slice none 0 0))) ∧ Hid (RowsNew wm.heap.size wr ro)) (fun i _ => n - (intOf i).toNat)
 case atStart => exact ⟨0, [], Nat.zero_le _, rfl, rfl, rfl, HK, by simpa using Hob, fun _ h => by cases h⟩
 case round =>
  obtain ⟨j, ro, hj, rfl, HRL, HRM, HK, Hob9, HRN⟩ := hrel
  have hg9 := HK.out
  clear bs_ Hob
  replace Hbs := Lib.hid (Bx.keptP (P := fun q9 => q9 = w1.heap.size) Hbs.out hg9 (show ¬ (w.heap.size = w1.heap.size) by have g0 := HZS.out; omega))
  replace HG := Lib.hid (HG.out.keptP hg9 (show ¬ (_ = w1.heap.size) by have g0 := HZS.out; omega))
  replace HB := Lib.hid (Below.keptP HB.out hg9 (by have g0 := HZS.out; omega) (fun q9 h9 => (show w.heap.size ≤ _ by subst h9; have g0 := HZS.out; omega)))
  replace HZS := sz HZS (show wm.heap.size ≤ wr.heap.size from hg9.size)
  clear hg9
  have bs_ := Hbs.out.c2
  have Hob := Hob9
  clear Hob9
  by_cases hjn : j < n
  ·have hjr : j < rs.length := by rw [HRS.out]; exact hjn
   obtain ⟨ba, oa, rfl, hba0⟩ := HS.out.at j hjr
   have HCC := Lib.hid (fun w1 (hb : Below w.heap.size w w1) => HS.out.cells hb j hjr)
   have HMJ := Lib.hid (show rs[j].k.bases.length = ms.getD j 0 by rw [← HMS.out]; simp [List.getD, hjr])
   have HM1 := Lib.hid (HM8.out _ (List.getElem_mem hjr))
   generalize rs[j] = r at *
   obtain ⟨m, hm⟩ : ∃ m, ms.getD j 0 = m := ⟨_, rfl⟩
   rw [hm] at HMJ
   have HMM := Lib.hid hm
   have hm8 : m ≤ 8 := by rw [← HMJ.out]; exact HM1.out
   rw [show n - j = (n - j - 1) + 1 by omega, List.replicate_succ] at Hob
   clear hm
   obtain ⟨wo, rfl⟩ : ∃ wo : World, wo = wr := ⟨_, rfl⟩
   have hc := HCC.out _ HB.out
   have hc_1 := hc 1 _ rfl
   rw [HMJ.out] at hc_1
   clear hc
   have HRN2 := HRN
   have HK2 := Lib.hid (Kept.refl (fun q9 => q9 = w1.heap.size) wo)
   have hba9 := hba0
   go_wp2_with fail
   clear hc_1 hba9
   go_loopw [25] (fun i wr => ∃ (t : Nat) (g : Option Addr) (c9 : Nat), t ≤ m ∧ i = .int .i64 t ∧ Hid (Kept (fun q => q = w1.heap.size) wo wr) ∧ Hid (Bx wr w1.heap.size 22 (ro.flatMap RowA.cells ++ (.slice g t c9) :: List.replicate (n - j - 1) (.slice none 0 0))) ∧ Hid (RowO wo.heap.size wr 9 1 (.slice g t c9) t ((eachL G val j t).map Value.string))) (fun i _ => m - (intOf i).toNat)
   case atStart => exact ⟨0, none, 0, Nat.zero_le _, rfl, HK2, Hob, RowO.nil⟩
   case round =>
    obtain ⟨t, g, c9, ht, rfl, HK2, Hob9, Hr⟩ := hrel
    have hg9 := HK2.out
    clear bs_ Hob
    replace Hbs := Lib.hid (Bx.keptP (P := fun q9 => q9 = w1.heap.size) Hbs.out hg9 (show ¬ (w.heap.size = w1.heap.size) by have g0 := HZS.out; omega))
    replace HG := Lib.hid (HG.out.keptP hg9 (show ¬ (_ = w1.heap.size) by have g0 := HZS.out; omega))
    replace HB := Lib.hid (Below.keptP HB.out hg9 (by have g0 := HZS.out; omega) (fun q9 h9 => (show w.heap.size ≤ _ by subst h9; have g0 := HZS.out; omega)))
    replace HZS := sz HZS (show wo.heap.size ≤ wr.heap.size from hg9.size)
    clear hg9
    have bs_ := Hbs.out.c2
    have Hob := Hob9
    clear Hob9
    by_cases htm : t < m
    ·have hob : w1.heap.size < wr.heap.size := Hob.out.lt
     have hoc : wr.cell? ⟨w1.heap.size, j, none⟩ = some (.slice g t c9) := Hob.out.cell (mid_get (by rw [rows_len, HRL.out]))
     go_wp2_with fail
     have HT := Lib.hid (show Below wr.heap.size wr wr.drew from (Below.refl _ _).drew)
     have hl_bs := Hbs.out.lt
     refine wp_region_treek (fun wq9 => ∃ E : But wr (Value.ownBlock (.slice g t c9)), wq9 = E.w) 16 ((.qs [0, 1, 2, 3, 4] (.e 5 [] (.qs [6] (.e 7 [] (.qs [8, 9, 10] (.a 11 (.a 12 (.a 13 (.a 14 (.qs [15] (.a 16 .done)))))))))))) (by kernel_rfl) (by kernel_rfl) (fun _ _ d _ _ h => by cases d <;> exact h) ⟨⟨_, ((below_grown HT.out).but _)⟩, rfl⟩ ?_
     have hov_bs := fun (E : But wr (Value.ownBlock (.slice g t c9))) o => E.cell (b := w.heap.size) o hl_bs (by intro e9; have a1 := Hr.out.lt _ e9; have g0 := HZS.out; omega)
     have hov_w1_heap_size := fun (E : But wr (Value.ownBlock (.slice g t c9))) o => E.cell (b := w1.heap.size) o hob (by intro e9; have a1 := Hr.out.lt _ e9; have g0 := HZS.out; omega)
     simp only [TreeK.qs]
     repeat (first | (refine treek_q rfl rfl ?_; go_big_quiet_step (fail); refine wpQuiet_nil ?_) | (refine treek_e rfl rfl ?_; go_big_quiet_step (fail); refine wpQuiet_nil ?_))
     refine treek_a rfl (fun K hK => ?_)
     go_simp
     refine (HCALL.out _ (below_up HB.out HT.out) j t hjn (by rw [HMM.out]; exact htm)).mono ?_
     rintro e w2 ⟨rfl, hb9⟩
     replace HT := Lib.hid (below_up HT.out hb9)
     replace HZS := sz HZS (show wr.heap.size ≤ w2.heap.size from HT.out.size)
     clear hb9
     refine hK _ _ ⟨fun _ => ⟨⟨w2, ((below_grown HT.out).but _)⟩, rfl⟩, ?_⟩
     clear hK K
     repeat (first | (refine treek_q rfl rfl ?_; go_big_quiet_step (fail); refine wpQuiet_nil ?_) | (refine treek_e rfl rfl ?_; go_big_quiet_step (fail); refine wpQuiet_nil ?_))
     refine treek_a rfl (fun K hK => ?_)
     go_simp
     refine (gText_any G OK.out gb (val j t) _ (HG.out.up HT.out)).mono ?_
     rintro e w3 ⟨rfl, hb9⟩
     replace HT := Lib.hid (below_up HT.out hb9)
     replace HZS := sz HZS (show wr.heap.size ≤ w3.heap.size from HT.out.size)
     clear hb9
     refine hK _ _ ⟨fun _ => ⟨⟨w3, ((below_grown HT.out).but _)⟩, rfl⟩, ?_⟩
     clear hK K
     repeat (first | (refine treek_q rfl rfl ?_; go_big_quiet_step (fail); refine wpQuiet_nil ?_) | (refine treek_e rfl rfl ?_; go_big_quiet_step (fail); refine wpQuiet_nil ?_))
     clear hoc hob hov_bs hl_bs hov_w1_heap_size
     refine treek_a rfl (fun K hK => ?_)
     go_simp
     refine hK _ _ ⟨fun _ => ⟨⟨_, (below_grown (HT.out.alloc HT.out.size _)).but _⟩, rfl⟩, ?_⟩
     clear hK K
     obtain ⟨i9, hi9, hz90, hz91, hz92⟩ := info_parts infoStr
     have HG1 := Lib.hid ((below_grown HT.out).but (Value.ownBlock (.slice g t c9)))
     clear bs_
     replace Hbs := Lib.hid (Hbs.out.up HT.out)
     replace Hob := Lib.hid (Hob.out.up HT.out)
     replace HG := Lib.hid (HG.out.up HT.out)
     replace Hr := Lib.hid (Hr.out.up HT.out)
     replace HK2 := Lib.hid (Kept.up HK2.out HT.out)
     replace HB := hbu HB HT.out
     replace HZS := sz HZS HT.out.size
     refine treek_a rfl (fun K hK => ?_)
     refine step_pushF (wo.heap.size) w3 (by have g0 := HZS.out; omega) rfl _ _ 22 rfl 9 i9 _ 1 16 Try.underlying22 hi9 hz90 hz91 hz92 rfl (by omega) ((.slice g t c9)) (t) (((eachL G val j t).map Value.string)) rfl Hr.out _ _ _ rfl rfl rfl (by simp [Value.oneCell']) (by omega) (by unfold maxLen; omega) ?_
     intro g4 c4 w4 hown9 hg9 hf9
     have HF9 := Lib.hid hf9
     clear hf9
     have HGR := Lib.hid (HG1.out.trans hg9)
     have hb9 := Below.grown HB.out hg9 (by have g0 := HZS.out; omega) (fun q hq => Nat.le_trans (show w.heap.size ≤ wo.heap.size by have g0 := HZS.out; omega) (Hr.out.lt q hq).1)
     replace Hbs := Lib.hid (Hbs.out.grown hg9 (fun e9 => by have a1 := Hr.out.lt _ e9; have g0 := HZS.out; omega))
     replace Hob := Lib.hid (Hob.out.grown hg9 (fun e9 => by have a1 := Hr.out.lt _ e9; have g0 := HZS.out; omega))
     replace HG := Lib.hid (HG.out.grown hg9 (fun e9 => by have a1 := Hr.out.lt _ e9; have g0 := HZS.out; omega))
     replace HK2 := Lib.hid (Kept.grown HK2.out hg9 (fun q hq => Or.inl (Nat.le_trans (show wo.heap.size ≤ wo.heap.size by have g0 := HZS.out; omega) (Hr.out.lt q hq).1)))
     replace HZS := sz HZS hg9.size
     clear Hr HB HT HG1
     have Hr := Lib.hid hown9
     have HB := Lib.hid hb9
     clear hb9 hown9 hg9 hi9 hz90 hz91 hz92
     refine hK _ _ ⟨fun _ => ⟨⟨w4, HGR.out⟩, rfl⟩, ?_⟩
     clear hK K HGR
     try simp only [Act.put, List.setIfInBounds_toArray, List.set_cons_succ, List.set_cons_zero]
     repeat (first | (refine treek_q rfl rfl ?_; go_big_quiet_step (fail); refine wpQuiet_nil ?_) | (refine treek_e rfl rfl ?_; go_big_quiet_step (fail); refine wpQuiet_nil ?_))
     replace HZS := sz HZS (Hr.out.lt g4 rfl).1
     have hoc := Hob.out.cell (mid_get (v := .slice g t c9) (ys := List.replicate (n - j - 1) (.slice none 0 0)) (show (ro.flatMap RowA.cells).length = j by rw [rows_len, HRL.out]))
     have bs_ := Hbs.out.c2
     have f5_ob := Hob.out.frozen
     have o5_bs_ := bs_; clear bs_
     obtain ⟨w5, hq5, hg9, hz9, hx9⟩ := put1 Hob j (.slice (some ⟨g4, 0, none⟩) (t + 1) c4) _ rfl
     replace Hbs := Lib.hid (Hbs.out.grown hg9.out (sne (by have g0 := HZS.out; omega)))
     replace HG := Lib.hid (HG.out.grown hg9.out (sne (by have g0 := HZS.out; omega)))
     replace Hr := Lib.hid (RowO.grown Hr.out hg9.out (fun q9 e8 e9 => by have a1 := Hr.out.lt _ e8; have a0 := Option.some.inj e9; have g0 := HZS.out; omega))
     replace HK2 := Lib.hid (Kept.grown HK2.out hg9.out (fun q9 e9 => by obtain rfl := Option.some.inj e9; exact Or.inr (rfl)))
     replace HB := hbg HB hg9 (by have g0 := HZS.out; omega)
     replace HZS := sz HZS hz9.out
     replace Hob := hx9
     clear hx9 hg9 hz9
     have bs_ := Hbs.out.c2
     refine treek_a rfl (fun K hK => ?_)
     go_simp
     try rw [hq5]
     refine hK _ _ ⟨fun h9 => absurd rfl h9, ?_⟩
     clear hK K hq5 o5_bs_ f5_ob hoc
     refine treek_end ?_
     go_wp2_with fail
     go_roundw
     case rel => exact ⟨t + 1, _, _, by omega, by go_num, HK2, Lib.hid (by have h9 := Hob.out; rwa [mid_set (by rw [rows_len, HRL.out])] at h9), Hr.out.eq (eachL_snoc G val j t).symm rfl⟩
     case measure => simp [intOf]; omega
    ·have htm' : t = m := by omega
     subst htm'
     have HROW := Lib.hid (show RowsNew wm.heap.size wr (ro ++ [⟨g, c9, eachL G val j t⟩]) from fun x hx => by
      rcases List.mem_append.1 hx with hx | hx
      ·exact (HRN.out.kept HK2.out (by have a0 := HZM.out; omega)) x hx
      ·obtain rfl := List.mem_singleton.1 hx
       exact ⟨Hr.out.sl, fun y hy => Nat.le_trans (by have a1 := HZS.out; omega) (RowO.own_le Hr.out hy), RowO.rowOk Hr.out⟩)
     go_wp2_with fail
     go_roundw
     case rel => exact ⟨j + 1, ro ++ [⟨g, c9, eachL G val j t⟩], by omega, by go_num, Lib.hid (by rw [List.length_append, HRL.out]; rfl), Lib.hid (by rw [List.map_append, HRM.out, eachA_snoc, HMM.out]; rfl), Lib.hid (HK.out.trans HK2.out), Lib.hid (by rw [List.flatMap_append]; have h9 := Hob.out; simpa [RowA.cells, eachL_len, Nat.sub_sub] using h9), HROW⟩
     case measure => simp [intOf]; omega
  ·have hjn' : j = n := by omega
   subst hjn'
   have hsl : Sl wr wr.heap.size (some ⟨w1.heap.size, 0, none⟩) (ro.flatMap RowA.cells) := by
    have h9 := Hob.out
    rw [Nat.sub_self, List.replicate_zero, List.append_nil] at h9
    simpa using Sl.of_block h9
   have HSL := Lib.hid hsl
   clear hsl
   go_wp2_with fail
   go_ret
   exact ⟨HB.out, _, j, ro, by rw [eachA_len]; rfl, HRM.out, ⟨HSL.out, fun r hr => (HRN.out r hr).1⟩, fun r hr => (HRN.out r hr).2.2, fun x hx => by cases hx; show w.heap.size ≤ w1.heap.size; have a0 := HZ9.out; omega, fun r hr x hx => Nat.le_trans (show w.heap.size ≤ wm.heap.size by have a0 := HZ9.out; have a1 := HZM.out; omega) ((HRN.out r hr).2.1 x hx)⟩
end Go.Proofs.Ytdlnnkbigeiilaa
namespace Go.Proofs.Ytdlnnkbigeiilaa
open Go.RowKit
theorem cell_up {W w1 : World} {n b o : Nat} {v : Value} (hb : Below n W w1) (hl : b < n) (h : W.cell? ⟨b, o, none⟩ = some v) : w1.cell? ⟨b, o, none⟩ = some v := (hb.cell (p := ⟨b, o, none⟩) hl).trans h
theorem first1_any (G : GP) (ok : G.Ok) (gb b1 b2 : Nat) (rs : List ClaimR) (n : Nat) (a : Option Addr) (c : Nat) (xs : List ByteArray) (ax : Option Addr) (cx i t : Nat) (hi : i < rs.length) (hix : i < xs.length) (ht : t < rs[i].k.bases.length) (w : World) (hG : GroupAt w gb G) (hS : SetAt G w a rs) (hX : Sl w w.heap.size ax (xs.flatMap (limC G.q.m)))
  (hrs : rs.length = n) (hxs : xs.length = n) (h1 : Bx w b1 121 [.pointer (some ⟨gb, 0, none⟩), .slice a n c]) (h2 : Bx w b2 117 [.slice ax n cx]) :
  Calls Try.prog 116 #[.int .i64 (i : Int), .int .i64 (t : Int), .pointer (some ⟨b1, 0, none⟩), .pointer (some ⟨b2, 0, none⟩)] w (Gives (elV G (numOf rs[i].k.bases[t] ^ (numOf xs[i] % G.q.m))) w) := by
 have HG := Lib.hid hG
 have HGB := Lib.hid hG.lt
 have OK := Lib.hid ok
 have HL1 := Lib.hid h1.lt
 have HL2 := Lib.hid h2.lt
 obtain ⟨ba, oa, rfl, hba0⟩ := hS.at i hi
 obtain ⟨bx, ox, rfl, hbx0⟩ := hX.adr (flat_ne (limC_len _) (by omega) (List.length_pos_iff.1 (by omega)))
 have hca := hS.cells (Below.refl _ _) i hi
 have hcx := (hX.elemS (limC_len _) (by omega) i hix).2
 have hAT := hS.e _ (List.getElem_mem hi)
 have hcb := (hAT.b.elemS (limC_len _) (by omega) t ht).2
 have HBB := Lib.hid hAT.bl
 have HBA := Lib.hid hba0
 have HBX := Lib.hid hbx0
 have hin : i < n := by omega
 have h11 := h1.cell (i := 0) rfl
 have h12 := h1.cell (i := 1) rfl
 have h21 := h2.cell (i := 0) rfl
 generalize xs[i] = x at *
 generalize rs[i] = r at *
 obtain ⟨m, hm⟩ : ∃ m, r.k.bases.length = m := ⟨_, rfl⟩
 have htm : t < m := by omega
 generalize r.k.bases[t] = bb at *
 have hca_0 := hca 0 _ rfl
 rw [Nat.add_zero] at hca_0
 have hca_1 := hca 1 _ rfl
 have hca_2 := hca 2 _ rfl
 clear hca
 have hcx_0 := hcx 0 _ rfl
 rw [Nat.add_zero] at hcx_0
 have hcx_1 := hcx 1 _ rfl
 have hcx_2 := hcx 2 _ rfl
 have hcx_3 := hcx 3 _ rfl
 clear hcx
 have hcb_0 := hcb 0 _ rfl
 rw [Nat.add_zero] at hcb_0
 have hcb_1 := hcb 1 _ rfl
 have hcb_2 := hcb 2 _ rfl
 have hcb_3 := hcb 3 _ rfl
 clear hcb
 rw [hm] at hca_1
 clear hAT hS hX hG ok h1 h2 hi hix ht hrs hxs hm
 unfold Gives elV limbV
 go_enter Try.func116, Try.ntmps116
 go_wp2_with fail
 have HZS := HGB
 replace HZS := sz HZS HL1.out
 replace HZS := sz HZS HL2.out
 replace HZS := sz HZS HBB.out
 replace HZS := sz HZS HBA.out
 replace HZS := sz HZS HBX.out
 have BW := Lib.hid (Below.refl w.heap.size w)
 obtain ⟨w1, hq1, hb9, hz9, Hbr⟩ := new1 w 164 [.int .u64 0, .int .u64 0, .int .u64 0, .int .u64 0]
 rw [hq1]
 clear hq1
 replace HG := Lib.hid (HG.out.up hb9)
 replace BW := hbu BW hb9
 have HB := Lib.hid hb9
 replace HZS := sz HZS hz9.out
 clear hb9 hz9
 have br_ := Hbr.out.c4
 replace h11 := cell_up BW.out HL1.out h11
 replace h12 := cell_up BW.out HL1.out h12
 replace h21 := cell_up BW.out HL2.out h21
 replace hca_0 := cell_up BW.out HBA.out hca_0
 replace hca_1 := cell_up BW.out HBA.out hca_1
 replace hca_2 := cell_up BW.out HBA.out hca_2
 replace hcx_0 := cell_up BW.out HBX.out hcx_0
 replace hcx_1 := cell_up BW.out HBX.out hcx_1
 replace hcx_2 := cell_up BW.out HBX.out hcx_2
 replace hcx_3 := cell_up BW.out HBX.out hcx_3
 replace hcb_0 := cell_up BW.out HBB.out hcb_0
 replace hcb_1 := cell_up BW.out HBB.out hcb_1
 replace hcb_2 := cell_up BW.out HBB.out hcb_2
 replace hcb_3 := cell_up BW.out HBB.out hcb_3
 have hl1 := Nat.lt_of_lt_of_le HL1.out BW.out.size
 have hl2 := Nat.lt_of_lt_of_le HL2.out BW.out.size
 have hba1 := Nat.lt_of_lt_of_le HBA.out BW.out.size
 have hbx1 := Nat.lt_of_lt_of_le HBX.out BW.out.size
 have hbb1 := Nat.lt_of_lt_of_le HBB.out BW.out.size
 clear hba0 hbx0
 have HT := Lib.hid (show Below w1.heap.size w1 w1.drew from (Below.refl _ _).drew)
 refine wp_region_tree (fun wq9 => ∃ E : But w1 (some (w.heap.size)), wq9 = E.w) ((.qs [0, 1, 2, 3, 4, 5, 6, 7, 8, 9, 10, 11, 12, 13, 14] (.a 15 (.a 16 .done)))) (by kernel_rfl) (by kernel_rfl) (fun _ _ d _ _ h => by cases d <;> exact h) ⟨⟨_, ((below_grown HT.out).but _)⟩, rfl⟩ ?_
 have hov_b1 := fun (E : But w1 (some (w.heap.size))) o => E.cell (b := b1) o hl1 (by intro e9; have a0 := Option.some.inj e9; have g0 := HZS.out; omega)
 have hov_b2 := fun (E : But w1 (some (w.heap.size))) o => E.cell (b := b2) o hl2 (by intro e9; have a0 := Option.some.inj e9; have g0 := HZS.out; omega)
 have hov_ba := fun (E : But w1 (some (w.heap.size))) o => E.cell (b := ba) o hba1 (by intro e9; have a0 := Option.some.inj e9; have g0 := HZS.out; omega)
 have hov_bx := fun (E : But w1 (some (w.heap.size))) o => E.cell (b := bx) o hbx1 (by intro e9; have a0 := Option.some.inj e9; have g0 := HZS.out; omega)
 have hov_r_bb := fun (E : But w1 (some (w.heap.size))) o => E.cell (b := r.bb) o hbb1 (by intro e9; have a0 := Option.some.inj e9; have g0 := HZS.out; omega)
 simp only [Tree.qs]
 repeat (refine tree_q rfl rfl ?_; go_big_quiet_step (fail); refine wpQuiet_nil ?_)
 refine tree_a rfl (fun K hK => ?_)
 go_simp
 refine (gPower_any G OK.out gb (numOf bb) (numOf x) _ (HG.out.up HT.out)).mono ?_
 rintro e w2 ⟨rfl, hb9⟩
 replace HT := Lib.hid (below_up HT.out hb9)
 replace HZS := sz HZS (show w1.heap.size ≤ w2.heap.size from HT.out.size)
 clear hb9
 unfold elV limbV
 refine hK _ _ ⟨⟨⟨w2, ((below_grown HT.out).but _)⟩, rfl⟩, ?_⟩
 clear hK K
 repeat (refine tree_q rfl rfl ?_; go_big_quiet_step (fail); refine wpQuiet_nil ?_)
 clear h11 h12 h21 hca_0 hca_1 hca_2 hcx_0 hcx_1 hcx_2 hcx_3 hcb_0 hcb_1 hcb_2 hcb_3 hov_b1 hov_b2 hov_ba hov_bx hov_r_bb
 refine tree_a rfl (fun K hK => ?_)
 clear br_
 replace Hbr := Lib.hid (Hbr.out.up HT.out)
 replace HG := Lib.hid (HG.out.up HT.out)
 replace HB := hbu HB HT.out
 replace HZS := sz HZS HT.out.size
 have br_ := Hbr.out.c4
 have f3_br := Hbr.out.frozen
 have o3_br_ := br_; clear br_
 obtain ⟨w3, hq3, hg9, hz9, hx9⟩ := put4 Hbr 0 (.int .u64 (dig (mont G.p.m (numOf bb ^ (numOf x % G.q.m))) 0 : Int)) 1 (.int .u64 (dig (mont G.p.m (numOf bb ^ (numOf x % G.q.m))) 1 : Int)) 2 (.int .u64 (dig (mont G.p.m (numOf bb ^ (numOf x % G.q.m))) 2 : Int)) 3 (.int .u64 (dig (mont G.p.m (numOf bb ^ (numOf x % G.q.m))) 3 : Int)) [.int .u64 (dig (mont G.p.m (numOf bb ^ (numOf x % G.q.m))) 0 : Int), .int .u64 (dig (mont G.p.m (numOf bb ^ (numOf x % G.q.m))) 1 : Int), .int .u64 (dig (mont G.p.m (numOf bb ^ (numOf x % G.q.m))) 2 : Int), .int .u64 (dig (mont G.p.m (numOf bb ^ (numOf x % G.q.m))) 3 : Int)] rfl
 replace HG := Lib.hid (HG.out.grown hg9.out (sne (by have g0 := HZS.out; omega)))
 replace HB := hbg HB hg9 (by have g0 := HZS.out; omega)
 replace HZS := sz HZS hz9.out
 replace Hbr := hx9
 have HGR := Lib.hid (((below_grown HT.out).but _).trans hg9.out)
 clear hx9 hg9 hz9
 have br_ := Hbr.out.c4
 clear HT
 go_simp
 try rw [hq3]
 refine hK _ _ ⟨⟨⟨w3, HGR.out⟩, rfl⟩, ?_⟩
 clear hK K HGR hq3 o3_br_ f3_br
 repeat (refine tree_q rfl rfl ?_; go_big_quiet_step (fail); refine wpQuiet_nil ?_)
 refine tree_end ?_
 go_wp2_with fail
 simp [bodyPost, results, Try.results116, go_sem, br_]
 exact HB.out
theorem back1_any (G : GP) (ok : G.Ok) (gb b1 b2 b3 y : Nat) (rs : List ClaimR) (n : Nat) (a : Option Addr) (c : Nat) (xs : List ByteArray) (ax : Option Addr) (cx i t : Nat) (hi : i < rs.length) (hix : i < xs.length) (ht : t < rs[i].k.bases.length) (hti : t < rs[i].k.images.length) (w : World) (hG : GroupAt w gb G) (hS : SetAt G w a rs) (hX : Sl w w.heap.size ax (xs.flatMap (limC G.q.m)))
  (hrs : rs.length = n) (hxs : xs.length = n) (h1 : Bx w b1 121 [.pointer (some ⟨gb, 0, none⟩), .slice a n c]) (h2 : Bx w b2 117 [.slice ax n cx]) (h3 : Bx w b3 78 (limN G.q.m y)) :
  Calls Try.prog 119 #[.int .i64 (i : Int), .int .i64 (t : Int), .pointer (some ⟨b1, 0, none⟩), .pointer (some ⟨b2, 0, none⟩), .pointer (some ⟨b3, 0, none⟩)] w (Gives (elV G (numOf rs[i].k.bases[t] ^ (numOf xs[i] % G.q.m) * numOf rs[i].k.images[t] ^ (y % G.q.m))) w) := by
 have HG := Lib.hid hG
 have HGB := Lib.hid hG.lt
 have OK := Lib.hid ok
 have HL1 := Lib.hid h1.lt
 have HL2 := Lib.hid h2.lt
 obtain ⟨ba, oa, rfl, hba0⟩ := hS.at i hi
 obtain ⟨bx, ox, rfl, hbx0⟩ := hX.adr (flat_ne (limC_len _) (by omega) (List.length_pos_iff.1 (by omega)))
 have hca := hS.cells (Below.refl _ _) i hi
 have hcx := (hX.elemS (limC_len _) (by omega) i hix).2
 have hAT := hS.e _ (List.getElem_mem hi)
 have hcb := (hAT.b.elemS (limC_len _) (by omega) t ht).2
 have HBB := Lib.hid hAT.bl
 have HBA := Lib.hid hba0
 have HBX := Lib.hid hbx0
 have HL3 := Lib.hid h3.lt
 have hci := (hAT.i.elemS (limC_len _) (by omega) t hti).2
 have HBI := Lib.hid hAT.il
 have hin : i < n := by omega
 have h11 := h1.cell (i := 0) rfl
 have h12 := h1.cell (i := 1) rfl
 have h21 := h2.cell (i := 0) rfl
 have h30 := h3.cell (i := 0) rfl
 have h31 := h3.cell (i := 1) rfl
 have h32 := h3.cell (i := 2) rfl
 have h33 := h3.cell (i := 3) rfl
 generalize xs[i] = x at *
 generalize rs[i] = r at *
 obtain ⟨m, hm⟩ : ∃ m, r.k.bases.length = m := ⟨_, rfl⟩
 obtain ⟨m2, hm2⟩ : ∃ m, r.k.images.length = m := ⟨_, rfl⟩
 have htm : t < m := by omega
 have htm2 : t < m2 := by omega
 generalize r.k.bases[t] = bb at *
 generalize r.k.images[t] = mm at *
 have hca_0 := hca 0 _ rfl
 rw [Nat.add_zero] at hca_0
 have hca_1 := hca 1 _ rfl
 have hca_2 := hca 2 _ rfl
 clear hca
 have hcx_0 := hcx 0 _ rfl
 rw [Nat.add_zero] at hcx_0
 have hcx_1 := hcx 1 _ rfl
 have hcx_2 := hcx 2 _ rfl
 have hcx_3 := hcx 3 _ rfl
 clear hcx
 have hcb_0 := hcb 0 _ rfl
 rw [Nat.add_zero] at hcb_0
 have hcb_1 := hcb 1 _ rfl
 have hcb_2 := hcb 2 _ rfl
 have hcb_3 := hcb 3 _ rfl
 clear hcb
 have hci_0 := hci 0 _ rfl
 rw [Nat.add_zero] at hci_0
 have hci_1 := hci 1 _ rfl
 have hci_2 := hci 2 _ rfl
 have hci_3 := hci 3 _ rfl
 clear hci
 rw [hm] at hca_1
 rw [hm2] at hca_2
 clear hAT hS hX hG ok h1 h2 h3 hi hix ht hti hrs hxs hm hm2
 unfold Gives elV limbV
 go_enter Try.func119, Try.ntmps119
 go_wp2_with fail
 have HZS := HGB
 replace HZS := sz HZS HL1.out
 replace HZS := sz HZS HL2.out
 replace HZS := sz HZS HL3.out
 replace HZS := sz HZS HBB.out
 replace HZS := sz HZS HBA.out
 replace HZS := sz HZS HBX.out
 replace HZS := sz HZS HBI.out
 have BW := Lib.hid (Below.refl w.heap.size w)
 obtain ⟨w1, hq1, hb9, hz9, Hbr⟩ := new1 w 164 [.int .u64 0, .int .u64 0, .int .u64 0, .int .u64 0]
 rw [hq1]
 clear hq1
 replace HG := Lib.hid (HG.out.up hb9)
 replace BW := hbu BW hb9
 have HB := Lib.hid hb9
 replace HZS := sz HZS hz9.out
 clear hb9 hz9
 have br_ := Hbr.out.c4
 replace h11 := cell_up BW.out HL1.out h11
 replace h12 := cell_up BW.out HL1.out h12
 replace h21 := cell_up BW.out HL2.out h21
 replace hca_0 := cell_up BW.out HBA.out hca_0
 replace hca_1 := cell_up BW.out HBA.out hca_1
 replace hca_2 := cell_up BW.out HBA.out hca_2
 replace hcx_0 := cell_up BW.out HBX.out hcx_0
 replace hcx_1 := cell_up BW.out HBX.out hcx_1
 replace hcx_2 := cell_up BW.out HBX.out hcx_2
 replace hcx_3 := cell_up BW.out HBX.out hcx_3
 replace hcb_0 := cell_up BW.out HBB.out hcb_0
 replace hcb_1 := cell_up BW.out HBB.out hcb_1
 replace hcb_2 := cell_up BW.out HBB.out hcb_2
 replace hcb_3 := cell_up BW.out HBB.out hcb_3
 have hl1 := Nat.lt_of_lt_of_le HL1.out BW.out.size
 have hl2 := Nat.lt_of_lt_of_le HL2.out BW.out.size
 have hba1 := Nat.lt_of_lt_of_le HBA.out BW.out.size
 have hbx1 := Nat.lt_of_lt_of_le HBX.out BW.out.size
 have hbb1 := Nat.lt_of_lt_of_le HBB.out BW.out.size
 clear hba0 hbx0
 replace h30 := cell_up BW.out HL3.out h30
 replace h31 := cell_up BW.out HL3.out h31
 replace h32 := cell_up BW.out HL3.out h32
 replace h33 := cell_up BW.out HL3.out h33
 replace hci_0 := cell_up BW.out HBI.out hci_0
 replace hci_1 := cell_up BW.out HBI.out hci_1
 replace hci_2 := cell_up BW.out HBI.out hci_2
 replace hci_3 := cell_up BW.out HBI.out hci_3
 have hl3 := Nat.lt_of_lt_of_le HL3.out BW.out.size
 have hbi1 := Nat.lt_of_lt_of_le HBI.out BW.out.size
 have HT := Lib.hid (show Below w1.heap.size w1 w1.drew from (Below.refl _ _).drew)
 refine wp_region_tree (fun wq9 => ∃ E : But w1 (some (w.heap.size)), wq9 = E.w) ((.qs [0, 1, 2, 3, 4, 5, 6, 7, 8, 9, 10, 11, 12, 13, 14, 15, 16, 18, 19, 20, 21, 22, 23, 24, 25, 26, 27, 28, 29] (.a 17 (.a 30 (.a 31 (.a 32 .done)))))) (by kernel_rfl) (by kernel_rfl) (fun _ _ d _ _ h => by cases d <;> exact h) ⟨⟨_, ((below_grown HT.out).but _)⟩, rfl⟩ ?_
 have hov_b1 := fun (E : But w1 (some (w.heap.size))) o => E.cell (b := b1) o hl1 (by intro e9; have a0 := Option.some.inj e9; have g0 := HZS.out; omega)
 have hov_b2 := fun (E : But w1 (some (w.heap.size))) o => E.cell (b := b2) o hl2 (by intro e9; have a0 := Option.some.inj e9; have g0 := HZS.out; omega)
 have hov_b3 := fun (E : But w1 (some (w.heap.size))) o => E.cell (b := b3) o hl3 (by intro e9; have a0 := Option.some.inj e9; have g0 := HZS.out; omega)
 have hov_ba := fun (E : But w1 (some (w.heap.size))) o => E.cell (b := ba) o hba1 (by intro e9; have a0 := Option.some.inj e9; have g0 := HZS.out; omega)
 have hov_bx := fun (E : But w1 (some (w.heap.size))) o => E.cell (b := bx) o hbx1 (by intro e9; have a0 := Option.some.inj e9; have g0 := HZS.out; omega)
 have hov_r_bb := fun (E : But w1 (some (w.heap.size))) o => E.cell (b := r.bb) o hbb1 (by intro e9; have a0 := Option.some.inj e9; have g0 := HZS.out; omega)
 have hov_r_ib := fun (E : But w1 (some (w.heap.size))) o => E.cell (b := r.ib) o hbi1 (by intro e9; have a0 := Option.some.inj e9; have g0 := HZS.out; omega)
 simp only [Tree.qs]
 repeat (refine tree_q rfl rfl ?_; go_big_quiet_step (fail); refine wpQuiet_nil ?_)
 refine tree_a rfl (fun K hK => ?_)
 go_simp
 refine (gPower_any G OK.out gb (numOf bb) (numOf x) _ (HG.out.up HT.out)).mono ?_
 rintro e w2 ⟨rfl, hb9⟩
 replace HT := Lib.hid (below_up HT.out hb9)
 replace HZS := sz HZS (show w1.heap.size ≤ w2.heap.size from HT.out.size)
 clear hb9
 refine hK _ _ ⟨⟨⟨w2, ((below_grown HT.out).but _)⟩, rfl⟩, ?_⟩
 clear hK K
 repeat (refine tree_q rfl rfl ?_; go_big_quiet_step (fail); refine wpQuiet_nil ?_)
 refine tree_a rfl (fun K hK => ?_)
 go_simp
 refine (gPower_any G OK.out gb (numOf mm) y _ (HG.out.up HT.out)).mono ?_
 rintro e w3 ⟨rfl, hb9⟩
 replace HT := Lib.hid (below_up HT.out hb9)
 replace HZS := sz HZS (show w1.heap.size ≤ w3.heap.size from HT.out.size)
 clear hb9
 refine hK _ _ ⟨⟨⟨w3, ((below_grown HT.out).but _)⟩, rfl⟩, ?_⟩
 clear hK K
 repeat (refine tree_q rfl rfl ?_; go_big_quiet_step (fail); refine wpQuiet_nil ?_)
 refine tree_a rfl (fun K hK => ?_)
 go_simp
 refine (gTimes_any G OK.out gb (numOf bb ^ (numOf x % G.q.m)) (numOf mm ^ (y % G.q.m)) _ (HG.out.up HT.out)).mono ?_
 rintro e w4 ⟨rfl, hb9⟩
 replace HT := Lib.hid (below_up HT.out hb9)
 replace HZS := sz HZS (show w1.heap.size ≤ w4.heap.size from HT.out.size)
 clear hb9
 unfold elV limbV
 refine hK _ _ ⟨⟨⟨w4, ((below_grown HT.out).but _)⟩, rfl⟩, ?_⟩
 clear hK K
 repeat (refine tree_q rfl rfl ?_; go_big_quiet_step (fail); refine wpQuiet_nil ?_)
 clear h11 h12 h21 h30 h31 h32 h33 hca_0 hca_1 hca_2 hcx_0 hcx_1 hcx_2 hcx_3 hcb_0 hcb_1 hcb_2 hcb_3 hci_0 hci_1 hci_2 hci_3 hov_b1 hov_b2 hov_b3 hov_ba hov_bx hov_r_bb hov_r_ib
 refine tree_a rfl (fun K hK => ?_)
 clear br_
 replace Hbr := Lib.hid (Hbr.out.up HT.out)
 replace HG := Lib.hid (HG.out.up HT.out)
 replace HB := hbu HB HT.out
 replace HZS := sz HZS HT.out.size
 have br_ := Hbr.out.c4
 have f5_br := Hbr.out.frozen
 have o5_br_ := br_; clear br_
 obtain ⟨w5, hq5, hg9, hz9, hx9⟩ := put4 Hbr 0 (.int .u64 (dig (mont G.p.m (numOf bb ^ (numOf x % G.q.m) * numOf mm ^ (y % G.q.m))) 0 : Int)) 1 (.int .u64 (dig (mont G.p.m (numOf bb ^ (numOf x % G.q.m) * numOf mm ^ (y % G.q.m))) 1 : Int)) 2 (.int .u64 (dig (mont G.p.m (numOf bb ^ (numOf x % G.q.m) * numOf mm ^ (y % G.q.m))) 2 : Int)) 3 (.int .u64 (dig (mont G.p.m (numOf bb ^ (numOf x % G.q.m) * numOf mm ^ (y % G.q.m))) 3 : Int)) [.int .u64 (dig (mont G.p.m (numOf bb ^ (numOf x % G.q.m) * numOf mm ^ (y % G.q.m))) 0 : Int), .int .u64 (dig (mont G.p.m (numOf bb ^ (numOf x % G.q.m) * numOf mm ^ (y % G.q.m))) 1 : Int), .int .u64 (dig (mont G.p.m (numOf bb ^ (numOf x % G.q.m) * numOf mm ^ (y % G.q.m))) 2 : Int), .int .u64 (dig (mont G.p.m (numOf bb ^ (numOf x % G.q.m) * numOf mm ^ (y % G.q.m))) 3 : Int)] rfl
 replace HG := Lib.hid (HG.out.grown hg9.out (sne (by have g0 := HZS.out; omega)))
 replace HB := hbg HB hg9 (by have g0 := HZS.out; omega)
 replace HZS := sz HZS hz9.out
 replace Hbr := hx9
 have HGR := Lib.hid (((below_grown HT.out).but _).trans hg9.out)
 clear hx9 hg9 hz9
 have br_ := Hbr.out.c4
 clear HT
 go_simp
 try rw [hq5]
 refine hK _ _ ⟨⟨⟨w5, HGR.out⟩, rfl⟩, ?_⟩
 clear hK K HGR hq5 o5_br_ f5_br
 repeat (refine tree_q rfl rfl ?_; go_big_quiet_step (fail); refine wpQuiet_nil ?_)
 refine tree_end ?_
 go_wp2_with fail
 simp [bodyPost, results, Try.results119, go_sem, br_]
 exact HB.out
end Go.Proofs.Ytdlnnkbigeiilaa
namespace Go.Proofs.Ytdlnnkbigeiilaa
open Go.RowKit
def hold2 (G : GP) (x : ByteArray) (b m : ByteArray) : Bool := decide (lowN G (numOf b ^ (numOf x % G.q.m)) = lowN G (numOf m))
def hold1 (G : GP) (k : ClaimA) (x : ByteArray) : Bool := (List.zipWith (hold2 G x) k.bases k.images).all id
def holdP (G : GP) (l : List ClaimA) (xs : List ByteArray) : Bool := (List.zipWith (hold1 G) l xs).all id
theorem gSame_b (G : GP) (ok : G.Ok) (gb x y : Nat) (b : Bool) (hb : decide (lowN G x = lowN G y) = b) (w : World) (hG : GroupAt w gb G) :
  Calls Try.prog 110 #[.pointer (some ⟨gb, 0, none⟩), elV G x, elV G y] w (Gives (.bool b) w) := by
 subst hb
 exact gSame_any G ok gb x y w hG
theorem zalls_snoc {α β : Type} {f : α → β → Bool} {l : List α} {m : List β} {j : Nat} (hl : j < l.length) (hm : j < m.length) (h : ((List.zipWith f l m).take j).all id = true) (h1 : f l[j] m[j] = true) : ((List.zipWith f l m).take (j + 1)).all id = true := by
 rw [List.take_succ_eq_append_getElem (by rw [List.length_zipWith]; omega), List.all_append, h, List.getElem_zipWith, h1]
 rfl
theorem zalls_not {α β : Type} {f : α → β → Bool} {l : List α} {m : List β} {j : Nat} (hl : j < l.length) (hm : j < m.length) (h1 : f l[j] m[j] = false) : (List.zipWith f l m).all id = false := by
 rw [List.all_eq_false]
 exact ⟨(List.zipWith f l m)[j]'(by rw [List.length_zipWith]; omega), List.getElem_mem _, by rw [List.getElem_zipWith]; simp [h1]⟩
theorem zalls_end {α β : Type} {f : α → β → Bool} {l : List α} {m : List β} {n : Nat} (hl : l.length = n) (h : ((List.zipWith f l m).take n).all id = true) : (List.zipWith f l m).all id = true := by
 rwa [List.take_of_length_le (by rw [List.length_zipWith]; omega)] at h
theorem holds_any (G : GP) (ok : G.Ok) (gb : Nat) (rs : List ClaimR) (n : Nat) (hrs : rs.length = n) (a : Option Addr) (c : Nat) (xs : List ByteArray) (hxs : xs.length = n) (ax : Option Addr) (cx : Nat) (hn : n ≤ 64) (hsh : ∀ r ∈ rs, r.k.bases.length ≤ 8 ∧ r.k.images.length = r.k.bases.length) (b : Bool) (hb : holdP G (rs.map ClaimR.k) xs = b) (w : World) (hG : GroupAt w gb G) (hS : SetAt G w a rs) (hX : Sl w w.heap.size ax (xs.flatMap (limC G.q.m))) :
  Calls Try.prog 68 #[.agg #[.pointer (some ⟨gb, 0, none⟩), .slice a n c], .slice ax n cx] w (Gives (.bool b) w) := by
 have HRS := Lib.hid hrs
 have HXS := Lib.hid hxs
 have HSH := Lib.hid hsh
 have HBB := Lib.hid hb
 have HG := Lib.hid hG
 have OK := Lib.hid ok
 have HS := Lib.hid hS
 have HX := Lib.hid hX
 clear hrs hxs hsh hb hG ok hS hX
 unfold Gives
 go_enter Try.func68, Try.ntmps68
 go_wp2_with fail
 obtain ⟨w1, hq1, hb9, hz9, Hbs⟩ := new1 w 121 [.pointer (some ⟨gb, 0, none⟩), .slice a n c]
 rw [hq1]
 clear hq1
 replace HG := Lib.hid (HG.out.up hb9)
 have HB := Lib.hid hb9
 have HZS := hz9
 clear hb9 hz9
 have bs_ := Hbs.out.c2
 have BL := Lib.hid (Below.refl w1.heap.size w1)
 go_wp2_with fail
 go_loopw [12] (fun i wr => ∃ j : Nat, j ≤ n ∧ i = .int .i64 j ∧ Hid (Below w1.heap.size w1 wr) ∧ Hid (((List.zipWith (hold1 G) (rs.map ClaimR.k) xs).take j).all id = true)) (fun i _ => n - (intOf i).toNat)
 case atStart => exact ⟨0, Nat.zero_le _, rfl, BL, rfl⟩
 case round =>
  obtain ⟨j, hj, rfl, HL9, HAL⟩ := hrel
  have hb9 := HL9.out
  clear HL9 bs_
  replace Hbs := Lib.hid (Hbs.out.up hb9)
  replace HG := Lib.hid (HG.out.up hb9)
  replace BL := hbu BL hb9
  replace HB := hbu HB hb9
  replace HZS := sz HZS hb9.size
  clear hb9
  have bs_ := Hbs.out.c2
  by_cases hjn : j < n
  ·have hjr : j < rs.length := by rw [HRS.out]; exact hjn
   have hjx : j < xs.length := by rw [HXS.out]; exact hjn
   obtain ⟨ba, oa, rfl, hba⟩ := HS.out.at j hjr
   obtain ⟨bx, ox, rfl, hbx0⟩ := HX.out.adr (flat_ne (limC_len _) (by omega) (List.length_pos_iff.1 (by omega)))
   have HSA := Lib.hid (HS.out.up HB.out)
   have hcx := ((HX.out.up HB.out).elemS (limC_len _) (by omega) j hjx).2
   have hca := HSA.out.cells (Below.refl _ _) j hjr
   have HAT := Lib.hid (HSA.out.e _ (List.getElem_mem hjr))
   have HSJ := Lib.hid (HSH.out _ (List.getElem_mem hjr))
   have HSN := Lib.hid (zalls_snoc (f := hold1 G) (l := rs.map ClaimR.k) (m := xs) (by simpa using hjr) hjx HAL.out)
   have HNO := Lib.hid (zalls_not (f := hold1 G) (l := rs.map ClaimR.k) (m := xs) (by simpa using hjr) hjx)
   rw [List.getElem_map] at HSN HNO
   have HPW := Lib.hid (fun (w1 : World) (x : Nat) (h1 : GroupAt w1 gb G) (h2 : SetAt G w1 (some ⟨ba, oa, none⟩) rs) => powers_any G OK.out gb rs (some ⟨ba, oa, none⟩) c j hjr x HSJ.out.1 w1 h1 h2)
   rw [HRS.out] at HPW
   generalize rs[j] = r at *
   generalize xs[j] = x at *
   have hca_0 := hca 0 _ rfl
   rw [Nat.add_zero] at hca_0
   have hca_1 := hca 1 _ rfl
   have hca_2 := hca 2 _ rfl
   clear hca
   have hcx_0 := hcx 0 _ rfl
   rw [Nat.add_zero] at hcx_0
   have hcx_1 := hcx 1 _ rfl
   have hcx_2 := hcx 2 _ rfl
   have hcx_3 := hcx 3 _ rfl
   clear hcx
   have hbx := Nat.lt_of_lt_of_le hbx0 HB.out.size
   have BR := Lib.hid (Below.refl wr.heap.size wr)
   have o2_bs_ := bs_; clear bs_
   obtain ⟨w2, hq2, hb9, hz9, Hbc⟩ := new1 wr 176 [.pointer (some ⟨r.pb, r.po, none⟩), .slice (some ⟨r.bb, r.bo, none⟩) r.k.bases.length r.bc, .slice (some ⟨r.ib, r.io, none⟩) r.k.images.length r.ic]
   replace Hbs := Lib.hid (Hbs.out.up hb9)
   replace HG := Lib.hid (HG.out.up hb9)
   replace BL := hbu BL hb9
   replace BR := hbu BR hb9
   replace HB := hbu HB hb9
   replace HZS := sz HZS hz9.out
   clear hb9 hz9
   have bs_ := Hbs.out.c2
   have bc_ := Hbc.out.c3
   go_wp2_with fail
   clear hq2 o2_bs_
   have hbx' := Nat.lt_of_lt_of_le hbx BR.out.size
   have hcx_0' := (BR.out.cell (p := ⟨bx, ox + j * 4, none⟩) hbx).trans hcx_0
   have hcx_1' := (BR.out.cell (p := ⟨bx, ox + j * 4 + 1, none⟩) hbx).trans hcx_1
   have hcx_2' := (BR.out.cell (p := ⟨bx, ox + j * 4 + 2, none⟩) hbx).trans hcx_2
   have hcx_3' := (BR.out.cell (p := ⟨bx, ox + j * 4 + 3, none⟩) hbx).trans hcx_3
   clear hca_0 hca_1 hca_2 hcx_0 hcx_1 hcx_2 hcx_3
   have HT := Lib.hid (show Below w2.heap.size w2 w2.drew from (Below.refl _ _).drew)
   have hl_bs := Hbs.out.lt
   have hl_bc := Hbc.out.lt
   refine wp_region_tree (fun wq9 => ∃ E : Over w2, wq9 = E.w) ((.qs [0, 1, 2, 3, 4, 5, 8] (.a 6 (.qs [7] .done)))) (by kernel_rfl) (by kernel_rfl) (fun _ _ d _ _ h => by cases d <;> exact h) ⟨⟨_, HT.out⟩, rfl⟩ ?_
   have hov_bs := fun (E : Over w2) o => E.cell (b := w.heap.size) o hl_bs
   have hov_bc := fun (E : Over w2) o => E.cell (b := wr.heap.size) o hl_bc
   have hov_bx := fun (E : Over w2) o => E.cell (b := bx) o hbx'
   simp only [Tree.qs]
   repeat (refine tree_q rfl rfl ?_; go_big_quiet_step (fail); refine wpQuiet_nil ?_)
   refine tree_a rfl (fun K hK => ?_)
   go_simp
   refine (HPW.out _ (numOf x) (HG.out.up HT.out) (HSA.out.up (below_up BR.out HT.out))).mono ?_
   rintro e w3 ⟨a9, c9, rfl, hb9, hs9⟩
   replace HT := Lib.hid (below_up HT.out hb9)
   replace HZS := sz HZS (show w2.heap.size ≤ w3.heap.size from HT.out.size)
   clear hb9
   have HP := Lib.hid hs9
   clear hs9
   refine hK _ _ ⟨⟨⟨w3, HT.out⟩, rfl⟩, ?_⟩
   clear hK K
   repeat (refine tree_q rfl rfl ?_; go_big_quiet_step (fail); refine wpQuiet_nil ?_)
   refine tree_end ?_
   clear hov_bs hl_bs hov_bc hl_bc hov_bx bs_
   replace Hbs := Lib.hid (Hbs.out.up HT.out)
   clear bc_
   replace Hbc := Lib.hid (Hbc.out.up HT.out)
   replace HG := Lib.hid (HG.out.up HT.out)
   replace BL := hbu BL HT.out
   replace BR := hbu BR HT.out
   replace HB := hbu HB HT.out
   replace HZS := sz HZS HT.out.size
   clear HT
   have bs_ := Hbs.out.c2
   have bc_ := Hbc.out.c3
   clear hcx_0' hcx_1' hcx_2' hcx_3' hbx'
   have hm8 := HSJ.out.1
   obtain ⟨wo, rfl⟩ : ∃ wo : World, wo = wr := ⟨_, rfl⟩
   have BI := Lib.hid (Below.refl w3.heap.size w3)
   go_wp2_with fail
   go_loopw [25] (fun i wr => ∃ t : Nat, t ≤ r.k.bases.length ∧ i = .int .i64 t ∧ Hid (Below w3.heap.size w3 wr) ∧ Hid (((List.zipWith (hold2 G x) r.k.bases r.k.images).take t).all id = true)) (fun i _ => r.k.bases.length - (intOf i).toNat)
   case atStart => exact ⟨0, Nat.zero_le _, rfl, BI, rfl⟩
   case round =>
    obtain ⟨t, ht, rfl, HL9, HAI⟩ := hrel
    have hb9 := HL9.out
    clear HL9 bs_
    replace Hbs := Lib.hid (Hbs.out.up hb9)
    clear bc_
    replace Hbc := Lib.hid (Hbc.out.up hb9)
    replace HG := Lib.hid (HG.out.up hb9)
    replace BL := hbu BL hb9
    replace BR := hbu BR hb9
    replace BI := hbu BI hb9
    replace HB := hbu HB hb9
    replace HZS := sz HZS hb9.size
    clear hb9
    have bs_ := Hbs.out.c2
    have bc_ := Hbc.out.c3
    by_cases htm : t < r.k.bases.length
    ·have hti : t < r.k.images.length := by rw [HSJ.out.2]; exact htm
     obtain ⟨b9, o9, rfl, hb90, hb9', hcp⟩ := HP.out.elemUp BI.out (powC_len G _) (by omega) t htm
     have hci := ((HAT.out.i.up BR.out).elemS (limC_len _) (by omega) t hti).2
     have hil := Nat.lt_of_lt_of_le HAT.out.il BR.out.size
     have HTN := Lib.hid (zalls_snoc (f := hold2 G x) htm hti HAI.out)
     have HTO := Lib.hid (zalls_not (f := hold2 G x) htm hti)
     generalize r.k.bases[t] = bb at *
     generalize r.k.images[t] = mm at *
     obtain ⟨q, hq⟩ : ∃ q, hold2 G x bb mm = q := ⟨_, rfl⟩
     have HQ := Lib.hid hq
     clear hq
     have hcp_0 := hcp 0 _ rfl
     rw [Nat.add_zero] at hcp_0
     have hcp_1 := hcp 1 _ rfl
     have hcp_2 := hcp 2 _ rfl
     have hcp_3 := hcp 3 _ rfl
     clear hcp
     have hci_0 := hci 0 _ rfl
     rw [Nat.add_zero] at hci_0
     have hci_1 := hci 1 _ rfl
     have hci_2 := hci 2 _ rfl
     have hci_3 := hci 3 _ rfl
     clear hci
     have BQ := Lib.hid (Below.refl wr.heap.size wr)
     have o4_bs_ := bs_; clear bs_
     have o4_bc_ := bc_; clear bc_
     obtain ⟨w4, hq4, hb9, hz9, Hbp⟩ := new1 wr 164 [.int .u64 (dig (mont G.p.m (numOf bb ^ (numOf x % G.q.m))) 0 : Int), .int .u64 (dig (mont G.p.m (numOf bb ^ (numOf x % G.q.m))) 1 : Int), .int .u64 (dig (mont G.p.m (numOf bb ^ (numOf x % G.q.m))) 2 : Int), .int .u64 (dig (mont G.p.m (numOf bb ^ (numOf x % G.q.m))) 3 : Int)]
     replace Hbs := Lib.hid (Hbs.out.up hb9)
     replace Hbc := Lib.hid (Hbc.out.up hb9)
     replace HG := Lib.hid (HG.out.up hb9)
     replace BL := hbu BL hb9
     replace BR := hbu BR hb9
     replace BI := hbu BI hb9
     replace BQ := hbu BQ hb9
     replace HB := hbu HB hb9
     replace HZS := sz HZS hz9.out
     clear hb9 hz9
     have bs_ := Hbs.out.c2
     have bc_ := Hbc.out.c3
     have bp_ := Hbp.out.c4
     go_wp2_with fail
     clear hq4 o4_bc_ o4_bs_
     have hil' := Nat.lt_of_lt_of_le hil BQ.out.size
     have hci_0' := (BQ.out.cell (p := ⟨r.ib, r.io + t * 4, none⟩) hil).trans hci_0
     have hci_1' := (BQ.out.cell (p := ⟨r.ib, r.io + t * 4 + 1, none⟩) hil).trans hci_1
     have hci_2' := (BQ.out.cell (p := ⟨r.ib, r.io + t * 4 + 2, none⟩) hil).trans hci_2
     have hci_3' := (BQ.out.cell (p := ⟨r.ib, r.io + t * 4 + 3, none⟩) hil).trans hci_3
     clear hci_0 hci_1 hci_2 hci_3 hcp_0 hcp_1 hcp_2 hcp_3
     have hl_bs := Hbs.out.lt
     have hl_bc := Hbc.out.lt
     have hl_bp := Hbp.out.lt
     refine wp_region_over (by kernel_rfl) (by kernel_rfl) ?_
     have hov_bs := fun (E : Over w4) o => E.cell (b := w.heap.size) o hl_bs
     have hov_bc := fun (E : Over w4) o => E.cell (b := wo.heap.size) o hl_bc
     have hov_bp := fun (E : Over w4) o => E.cell (b := wr.heap.size) o hl_bp
     have hov_r_ib := fun (E : Over w4) o => E.cell (b := r.ib) o hil'
     repeat (go_big_quiet_step (first | (go_at_call 110; exact calls_over (gSame_b G OK.out gb (numOf bb ^ (numOf x % G.q.m)) (numOf mm) q HQ.out _ (HG.out.up (Over.h _))))))
     all_goals (try unfold elV limbV)
     repeat (go_big_quiet_step (first | (go_at_call 110; exact calls_over (gSame_b G OK.out gb (numOf bb ^ (numOf x % G.q.m)) (numOf mm) q HQ.out _ (HG.out.up (Over.h _))))))
     all_goals (try unfold elV limbV)
     repeat (go_big_quiet_step (first | (go_at_call 110; exact calls_over (gSame_b G OK.out gb (numOf bb ^ (numOf x % G.q.m)) (numOf mm) q HQ.out _ (HG.out.up (Over.h _))))))
     all_goals (try unfold ciphV)
     refine wpQuiet_nil ?_
     rintro _ ⟨E, rfl⟩
     clear hov_bs hl_bs hov_bc hl_bc hov_bp hl_bp hov_r_ib bs_
     replace Hbs := Lib.hid (Hbs.out.up E.h)
     clear bc_
     replace Hbc := Lib.hid (Hbc.out.up E.h)
     clear bp_
     replace Hbp := Lib.hid (Hbp.out.up E.h)
     replace HG := Lib.hid (HG.out.up E.h)
     replace BL := hbu BL E.h
     replace BR := hbu BR E.h
     replace BI := hbu BI E.h
     replace BQ := hbu BQ E.h
     replace HB := hbu HB E.h
     replace HZS := sz HZS E.h.size
     obtain ⟨w5, hq9⟩ : ∃ W9 : World, E.w = W9 := ⟨_, rfl⟩
     rw [hq9] at Hbs Hbc Hbp HG BL BR BI BQ HB HZS ⊢
     clear hq9 E
     have bs_ := Hbs.out.c2
     have bc_ := Hbc.out.c3
     have bp_ := Hbp.out.c4
     cases q
     ·obtain rfl : b = false := by rw [← HBB.out]; exact HNO.out (HTO.out HQ.out)
      go_wp2_with fail
      go_ret
      exact ⟨rfl, HB.out⟩
     ·go_wp2_with fail
      go_roundw
      case rel => exact ⟨t + 1, by omega, by go_num, BI, HTN.out HQ.out⟩
      case measure => simp [intOf]; omega
    ·have htm' : t = r.k.bases.length := by omega
     subst htm'
     have HHT := Lib.hid (HSN.out (zalls_end rfl HAI.out))
     go_wp2_with fail
     go_roundw
     case rel => exact ⟨j + 1, by omega, by go_num, BL, HHT⟩
     case measure => simp [intOf]; omega
  ·have hjn' : j = n := by omega
   subst hjn'
   obtain rfl : b = true := by rw [← HBB.out]; exact zalls_end (by rw [List.length_map]; exact HRS.out) HAL.out
   go_wp2_with fail
   go_ret
   exact ⟨rfl, HB.out⟩
end Go.Proofs.Ytdlnnkbigeiilaa
namespace Go.Proofs.Ytdlnnkbigeiilaa
open Go.RowKit
def claim0 : ClaimA := ⟨none, 0, [], none, 0, []⟩
def valF (G : GP) (l : List ClaimA) (xs : List ByteArray) (i t : Nat) : Nat := numOf ((l.getD i claim0).bases.getD t ⟨#[]⟩) ^ (numOf (xs.getD i ⟨#[]⟩) % G.q.m)
def valB (G : GP) (y : Nat) (l : List ClaimA) (xs : List ByteArray) (i t : Nat) : Nat := valF G l xs i t * numOf ((l.getD i claim0).images.getD t ⟨#[]⟩) ^ (y % G.q.m)
theorem valF_eq (G : GP) {rs : List ClaimR} {xs : List ByteArray} {i t : Nat} (hi : i < rs.length) (hx : i < xs.length) (ht : t < rs[i].k.bases.length) : valF G (rs.map ClaimR.k) xs i t = numOf rs[i].k.bases[t] ^ (numOf xs[i] % G.q.m) := by
 unfold valF
 simp [List.getD, hi, hx, ht]
theorem valB_eq (G : GP) (y : Nat) {rs : List ClaimR} {xs : List ByteArray} {i t : Nat} (hi : i < rs.length) (hx : i < xs.length) (ht : t < rs[i].k.bases.length) (hti : t < rs[i].k.images.length) : valB G y (rs.map ClaimR.k) xs i t = numOf rs[i].k.bases[t] ^ (numOf xs[i] % G.q.m) * numOf rs[i].k.images[t] ^ (y % G.q.m) := by
 unfold valB
 rw [valF_eq G hi hx ht]
 simp [List.getD, hi, hti]
def lens (l : List ClaimA) : List Nat := l.map fun k => k.bases.length
theorem firsts_any (G : GP) (ok : G.Ok) (gb : Nat) (rs : List ClaimR) (n : Nat) (hrs : rs.length = n) (hn : n ≤ 64) (hm8 : ∀ r ∈ rs, r.k.bases.length ≤ 8) (a : Option Addr) (c : Nat) (xs : List ByteArray) (hxs : xs.length = n) (ax : Option Addr) (cx : Nat) (w : World) (hG : GroupAt w gb G) (hS : SetAt G w a rs) (hX : Sl w w.heap.size ax (xs.flatMap (limC G.q.m))) :
  Calls Try.prog 73 #[.agg #[.pointer (some ⟨gb, 0, none⟩), .slice a n c], .slice ax n cx] w (RowsF (eachA G (valF G (rs.map ClaimR.k) xs) (lens (rs.map ClaimR.k)) n) w) := by
 have HRS := Lib.hid hrs
 have HXS := Lib.hid hxs
 have HM8 := Lib.hid hm8
 have HG := Lib.hid hG
 have OK := Lib.hid ok
 have HS := Lib.hid hS
 have HX := Lib.hid hX
 have HML := Lib.hid (show rs.map (fun r => r.k.bases.length) = lens (rs.map ClaimR.k) by unfold lens; rw [List.map_map]; rfl)
 have HLG := Lib.hid (show ∀ i (hi : i < rs.length), (lens (rs.map ClaimR.k)).getD i 0 = rs[i].k.bases.length from fun i hi => by unfold lens; simp [List.getD, hi])
 clear hrs hxs hm8 hG ok hS hX
 go_enter Try.func73, Try.ntmps73
 go_wp2_with fail
 obtain ⟨w1, hq1, hb9, hz9, Hbs, Hbx⟩ := new2 w 121 [.pointer (some ⟨gb, 0, none⟩), .slice a n c] 117 [.slice ax n cx]
 rw [hq1]
 clear hq1
 replace HG := Lib.hid (HG.out.up hb9)
 have HB := Lib.hid hb9
 have HZS := hz9
 clear hb9 hz9
 have bs_ := Hbs.out.c2
 have bx_ := Hbx.out.c1
 go_wp2_with fail
 have HB9 := Lib.hid HB.out.size
 refine (eachFirst G OK.out gb rs n HRS.out hn (lens (rs.map ClaimR.k)) HML.out HM8.out a c _ _ (valF G (rs.map ClaimR.k) xs) w1 HG.out (HS.out.up HB.out) (fun w9 hb9 i t hi ht => by rw [HLG.out i (by rw [HRS.out]; exact hi)] at ht; rw [valF_eq G (by rw [HRS.out]; exact hi) (by rw [HXS.out]; exact hi) ht]; exact first1_any G OK.out gb _ _ rs n a c xs ax cx i t (by rw [HRS.out]; exact hi) (by rw [HXS.out]; exact hi) ht w9 (HG.out.up hb9) (HS.out.up (below_up HB.out hb9)) (HX.out.up (below_up HB.out hb9)) HRS.out HXS.out (Hbs.out.up hb9) (Hbx.out.up hb9))).mono ?_
 rintro e w2 ⟨hb9, a9, c9, ro, rfl, hm9, hr9, hz9⟩
 clear bs_
 replace Hbs := Lib.hid (Hbs.out.up hb9)
 clear bx_
 replace Hbx := Lib.hid (Hbx.out.up hb9)
 replace HG := Lib.hid (HG.out.up hb9)
 replace HB := hbu HB hb9
 replace HZS := sz HZS hb9.size
 have HMR := Lib.hid hm9
 clear hm9
 have HRR := Lib.hid hr9
 clear hr9
 have HZR := Lib.hid hz9
 clear hz9 hb9
 have bs_ := Hbs.out.c2
 have bx_ := Hbx.out.c1
 go_wp2_with fail
 go_ret
 exact ⟨HB.out, a9, c9, ro, rfl, HMR.out, HRR.out, fresh_le HZR.out HB9.out⟩
theorem back_any (G : GP) (ok : G.Ok) (gb y : Nat) (hy : y ≤ G.q.m) (rs : List ClaimR) (n : Nat) (hrs : rs.length = n) (hn : n ≤ 64) (hm8 : ∀ r ∈ rs, r.k.bases.length ≤ 8 ∧ r.k.images.length = r.k.bases.length) (a : Option Addr) (c : Nat) (xs : List ByteArray) (hxs : xs.length = n) (ax : Option Addr) (cx : Nat) (w : World) (hG : GroupAt w gb G) (hS : SetAt G w a rs) (hX : Sl w w.heap.size ax (xs.flatMap (limC G.q.m))) :
  Calls Try.prog 74 #[.agg #[.pointer (some ⟨gb, 0, none⟩), .slice a n c], scV G y, .slice ax n cx] w (RowsF (eachA G (valB G (G.q.m - y) (rs.map ClaimR.k) xs) (lens (rs.map ClaimR.k)) n) w) := by
 have HRS := Lib.hid hrs
 have HXS := Lib.hid hxs
 have HM8 := Lib.hid hm8
 have HG := Lib.hid hG
 have OK := Lib.hid ok
 have HS := Lib.hid hS
 have HX := Lib.hid hX
 have HY := Lib.hid hy
 have HML := Lib.hid (show rs.map (fun r => r.k.bases.length) = lens (rs.map ClaimR.k) by unfold lens; rw [List.map_map]; rfl)
 have HLG := Lib.hid (show ∀ i (hi : i < rs.length), (lens (rs.map ClaimR.k)).getD i 0 = rs[i].k.bases.length from fun i hi => by unfold lens; simp [List.getD, hi])
 clear hrs hxs hm8 hG ok hS hX hy
 unfold scV limbV
 go_enter Try.func74, Try.ntmps74
 go_wp2_with fail
 obtain ⟨w1, hq1, hb9, hz9, Hbs, Hbc, Hbx⟩ := new3 w 121 [.pointer (some ⟨gb, 0, none⟩), .slice a n c] 78 [.int .u64 (dig (mont G.q.m y) 0 : Int), .int .u64 (dig (mont G.q.m y) 1 : Int), .int .u64 (dig (mont G.q.m y) 2 : Int), .int .u64 (dig (mont G.q.m y) 3 : Int)] 117 [.slice ax n cx]
 rw [hq1]
 clear hq1
 replace HG := Lib.hid (HG.out.up hb9)
 have HB := Lib.hid hb9
 have HZS := hz9
 clear hb9 hz9
 have bs_ := Hbs.out.c2
 have bc_ := Hbc.out.c4
 have bx_ := Hbx.out.c1
 go_wp2_with fail
 refine (gNeg_any G OK.out gb y HY.out w1 HG.out).mono ?_
 rintro e w2 ⟨rfl, hb9⟩
 clear bs_
 replace Hbs := Lib.hid (Hbs.out.up hb9)
 clear bc_
 replace Hbc := Lib.hid (Hbc.out.up hb9)
 clear bx_
 replace Hbx := Lib.hid (Hbx.out.up hb9)
 replace HG := Lib.hid (HG.out.up hb9)
 replace HB := hbu HB hb9
 replace HZS := sz HZS hb9.size
 clear hb9
 have bs_ := Hbs.out.c2
 have bc_ := Hbc.out.c4
 have bx_ := Hbx.out.c1
 unfold scV limbV
 have o3_bs_ := bs_; clear bs_
 have o3_bc_ := bc_; clear bc_
 have o3_bx_ := bx_; clear bx_
 obtain ⟨w3, hq3, hb9, hz9, Hbm⟩ := new1 w2 78 [.int .u64 (dig (mont G.q.m (G.q.m - y)) 0 : Int), .int .u64 (dig (mont G.q.m (G.q.m - y)) 1 : Int), .int .u64 (dig (mont G.q.m (G.q.m - y)) 2 : Int), .int .u64 (dig (mont G.q.m (G.q.m - y)) 3 : Int)]
 replace Hbs := Lib.hid (Hbs.out.up hb9)
 replace Hbc := Lib.hid (Hbc.out.up hb9)
 replace Hbx := Lib.hid (Hbx.out.up hb9)
 replace HG := Lib.hid (HG.out.up hb9)
 replace HB := hbu HB hb9
 replace HZS := sz HZS hz9.out
 clear hb9 hz9
 have bs_ := Hbs.out.c2
 have bc_ := Hbc.out.c4
 have bx_ := Hbx.out.c1
 have bm_ := Hbm.out.c4
 go_wp2_with fail
 clear hq3 o3_bx_ o3_bc_ o3_bs_
 have HB9 := Lib.hid HB.out.size
 refine (eachBack G OK.out gb rs n HRS.out hn (lens (rs.map ClaimR.k)) HML.out (fun r hr => (HM8.out r hr).1) a c _ _ _ (valB G (G.q.m - y) (rs.map ClaimR.k) xs) w3 HG.out (HS.out.up HB.out) (fun w9 hb9 i t hi ht => by rw [HLG.out i (by rw [HRS.out]; exact hi)] at ht; have hti := (HM8.out _ (List.getElem_mem (show i < rs.length by rw [HRS.out]; exact hi))).2; rw [valB_eq G _ (by rw [HRS.out]; exact hi) (by rw [HXS.out]; exact hi) ht (by omega)]; exact back1_any G OK.out gb _ _ _ (G.q.m - y) rs n a c xs ax cx i t (by rw [HRS.out]; exact hi) (by rw [HXS.out]; exact hi) ht (by omega) w9 (HG.out.up hb9) (HS.out.up (below_up HB.out hb9)) (HX.out.up (below_up HB.out hb9)) HRS.out HXS.out (Hbs.out.up hb9) (Hbx.out.up hb9) (Hbm.out.up hb9))).mono ?_
 rintro e w4 ⟨hb9, a9, c9, ro, rfl, hm9, hr9, hz9⟩
 clear bs_
 replace Hbs := Lib.hid (Hbs.out.up hb9)
 clear bc_
 replace Hbc := Lib.hid (Hbc.out.up hb9)
 clear bx_
 replace Hbx := Lib.hid (Hbx.out.up hb9)
 clear bm_
 replace Hbm := Lib.hid (Hbm.out.up hb9)
 replace HG := Lib.hid (HG.out.up hb9)
 replace HB := hbu HB hb9
 replace HZS := sz HZS hb9.size
 have HMR := Lib.hid hm9
 clear hm9
 have HRR := Lib.hid hr9
 clear hr9
 have HZR := Lib.hid hz9
 clear hz9 hb9
 have bs_ := Hbs.out.c2
 have bc_ := Hbc.out.c4
 have bx_ := Hbx.out.c1
 have bm_ := Hbm.out.c4
 go_wp2_with fail
 go_ret
 exact ⟨HB.out, a9, c9, ro, rfl, HMR.out, HRR.out, fresh_le HZR.out HB9.out⟩
end Go.Proofs.Ytdlnnkbigeiilaa
namespace Go.Proofs.Ytdlnnkbigeiilaa
open Go.RowKit
end Go.Proofs.Ytdlnnkbigeiilaa
namespace Go.Proofs.Ytdlnnkbigeiilaa
open Go.RowKit
theorem isSc_lt' {G : GP} {s : ByteArray} (h : isSc G.q.m G.size s = true) : numOf s % G.q.m = numOf s ∧ numOf s < G.q.m := by
 unfold isSc at h
 simp only [Bool.and_eq_true, decide_eq_true_eq] at h
 exact ⟨Nat.mod_eq_of_lt h.2, h.2⟩
theorem T_numOf {k : Nat} (h1 : 1 ≤ k) (h3 : k ≤ 3) (x : Nat) : numOf (textS (lowN (grp k) x) (grp k).size) = lowN (grp k) x := T_num (grp_ok k h1 h3) (lowN_le (grp_ok k h1 h3) x) (grp_fits k h1 h3)
end Go.Proofs.Ytdlnnkbigeiilaa
namespace Go.Proofs.Ytdlnnkbigeiilaa
open Go.RowKit
end Go.Proofs.Ytdlnnkbigeiilaa
namespace Go.Proofs.Ytdlnnkbigeiilaa
open Go.RowKit
theorem zip_all {α β : Type} {f : α → β → Bool} {l : List α} {m : List β} (h : ∀ i (hl : i < l.length) (hm : i < m.length), f l[i] m[i] = true) : (List.zipWith f l m).all id = true := by
 rw [List.all_eq_true]
 intro x hx
 obtain ⟨i, hi, rfl⟩ := List.getElem_of_mem hx
 rw [List.getElem_zipWith]
 exact h i _ _
end Go.Proofs.Ytdlnnkbigeiilaa
namespace Go.Proofs.Ytdlnnkbigeiilaa
open Go.RowKit
structure ClaimB where
 bb : Nat
 ib : Nat
 s : ByteArray
 t : ByteArray
 u : ByteArray
 v : ByteArray
def ClaimB.a (c : ClaimB) : ClaimA := ⟨some ⟨c.bb, 0, none⟩, 2, [c.s, c.t], some ⟨c.ib, 0, none⟩, 2, [c.u, c.v]⟩
def ClaimB.x (c : ClaimB) : ByteArray × ByteArray × ByteArray × ByteArray := (c.s, c.t, c.u, c.v)
def ClaimB.cells (c : ClaimB) : List Value := [.slice (some ⟨c.bb, 0, none⟩) 2 2, .slice (some ⟨c.ib, 0, none⟩) 2 2]
structure ClaimB.At (w : World) (c : ClaimB) : Prop where
 b : Bx w c.bb 9 [.string c.s, .string c.t]
 i : Bx w c.ib 9 [.string c.u, .string c.v]
def ClaimsOff (v : Value) (N : Nat) (w : World) (cs : List ClaimB) : Prop := ∀ c ∈ cs, c.At w ∧ N ≤ c.bb ∧ N ≤ c.ib ∧ c.bb ≠ c.ib ∧ v.ownBlock ≠ some c.bb ∧ v.ownBlock ≠ some c.ib
theorem ClaimB.At.up {w w1 : World} {c : ClaimB} (h : c.At w) (hb : Below w.heap.size w w1) : c.At w1 := ⟨h.b.up hb, h.i.up hb⟩
theorem ClaimsOff.up {v : Value} {N : Nat} {w w1 : World} {cs : List ClaimB} (h : ClaimsOff v N w cs) (hb : Below w.heap.size w w1) : ClaimsOff v N w1 cs := fun c hc =>
 let ⟨h1, h2⟩ := h c hc
 ⟨h1.up hb, h2⟩
theorem ClaimsOff.push {v : Value} {N g n c : Nat} {w w1 : World} {cs : List ClaimB} {r : ClaimB} (h : ClaimsOff v N w cs) (hr : ClaimsOff v N w [r]) (hk : Kept (fun q => Value.ownBlock v = some q) w w1) (hf : Value.ownBlock v = some g ∨ w.heap.size ≤ g) : ClaimsOff (.slice (some ⟨g, 0, none⟩) n c) N w1 (cs ++ [r]) := fun s hs => by
 obtain ⟨h1, h2, h3, h4, h5, h6⟩ : s.At w ∧ N ≤ s.bb ∧ N ≤ s.ib ∧ s.bb ≠ s.ib ∧ v.ownBlock ≠ some s.bb ∧ v.ownBlock ≠ some s.ib := by
  rcases List.mem_append.1 hs with h9 | h9
  ·exact h s h9
  ·exact hr s h9
 have key : ∀ b, b < w.heap.size → v.ownBlock ≠ some b → (Value.slice (some ⟨g, 0, none⟩) n c).ownBlock ≠ some b := fun b hl hv e => by
  have e9 : g = b := Option.some.inj e
  rcases hf with hf | hf
  ·exact hv (by rw [hf, e9])
  ·omega
 exact ⟨⟨h1.b.keptP hk h5, h1.i.keptP hk h6⟩, h2, h3, h4, key _ h1.b.lt h5, key _ h1.i.lt h6⟩
theorem ClaimB.At.full {w : World} {c : ClaimB} (h : c.At w) : c.a.At w := by
 have key : ∀ (b : Nat) (s t : ByteArray), Bx w b 9 [.string s, .string t] → Sl w w.heap.size (some ⟨b, 0, none⟩) ([s, t].map Value.string) := fun b s t hb => Sl.of_bx hb
 exact ⟨key _ _ _ h.b, key _ _ _ h.i⟩
theorem made_cells (cs : List ClaimB) : (cs.map ClaimB.a).flatMap ClaimA.cells = cs.flatMap ClaimB.cells := by
 induction cs with
 | nil => rfl
 | cons c r ih => rw [List.map_cons, List.flatMap_cons, List.flatMap_cons, ih]; rfl
def madeT (G : GP) (o x : ByteArray) : ByteArray × ByteArray × ByteArray × ByteArray := (textS 2 G.size, o, textS (lowN G (2 ^ numOf x)) G.size, textS (lowN G (numOf o ^ numOf x)) G.size)
def MadeR (z : Bool) (L : List (ByteArray × ByteArray × ByteArray × ByteArray)) (w : World) (e : Ending) (w' : World) : Prop :=
 Below w.heap.size w w' ∧ ∃ (a : Option Addr) (c : Nat) (cs : List ClaimB), e = .returned (.slice a L.length c) ∧ cs.map ClaimB.x = L ∧ Sl w' w'.heap.size a (cs.flatMap ClaimB.cells) ∧ ClaimsOff (.slice a L.length c) w.heap.size w' cs ∧ (∀ x, a = some x → w.heap.size ≤ x.block) ∧ (z = true → a = none)
theorem infoClaimA : (Try.prog.info? 112).map (fun i => (i.zero, i.size, i.bytes)) = some (some (.agg #[.slice none 0 0, .slice none 0 0]), 2, 48) := by kernel_rfl
theorem madeR_none {z : Bool} {w w' : World} (h : Below w.heap.size w w') : MadeR z [] w (.returned (.slice none 0 0)) w' := ⟨h, none, 0, [], rfl, rfl, Or.inl rfl, (fun _ h => by cases h), (fun _ h => by cases h), fun _ => rfl⟩
theorem grp2 {k : Nat} (h1 : 1 ≤ k) (h3 : k ≤ 3) : isEl (grp k).q.m (grp k).size (textS 2 (grp k).size) = true ∧ numOf (textS 2 (grp k).size) = 2 := by
 have ok := grp_ok k h1 h3
 have := ok.odd
 exact ⟨T_el ok (grp_fits k h1 h3) (by decide) (by omega), T_num ok (by omega) (grp_fits k h1 h3)⟩
theorem powA {k : Nat} {a x : ByteArray} (ha : isEl (grp k).q.m (grp k).size a = true) (hx : isSc (grp k).q.m (grp k).size x = true) : powV (grp k) a x = textS (lowN (grp k) (numOf a ^ numOf x)) (grp k).size ∧ powE (grp k) a x = 0 := by
 unfold powV powE
 rw [ha, hx]
 exact ⟨rfl, rfl⟩
theorem powB {k : Nat} {a x : ByteArray} (ha : isEl (grp k).q.m (grp k).size a = true) (hx : isSc (grp k).q.m (grp k).size x = false) : powE (grp k) a x = 6 := by
 unfold powE
 rw [ha, hx]
 rfl
theorem made_none (k : Int) (hk : ¬ (1 ≤ k ∧ k ≤ 3)) (o : ByteArray) (v : Value) (w : World) : Calls Try.prog 28 #[.int .i64 k, .string o, v] w (MadeR true [] w) := by
 have HB0 := Lib.hid (fun w => Base_none k hk w)
 clear hk
 go_enter Try.func28, Try.ntmps28
 go_wp2_with fail
 refine (HB0.out w).mono ?_
 rintro e w1 ⟨rfl, hb9⟩
 have HB := Lib.hid hb9
 have HZS := Lib.hid hb9.size
 clear hb9
 go_wp2_with fail
 go_ret
 exact madeR_none HB.out
theorem made_elem (k : Nat) (h1 : 1 ≤ k) (h3 : k ≤ 3) (o : ByteArray) (ho : isEl (grp k).q.m (grp k).size o = false) (v : Value) (w : World) : Calls Try.prog 28 #[.int .i64 (k : Int), .string o, v] w (MadeR true [] w) := by
 have HB0 := Lib.hid (fun w => Base_some k h1 h3 w)
 have hm := fun w => Member_some k h1 h3 o w
 rw [ho] at hm
 have HM := Lib.hid hm
 clear hm ho
 go_enter Try.func28, Try.ntmps28
 go_wp2_with fail
 refine (HB0.out w).mono ?_
 rintro e w1 ⟨rfl, hb9⟩
 have HB := Lib.hid hb9
 have HZS := Lib.hid hb9.size
 clear hb9
 go_wp2_with fail
 refine (HM.out w1).mono ?_
 rintro e w2 ⟨rfl, hb9⟩
 replace HB := hbu HB hb9
 replace HZS := sz HZS hb9.size
 clear hb9
 go_wp2_with fail
 go_ret
 exact madeR_none HB.out
theorem made_some (k : Nat) (h1 : 1 ≤ k) (h3 : k ≤ 3) (o : ByteArray) (ho : isEl (grp k).q.m (grp k).size o = true) (xs : List ByteArray) (n : Nat) (hxn : xs.length = n) (ax : Option Addr) (cx : Nat) (hn : n ≤ 1000000000000) (b : Bool) (hb : xs.all (isSc (grp k).q.m (grp k).size) = b) (w : World) (hX : Sl w w.heap.size ax (xs.map Value.string)) :
  Calls Try.prog 28 #[.int .i64 (k : Int), .string o, .slice ax n cx] w (MadeR (!b) (if b = true then xs.map (madeT (grp k) o) else []) w) := by
 have HB0 := Lib.hid (fun w => Base_some k h1 h3 w)
 have hm := fun w => Member_some k h1 h3 o w
 rw [ho] at hm
 have HM := Lib.hid hm
 have HP1 := Lib.hid (fun x (hx : isSc (grp k).q.m (grp k).size x = true) w => by
  have h := Power_some k h1 h3 (textS 2 (grp k).size) x w
  rw [(powA (grp2 h1 h3).1 hx).1, (powA (grp2 h1 h3).1 hx).2, (grp2 h1 h3).2] at h
  exact h)
 have HP2 := Lib.hid (fun x (hx : isSc (grp k).q.m (grp k).size x = true) w => by
  have h := Power_some k h1 h3 o x w
  rw [(powA ho hx).1, (powA ho hx).2] at h
  exact h)
 have HP3 := Lib.hid (fun x (hx : isSc (grp k).q.m (grp k).size x = false) w => by
  have h := Power_some k h1 h3 (textS 2 (grp k).size) x w
  rw [powB (grp2 h1 h3).1 hx] at h
  exact h)
 have HP4 := Lib.hid (fun x w => Power_some k h1 h3 o x w)
 have HXN := Lib.hid hxn
 have HX := Lib.hid hX
 have HBB := Lib.hid hb
 have HTE0 := Lib.hid (fun x => (show madeT (grp k) o x = (textS 2 (grp k).size, o, textS (lowN (grp k) (2 ^ numOf x)) (grp k).size, textS (lowN (grp k) (numOf o ^ numOf x)) (grp k).size) from rfl))
 obtain ⟨tb, htb⟩ : ∃ t, textS 2 (grp k).size = t := ⟨_, rfl⟩
 rw [htb] at HB0 HP1 HP3
 simp only [htb] at HTE0
 obtain ⟨L, hL⟩ : ∃ L, (if b = true then xs.map (madeT (grp k) o) else []) = L := ⟨_, rfl⟩
 rw [hL]
 have HLF := Lib.hid (show b = false → L = [] from fun h => by rw [← hL, h]; rfl)
 have HLT := Lib.hid (show b = true → L = xs.map (madeT (grp k) o) from fun h => by rw [← hL, if_pos h])
 clear hm ho hxn hX hb hL htb
 go_enter Try.func28, Try.ntmps28
 go_wp2_with fail
 refine (HB0.out w).mono ?_
 rintro e w1 ⟨rfl, hb9⟩
 have HB := Lib.hid hb9
 have HZS := Lib.hid hb9.size
 clear hb9
 go_wp2_with fail
 refine (HM.out w1).mono ?_
 rintro e w2 ⟨rfl, hb9⟩
 replace HB := hbu HB hb9
 replace HZS := sz HZS hb9.size
 clear hb9
 have BL := Lib.hid (Below.refl w2.heap.size w2)
 have HBS := Lib.hid HB.out.size
 go_wp2_with fail
 go_loopw [31, 9] (fun i v wr => ∃ (j : Nat) (g : Option Addr) (c9 : Nat) (cs : List ClaimB), j ≤ n ∧ i = .int .i64 j ∧ v = .slice g j c9 ∧ Hid (cs.map ClaimB.x = (xs.take j).map (madeT (grp k) o)) ∧ Hid ((xs.take j).all (isSc (grp k).q.m (grp k).size) = true) ∧ Hid (Below w2.heap.size w2 wr) ∧ Hid (RowO w2.heap.size wr 112 2 (.slice g j c9) j (cs.flatMap ClaimB.cells)) ∧ Hid (ClaimsOff (.slice g j c9) w2.heap.size wr cs)) (fun i _ _ => n - (intOf i).toNat)
 case atStart => exact ⟨0, none, 0, [], Nat.zero_le _, rfl, rfl, rfl, rfl, BL, RowO.nil, fun _ h => by cases h⟩
 case round =>
  obtain ⟨j, g, c9, cs, hj, rfl, rfl, HCM, HAL, HL9, Hr, HCN⟩ := hrel
  have hb9 := HL9.out
  clear HL9
  replace BL := hbu BL hb9
  replace HB := hbu HB hb9
  replace HZS := sz HZS hb9.size
  clear hb9
  have BR := Lib.hid (Below.refl wr.heap.size wr)
  have hro := Hr.out.lt
  by_cases hjn : j < n
  ·have hjx : j < xs.length := by rw [HXN.out]; exact hjn
   obtain ⟨bx, ox, rfl, hbx, hcx⟩ := (HX.out.up HB.out).at j (by simpa using hjx)
   rw [List.getElem_map] at hcx
   have HTK := Lib.hid (List.take_succ_eq_append_getElem hjx)
   have HALS := Lib.hid (fun h => all_snoc (f := isSc (grp k).q.m (grp k).size) hjx HAL.out h)
   have HALN := Lib.hid (fun h => all_not (f := isSc (grp k).q.m (grp k).size) hjx h)
   generalize xs[j] = x at *
   obtain ⟨bj, hbj⟩ : ∃ b, isSc (grp k).q.m (grp k).size x = b := ⟨_, rfl⟩
   have HBJ := Lib.hid hbj
   clear hbj
   cases bj
   ·obtain rfl : b = false := by rw [← HBB.out]; exact HALN.out HBJ.out
    obtain rfl := HLF.out rfl
    obtain ⟨pv, hpv⟩ : ∃ v, powV (grp k) o x = v := ⟨_, rfl⟩
    obtain ⟨pe, hpe⟩ : ∃ v, powE (grp k) o x = v := ⟨_, rfl⟩
    have h4 := HP4.out x
    rw [hpv, hpe] at h4
    have HP5 := Lib.hid h4
    obtain ⟨pw, hpw⟩ : ∃ v, powV (grp k) tb x = v := ⟨_, rfl⟩
    have h3' := HP3.out x HBJ.out
    rw [hpw] at h3'
    have HP6 := Lib.hid h3'
    clear h4 h3' hpv hpe hpw HP4 HP3
    go_wp2_with fail
    refine (HP6.out wr).mono ?_
    rintro e w3 ⟨rfl, hb9⟩
    replace Hr := Lib.hid (Hr.out.up hb9)
    replace BL := hbu BL hb9
    replace BR := hbu BR hb9
    replace HB := hbu HB hb9
    replace HZS := sz HZS hb9.size
    clear hb9
    go_wp2_with fail
    refine (HP5.out w3).mono ?_
    rintro e w4 ⟨rfl, hb9⟩
    replace Hr := Lib.hid (Hr.out.up hb9)
    replace BL := hbu BL hb9
    replace BR := hbu BR hb9
    replace HB := hbu HB hb9
    replace HZS := sz HZS hb9.size
    clear hb9
    go_wp2_with fail
    go_ret
    exact madeR_none HB.out
   ·have HT := Lib.hid (HALS.out HBJ.out)
    have HQ1 := Lib.hid (HP1.out x HBJ.out)
    have HQ2 := Lib.hid (HP2.out x HBJ.out)
    have HTE := Lib.hid (HTE0.out x)
    obtain ⟨tu, htu⟩ : ∃ t, textS (lowN (grp k) (2 ^ numOf x)) (grp k).size = t := ⟨_, rfl⟩
    obtain ⟨tv, htv⟩ : ∃ t, textS (lowN (grp k) (numOf o ^ numOf x)) (grp k).size = t := ⟨_, rfl⟩
    rw [htu] at HQ1 HTE
    rw [htv] at HQ2 HTE
    clear htu htv
    go_wp2_with fail
    refine (HQ1.out wr).mono ?_
    rintro e w3 ⟨rfl, hb9⟩
    replace Hr := Lib.hid (Hr.out.up hb9)
    replace BL := hbu BL hb9
    replace BR := hbu BR hb9
    replace HB := hbu HB hb9
    replace HZS := sz HZS hb9.size
    clear hb9
    go_wp2_with fail
    refine (HQ2.out w3).mono ?_
    rintro e w4 ⟨rfl, hb9⟩
    replace Hr := Lib.hid (Hr.out.up hb9)
    replace BL := hbu BL hb9
    replace BR := hbu BR hb9
    replace HB := hbu HB hb9
    replace HZS := sz HZS hb9.size
    clear hb9
    obtain ⟨w5, hq5, hb9, hz9, Hbb, Hbi⟩ := new2 w4 9 [.string tb, .string o] 9 [.string tu, .string tv]
    replace Hr := Lib.hid (Hr.out.up hb9)
    replace BL := hbu BL hb9
    replace BR := hbu BR hb9
    replace HB := hbu HB hb9
    replace HZS := sz HZS hz9.out
    clear hb9 hz9
    have bb_ := Hbb.out.c2
    have bi_ := Hbi.out.c2
    have HOFF := Lib.hid (HCN.out.up BR.out)
    have HONE := Lib.hid (show ClaimsOff (.slice g j c9) w2.heap.size w5 [⟨w4.heap.size, w4.heap.size + 1, tb, o, tu, tv⟩] from fun s hs => by
     obtain rfl := List.mem_singleton.1 hs
     have g1 := BR.out.size
     have g2 := BL.out.size
     exact ⟨⟨Hbb.out, Hbi.out⟩, by show _ ≤ w4.heap.size; have q1 := HZS.out; have q2 := HZS.out; have q3 := HZS.out; omega, by show _ ≤ w4.heap.size + 1; have q1 := HZS.out; have q2 := HZS.out; have q3 := HZS.out; omega, by show w4.heap.size ≠ w4.heap.size + 1; omega, fun e => by have a1 := hro _ e; have a2 : w4.heap.size < wr.heap.size := a1.2; have q1 := HZS.out; have q2 := HZS.out; have q3 := HZS.out; omega, fun e => by have a1 := hro _ e; have a2 : w4.heap.size + 1 < wr.heap.size := a1.2; have q1 := HZS.out; have q2 := HZS.out; have q3 := HZS.out; omega⟩)
    have HKP := Lib.hid (Kept.refl (fun q9 => Value.ownBlock (.slice g j c9) = some q9) w5)
    obtain ⟨i9, hi9, hz90, hz91, hz92⟩ := info_parts infoClaimA
    go_wp2_with (at_builtin; refine wpList_pushF (w2.heap.size) w5 (by have g0 := HZS.out; omega) rfl _ _ 56 rfl 112 i9 _ 2 48 Try.underlying56 hi9 hz90 hz91 hz92 rfl (by omega) ((.slice g j c9)) (j) ((cs.flatMap ClaimB.cells)) rfl Hr.out _ _ _ rfl rfl rfl (by simp [Value.oneCell']) (by omega) (by unfold maxLen; omega) ?_)
    intro g6 c6 w6 hown9 hg9 hf9
    clear hq5 bb_ bi_ Hbb Hbi
    have hb9 := Below.grown HB.out hg9 (by have g0 := HZS.out; omega) (fun q hq => Nat.le_trans (show w.heap.size ≤ w2.heap.size by have g0 := HZS.out; omega) (Hr.out.lt q hq).1)
    replace BL := Lib.hid (Below.grown BL.out hg9 (by have g0 := HZS.out; omega) (fun q hq => Nat.le_trans (show w2.heap.size ≤ w2.heap.size by have g0 := HZS.out; omega) (Hr.out.lt q hq).1))
    replace HKP := Lib.hid (Kept.grown HKP.out hg9 (fun q hq => Or.inr hq))
    replace HZS := sz HZS hg9.size
    clear Hr HB
    have Hr := Lib.hid hown9
    have HB := Lib.hid hb9
    clear hb9 hown9 hg9 hi9 hz90 hz91 hz92
    have HRP := Lib.hid (fun (n9 c9 : Nat) => ClaimsOff.push (n := n9) (c := c9) HOFF.out HONE.out HKP.out hf9)
    go_wp2_with fail
    go_roundw
    case rel => exact ⟨j + 1, _, _, _, by omega, by go_num, rfl, Lib.hid (by rw [List.map_append, HCM.out, HTK.out, List.map_append, show [x].map (madeT (grp k) o) = [madeT (grp k) o x] from rfl, HTE.out]; rfl), HT, BL, Hr.out.eq (by rw [List.flatMap_append]; simp [ClaimB.cells]) rfl, HRP.out _ _⟩
    case measure => simp [intOf]; omega
  ·have hjn' : j = n := by omega
   subst hjn'
   obtain rfl : b = true := by rw [← HBB.out]; have h9 := HAL.out; rwa [List.take_of_length_le (by rw [HXN.out]; exact Nat.le_refl _)] at h9
   have HCM2 := Lib.hid (show cs.map ClaimB.x = xs.map (madeT (grp k) o) by have h9 := HCM.out; rwa [List.take_of_length_le (by rw [HXN.out]; exact Nat.le_refl _)] at h9)
   obtain rfl := HLT.out rfl
   go_wp2_with fail
   go_ret
   exact ⟨HB.out, g, c9, cs, by rw [List.length_map, HXN.out]; rfl, HCM2.out, Hr.out.sl, by rw [List.length_map, HXN.out]; exact fun s hs => let ⟨h1, h2, h3, h4⟩ := HCN.out s hs; ⟨h1, Nat.le_trans HBS.out h2, Nat.le_trans HBS.out h3, h4⟩, fun x hx => Nat.le_trans HBS.out (RowO.own_le Hr.out hx), fun h => by cases h⟩
end Go.Proofs.Ytdlnnkbigeiilaa
namespace Go.Proofs.Ytdlnnkbigeiilaa
open Go.RowKit
theorem made_at {G : GP} {o : ByteArray} {xs : List ByteArray} {cs : List ClaimB} (h : cs.map ClaimB.x = xs.map (madeT G o)) : cs.length = xs.length ∧ ∀ i (hc : i < cs.length) (hx : i < xs.length),
  cs[i].s = textS 2 G.size ∧ cs[i].t = o ∧ cs[i].u = textS (lowN G (2 ^ numOf xs[i])) G.size ∧ cs[i].v = textS (lowN G (numOf o ^ numOf xs[i])) G.size := by
 have hl : cs.length = xs.length := by have := congrArg List.length h; simpa using this
 refine ⟨hl, fun i hc hx => ?_⟩
 have e : (cs.map ClaimB.x)[i]? = (xs.map (madeT G o))[i]? := by rw [h]
 rw [List.getElem?_map, List.getElem?_map, List.getElem?_eq_getElem hc, List.getElem?_eq_getElem hx] at e
 have e := Option.some.inj e
 unfold ClaimB.x madeT at e
 simp only [Prod.mk.injEq] at e
 exact e
end Go.Proofs.Ytdlnnkbigeiilaa
