/- The program's cover, as a list of its own. No condition. -/
import Derived.Test.YtbjhcpchljjmhaaCoverWalk
namespace Go.Proofs.Ytbjhcpchljjmhaa
open Go.RowKit

attribute [local go_sem] Oper.semAt_some

theorem Boxed_putObj {W : World} {B : Nat} {t : TypeId} {v : Value} (h : Boxed W B t v) {l : Nat} {o : Obj} (o' : Obj) (hl : W.heap[l]? = some o) (ho : o.isCells = false) : Boxed (W.putObj l o') B t v := by
  refine h.kept (grownBy_putObj' W l o') (fun e => ?_)
  cases e
  rw [show W.heap[B]? = _ from h] at hl
  cases hl
  cases ho
theorem Boxed_setOther {W : World} {B c : Nat} {t : TypeId} {v : Value} (h : Boxed W B t v) (hne : B ≠ c) (v' : Value) : Boxed (W.setCell ⟨c, 0, none⟩ v') B t v :=
  h.kept (grownBy_setCell' W c v') (fun e => hne (by cases e; rfl))

def Gathered (n0 B c h : Nat) (w : World) (hi : Nat) (s : List (Int × Int)) (v : Value) (W : World) : Prop :=
  (∃ u, Boxed W B 35 u ∧ W.ownsRow B 39 2 u s.length (flat s)) ∧ Boxed W c 3 v ∧ Boxed W h 3 (.int .i64 hi) ∧ Below n0 w W

theorem Gathered.alloc {n0 B c h : Nat} {w : World} {hi : Nat} {s : List (Int × Int)} {v : Value} {W : World} (g : Gathered n0 B c h w hi s v W) (hn : n0 ≤ w.heap.size) (o : Obj) : Gathered n0 B c h w hi s v (W.alloc o) := by
  obtain ⟨⟨u, b1, r⟩, b2, b3, b4⟩ := g
  exact ⟨⟨u, b1.alloc o, r.alloc o⟩, b2.alloc o, b3.alloc o, b4.alloc (Nat.le_trans hn b4.size) o⟩
theorem Gathered.put {n0 B c h : Nat} {w : World} {hi : Nat} {s : List (Int × Int)} {v : Value} {W : World} (g : Gathered n0 B c h w hi s v W) (hn : n0 ≤ w.heap.size) {l : Nat} {o : Obj} (o' : Obj) (hl : W.heap[l]? = some o) (ho : o.isCells = false) (hln : n0 ≤ l) : Gathered n0 B c h w hi s v (W.putObj l o') := by
  obtain ⟨⟨u, b1, r⟩, b2, b3, b4⟩ := g
  exact ⟨⟨u, Boxed_putObj b1 o' hl ho, ownsRow_putObj r o' hl ho⟩, Boxed_putObj b2 o' hl ho, Boxed_putObj b3 o' hl ho, b4.grown (grownBy_putObj' W l o') (Nat.le_trans hn b4.size) (fun k e => by cases e; exact hln)⟩
theorem Gathered.set {n0 B c h : Nat} {w : World} {hi : Nat} {s : List (Int × Int)} {v : Value} {W : World} (g : Gathered n0 B c h w hi s v W) (h0 : n0 ≤ c) (hcB : c < B) (hch : c ≠ h) (v' : Value) : Gathered n0 B c h w hi s v' (W.setCell ⟨c, 0, none⟩ v') := by
  obtain ⟨⟨u, b1, r⟩, b2, b3, b4⟩ := g
  refine ⟨⟨u, Boxed_setOther b1 (by omega) v', r.kept (grownBy_setCell' W c v') ?_⟩, b2.set v', Boxed_setOther b3 (Ne.symm hch) v', b4.setCell h0 v'⟩
  cases e : u.ownBlock with
  | none => exact Or.inl rfl
  | some q =>
    refine Or.inr (fun e' => ?_)
    have := (r.lt q e).1
    cases e'
    omega

theorem infoSpan : (Try.prog.info? 39).map (fun i => (i.zero, i.size, i.bytes)) = some (some (.agg #[.int .i64 0, .int .i64 0]), 2, 16) := by kernel_rfl

set_option maxRecDepth 100000 in
set_option maxHeartbeats 2000000 in
theorem appendSeq_in (n0 c h lo hi : Nat) (hle : lo ≤ hi) (hhi : hi ≤ 1048576) (w : World) (hb1 : Boxed w c 3 (.int .i64 lo)) (hb2 : Boxed w h 3 (.int .i64 hi)) (hch : c ≠ h) (h0 : n0 ≤ c) :
    CallsIn Fence.wide 6 Try.prog 40 #[.slice none 0 0, .func (.func 41) #[] #[.pointer (some ⟨c, 0, none⟩), .pointer (some ⟨h, 0, none⟩)]] w fun e w' =>
      ∃ v, e = .returned v ∧ w'.ownsRow w.heap.size 39 2 v (cover lo hi).length (flat (cover lo hi)) ∧ Below n0 w w' := by
  have hlen := cover_length lo hi
  obtain ⟨i0, hi0, hz0, hz1, hz2⟩ := info_parts infoSpan
  have hcl := hb1.lt
  refine callsIn_of_wp_marks Try.func40 rfl trivial ?_ rfl
  simp only [Try.ntmps40, List.size_toArray, List.length_cons, List.length_nil, Nat.reduceAdd, Nat.reduceSub, Array.replicate_succ, Array.replicate_zero, List.push_toArray, List.append_toArray, List.nil_append, List.cons_append]
  gi_wp2
  have hn0 : n0 ≤ w.heap.size := by omega
  have hlt2 := hb2.lt
  refine range_rounds rfl (by decide) (gf := 41) (lb := #[.pointer (some ⟨c, 0, none⟩), .pointer (some ⟨h, 0, none⟩)]) rfl trivial (enters_of Try.func41 (by kernel_rfl) rfl)
    (encs := fun x => #[spanV x]) (fun _ => rfl) c (cover lo hi) (.int .i64 lo) (Gathered n0 w.heap.size c h w hi) (fun v W => Boxed W c 3 v ∧ Boxed W h 3 (.int .i64 hi)) (fun s v W g => ⟨g.2.1, g.2.2.1⟩)
    (fun s v W l o o' hl ho hc g => g.put hn0 o' ho hc (by simp at hl; omega)) (fun s v W o g => g.alloc hn0 o) (fun s v v' W g => g.set h0 hcl hch v')
    ⟨⟨_, Boxed.new w _ _, World.ownsRow_nil _ _ _ _⟩, hb1.alloc _, hb2.alloc _, (Below.refl _ _).alloc hn0 _⟩ ?round ?iter ?done
  case iter =>
    intro l J W hRd hset hY hJ0
    exact blocks1_in _ (by decide) l c h lo hi hle hhi J hRd hset hY W hJ0
  case done =>
    intro D v W hD g hK
    obtain ⟨⟨u, b1, r⟩, b2, b3, b4⟩ := g
    have hcell := b1.cell
    gi_wp2
    refine ⟨by simp, .inl ⟨_, _, rfl, run_takeDeferred hK, ?_⟩⟩
    exact ⟨_, results_tmp rfl _ _ _, u, rfl, ownsRow_putObj r _ hK rfl, b4.grown (grownBy_putObj' W D _) (Nat.le_trans hn0 b4.size) (fun k e => by cases e; simp at hD; omega)⟩
  case round =>
    rintro l s ⟨x1, x2⟩ v W hl hpre g
    unfold spanV
    have hsl : s.length < (cover lo hi).length := by have := hpre.length_le; simp at this; omega
    gi_wp2
    refine ⟨KeepsOthers.alloc _ _, fun r o' hr => ?_⟩
    have hnl : W.heap.size ≠ l := by
      intro e
      subst e
      rw [World.alloc_heap_new] at hr
      cases hr
    have g2 := (g.alloc hn0 (.cells #[.int .i64 x1, .int .i64 x2] 39)).put hn0 o' hr rfl (by simp at hl; omega)
    have hx : ((W.alloc (.cells #[.int .i64 x1, .int .i64 x2] 39)).putObj l o').heap[W.heap.size]? = some (.cells #[.int .i64 x1, .int .i64 x2] 39 (0, 0)) :=
      (World.putObj_heap_other hnl).trans (World.alloc_heap_new W _)
    generalize (W.alloc (.cells #[.int .i64 x1, .int .i64 x2] 39)).putObj l o' = W2 at *
    have hx0 : W2.cell? ⟨W.heap.size, 0, none⟩ = some (.int .i64 x1) := by simp [World.cell?, hx]
    have hx1 : W2.cell? ⟨W.heap.size, 1, none⟩ = some (.int .i64 x2) := by simp [World.cell?, hx]
    obtain ⟨⟨u, b1, r1⟩, b2, b3, b4⟩ := g2
    have hcell := b1.cell
    have G := Lib.hid (And.intro b1 (And.intro r1 (And.intro b2 (And.intro b3 b4))))
    have hBW : w.heap.size ≤ W2.heap.size := b4.size
    clear hx hr g b1 r1 b2 b3 b4
    gi_wp2_with (gi_at_builtin; refine wpListIn_append_own _ rfl _ _ 35 rfl w.heap.size 39 i0 _ 2 16 Try.underlying35 hi0 hz0 hz1 hz2 rfl (by decide) u s.length (flat s) rfl (G.out.2.1.alloc _) ⟨W2.heap.size, 0, none⟩ 1 1 [.int .i64 x1, .int .i64 x2] rfl rfl (World.news_of_block (heap_alloc_new W2 _)) (by simp [Value.oneCell']) (by unfold maxLen; omega) (by omega) (by simp; omega) ?_; intro v' w1 hown' hgrow _; obtain ⟨g', cap', rfl⟩ := ownsRow_succ hown'; obtain ⟨hv1, hv2, hr2, hk2, hb2⟩ := G.out.1.appended (by decide) G.out.2.1 hBW (Nat.le_refl _) hown' hgrow; have hc1 := hv1.cell; have hf1 := hv1.frozen)
    have e1 : (s ++ [(x1, x2)]).length = s.length + 1 := by simp
    have e2 : flat (s ++ [(x1, x2)]) = flat s ++ [.int .i64 x1, .int .i64 x2] := by simp [flat]
    refine ⟨hk2, ⟨_, hv2, by rw [e1, e2]; exact hr2⟩, (hb2.block c hcl).trans G.out.2.2.1, (hb2.block h hlt2).trans G.out.2.2.2.1, G.out.2.2.2.2.trans (hb2.mono hn0)⟩

set_option maxRecDepth 100000 in
set_option maxHeartbeats 1000000 in
theorem collect_any (n0 c h lo hi : Nat) (hle : lo ≤ hi) (hhi : hi ≤ 1048576) (w : World) (hb1 : Boxed w c 3 (.int .i64 lo)) (hb2 : Boxed w h 3 (.int .i64 hi)) (hch : c ≠ h) (h0 : n0 ≤ c) :
    Calls Try.prog 28 #[.func (.func 41) #[] #[.pointer (some ⟨c, 0, none⟩), .pointer (some ⟨h, 0, none⟩)]] w fun e w' =>
      ∃ v, e = .returned v ∧ w'.ownsRow w.heap.size 39 2 v (cover lo hi).length (flat (cover lo hi)) ∧ Below n0 w w' := by
  have h := callsIn_wide.1 (appendSeq_in n0 c h lo hi hle hhi w hb1 hb2 hch h0)
  go_enter Try.func28, Try.ntmps28
  go_wp2_with fail
  refine h.mono ?_
  rintro e w1 ⟨v, rfl, hr, hb⟩
  go_wp2_with fail
  go_ret
  exact ⟨v, rfl, hr, hb⟩

/-- A cover that the call has made. -/
structure MadeS (w w' : World) (v : Value) (gs : List (Int × Int)) : Prop where
  own : w'.ownsRow 0 39 2 v gs.length (flat gs)
  new_ : ∀ q, v.ownBlock = some q → w.heap.size ≤ q
  below : Below w.heap.size w w'

def CoverPost (w : World) (lo hi : Int) (e : Ending) (w' : World) : Prop :=
  if 0 ≤ lo ∧ lo ≤ hi ∧ hi ≤ 1048576 then ∃ v, e = .returned (.tuple #[v, .int .i64 0]) ∧ MadeS w w' v (cover lo.toNat hi.toNat)
  else e = .returned (.tuple #[.slice none 0 0, .int .i64 4]) ∧ Below w.heap.size w w'

set_option maxHeartbeats 1000000 in
theorem boardGood_any (lo hi : Int) (w : World) : Calls Try.prog 27 #[.int .i64 lo, .int .i64 hi, .int .i64 1048576] w fun e w' => e = .returned (.bool (decide (0 ≤ lo ∧ lo ≤ hi ∧ hi ≤ 1048576))) ∧ w' = w := by
  by_cases h1 : 0 ≤ lo <;> by_cases h2 : lo ≤ hi <;> by_cases h3 : hi ≤ 1048576 <;>
    (go_enter Try.func27, Try.ntmps27
     go_wp2
     go_ret
     exact ⟨ret_bool (by simp [h1, h2, h3]), rfl⟩)

set_option maxHeartbeats 1000000 in
theorem blocks_any (lo hi : Int) (w : World) : Calls Try.prog 29 #[.int .i64 lo, .int .i64 hi] w fun e w' =>
    e = .returned (.func (.func 41) #[] #[.pointer (some ⟨w.heap.size, 0, none⟩), .pointer (some ⟨w.heap.size + 1, 0, none⟩)]) ∧ w' = (w.alloc (.cells #[.int .i64 lo] 3)).alloc (.cells #[.int .i64 hi] 3) := by
  go_enter Try.func29, Try.ntmps29
  go_wp2
  go_ret
  exact ⟨rfl, rfl⟩

theorem ownsRow_down {W : World} {base base' : Nat} {e : TypeId} {size : Nat} {v : Value} {k : Nat} {xs : List Value} (h : W.ownsRow base e size v k xs) (hb : base' ≤ base) : W.ownsRow base' e size v k xs := by
  refine ⟨h.1, ?_⟩
  rcases h.2 with h0 | ⟨g, cap, cur, hv, hg, rest⟩
  · exact Or.inl h0
  · exact Or.inr ⟨g, cap, cur, hv, Nat.le_trans hb hg, rest⟩

set_option maxHeartbeats 1000000 in
theorem Cover_any (lo hi : Int) (w : World) : Calls Try.prog 12 #[.int .i64 lo, .int .i64 hi] w (CoverPost w lo hi) := by
  by_cases hg : 0 ≤ lo ∧ lo ≤ hi ∧ hi ≤ 1048576
  · obtain ⟨l, rfl⟩ : ∃ l : Nat, lo = l := ⟨lo.toNat, by omega⟩
    obtain ⟨r, rfl⟩ : ∃ r : Nat, hi = r := ⟨hi.toNat, by omega⟩
    have hd : decide ((0 : Int) ≤ (l : Int) ∧ (l : Int) ≤ (r : Int) ∧ (r : Int) ≤ 1048576) = true := decide_eq_true hg
    have HD := Lib.hid hd
    clear hd
    go_enter Try.func12, Try.ntmps12
    go_wp2_with fail
    refine (boardGood_any l r w).mono ?_
    rintro e w1 ⟨rfl, rfl⟩
    rw [HD.out]
    go_wp2_with fail
    refine (blocks_any l r w1).mono ?_
    rintro e w2 ⟨rfl, hw2⟩
    have hb1 : Boxed w2 w1.heap.size 3 (.int .i64 l) := by rw [hw2]; exact (Boxed.new w1 _ _).alloc _
    have hb2 : Boxed w2 (w1.heap.size + 1) 3 (.int .i64 r) := by
      rw [hw2]
      have h := Boxed.new (w1.alloc (.cells #[.int .i64 l] 3)) 3 (.int .i64 r)
      rwa [World.size_alloc] at h
    have hbl : Below w1.heap.size w1 w2 := by rw [hw2]; exact ((Below.refl _ _).alloc (Nat.le_refl _) _).alloc (by simp) _
    have HB1 := Lib.hid hb1
    have HB2 := Lib.hid hb2
    have HBL := Lib.hid hbl
    clear hb1 hb2 hbl hw2
    go_wp2_with fail
    refine (collect_any w1.heap.size w1.heap.size (w1.heap.size + 1) l r (by omega) (by omega) w2 HB1.out HB2.out (by omega) (Nat.le_refl _)).mono ?_
    rintro e w3 ⟨v, rfl, hr, hb⟩
    have fin : CoverPost w1 l r (.returned (.tuple #[v, .int .i64 0])) w3 := by
      unfold CoverPost
      rw [if_pos hg]
      exact ⟨v, rfl, by simpa using ownsRow_down hr (Nat.zero_le _), fun q e => Nat.le_trans HBL.out.size (hr.lt q e).1, HBL.out.trans hb⟩
    clear hr hb
    go_wp2_with fail
    go_ret2
    exact fin
  · have hd : decide (0 ≤ lo ∧ lo ≤ hi ∧ hi ≤ 1048576) = false := decide_eq_false hg
    have HD := Lib.hid hd
    clear hd
    go_enter Try.func12, Try.ntmps12
    go_wp2_with fail
    refine (boardGood_any lo hi w).mono ?_
    rintro e w1 ⟨rfl, rfl⟩
    rw [HD.out]
    go_wp2_with fail
    go_ret2
    unfold CoverPost
    rw [if_neg hg]
    exact ⟨rfl, Below.refl _ _⟩

end Go.Proofs.Ytbjhcpchljjmhaa
