/- The program's network of a mix: halves, gates, wires, plan. Condition: lists of at most 4,096 wires. -/
import Derived.Test.YtbjhcpchljjmhaaNetBase
namespace Go.Proofs.Ytbjhcpchljjmhaa
open Go.RowKit

/-- A list of integers that the call has made: its value, and that it lies in new memory. -/
structure Made (w w' : World) (v : Value) (xs : List Int) : Prop where
  own : w'.ownsRow 0 3 1 v xs.length (xs.map (Value.int .i64))
  new_ : ∀ q, v.ownBlock = some q → w.heap.size ≤ q

def HalvesPost (w : World) (xs : List Int) (e : Ending) (w' : World) : Prop :=
  ∃ u l, e = .returned (.tuple #[u, l]) ∧ Made w w' u (upper xs) ∧ Made w w' l (lower xs) ∧ Below w.heap.size w w'

theorem upTo_succ (n : Nat) (xs : List Int) (j : Nat) : upTo n xs (j + 1) = upTo n xs j ++ if isUp n j then [xs.getD j 0] else [] := rfl
theorem lowTo_succ (n : Nat) (xs : List Int) (j : Nat) : lowTo n xs (j + 1) = lowTo n xs j ++ if isUp n j then [] else [xs.getD j 0] := rfl

/-- One of the two lists gets one more; the other is as it was. -/
theorem halves_up {w wr w1 : World} {u l : Value} {U V : List Int} {x : Int} {g gc : Nat} (_hu : wr.ownsRow 0 3 1 u U.length (U.map (Value.int .i64))) (hl : wr.ownsRow 0 3 1 l V.length (V.map (Value.int .i64)))
    (ha : Apart u l) (hn : (∀ q, u.ownBlock = some q → w.heap.size ≤ q) ∧ (∀ q, l.ownBlock = some q → w.heap.size ≤ q)) (hb : Below w.heap.size w wr)
    (hown : w1.ownsRow 0 3 1 (.slice (some ⟨g, 0, none⟩) (U.length + 1) gc) (U.length + 1) (U.map (Value.int .i64) ++ [.int .i64 x])) (hp : Pushed wr w1 u g) :
    w1.ownsRow 0 3 1 (.slice (some ⟨g, 0, none⟩) (U.length + 1) gc) (U ++ [x]).length ((U ++ [x]).map (Value.int .i64)) ∧ w1.ownsRow 0 3 1 l V.length (V.map (Value.int .i64)) ∧
      Apart (.slice (some ⟨g, 0, none⟩) (U.length + 1) gc) l ∧
      (∀ q, (Value.slice (some ⟨g, 0, none⟩) (U.length + 1) gc).ownBlock = some q → w.heap.size ≤ q) ∧ (∀ q, l.ownBlock = some q → w.heap.size ≤ q) ∧ Below w.heap.size w w1 :=
  ⟨by simpa using hown, hp.keep hl ha, hp.apart hl ha, hp.from_ hb.size hn.1, hn.2, hp.below hb hb.size hn.1⟩

set_option maxHeartbeats 2000000 in
theorem halves_any (a : Option Addr) (cap : Nat) (xs : List Int) (w : World) (hs : Sl w w.heap.size a (xs.map (Value.int .i64))) (hn : xs.length ≤ 4096) :
    Calls Try.prog 48 #[.slice a xs.length cap] w (HalvesPost w xs) := by
  obtain ⟨i0, hi, hz0, hz1, hz2⟩ := info_parts infoInt
  have HS := Lib.hid hs
  clear hs
  go_enter Try.func48, Try.ntmps48
  go_wp2
  go_loopw [2, 3, 12] (fun u l i wr => ∃ j : Nat, j ≤ xs.length ∧ i = .int .i64 j ∧
      wr.ownsRow 0 3 1 u (upTo xs.length xs j).length ((upTo xs.length xs j).map (Value.int .i64)) ∧ wr.ownsRow 0 3 1 l (lowTo xs.length xs j).length ((lowTo xs.length xs j).map (Value.int .i64)) ∧
      Apart u l ∧ Hid ((∀ q, u.ownBlock = some q → w.heap.size ≤ q) ∧ (∀ q, l.ownBlock = some q → w.heap.size ≤ q)) ∧ Below w.heap.size w wr) (fun _ _ i _ => xs.length - (intOf i).toNat)
  case atStart => exact ⟨0, Nat.zero_le _, rfl, World.ownsRow_nil _ _ _ _, World.ownsRow_nil _ _ _ _, Apart.nil_left _, ⟨fun q h => by simp [Value.ownBlock] at h, fun q h => by simp [Value.ownBlock] at h⟩, Below.refl _ _⟩
  case round =>
    obtain ⟨j, hj, rfl, hu, hl, hap, HN, hbl⟩ := hrel
    by_cases hjl : j < xs.length
    · obtain ⟨bb, off, rfl, hbb, hcell⟩ := (HS.out.below hbl).at j (by simpa using hjl)
      have hsz := hbl.size
      have hbr : bb < wr.heap.size := by omega
      have hx : xs.getD j 0 = xs[j] := by simp [List.getD, hjl]
      rw [List.getElem_map, ← hx] at hcell
      have hb2 := both_length xs.length xs j
      have HAP : Hid (Apart _ _) := hap
      have HU := Lib.hid hu
      have HL := Lib.hid hl
      have hu1 := upTo_succ xs.length xs j
      have hl1 := lowTo_succ xs.length xs j
      clear hx hap hu hl
      generalize xs.getD j 0 = x at *
      generalize upTo xs.length xs j = U at *
      generalize lowTo xs.length xs j = V at *
      have HU1 := Lib.hid hu1
      have HL1 := Lib.hid hl1
      clear hu1 hl1
      have hlen : U.length ≤ 4096 ∧ V.length ≤ 4096 := by omega
      obtain ⟨hlU, hlV⟩ := hlen
      have HB2 := Lib.hid hb2
      clear hb2
      by_cases hev : j % 2 = 0
      · have h1 : ((j : Int) % 2 == 0) = true := by simp; omega
        have HEV := Lib.hid hev
        clear hev
        by_cases hlt : j < 2 * (xs.length / 2)
        · have h2 : (j : Int) < 2 * ((xs.length : Int) / 2) := by omega
          go_wp2_with (at_builtin; (refine wpList_push wr rfl _ _ 25 rfl 3 i0 _ 1 8 Try.underlying25 hi hz0 hz1 hz2 rfl (by omega) u2 U.length (U.map (Value.int .i64)) rfl HU.out _ _ _ rfl rfl rfl (by simp [Value.oneCell']) (by omega) (by unfold maxLen; omega) ?_))
          intro g gc w1 hown hp
          have R := halves_up HU.out HL.out HAP.out HN.out hbl hown hp
          clear hown hp
          go_wp2
          have e1 : isUp xs.length j = true := by have := HEV.out; simp [isUp]; omega
          go_roundw
          case rel => exact ⟨j + 1, by omega, by go_num, by rw [HU1.out, if_pos e1]; exact R.1, by rw [HL1.out, if_pos e1, List.append_nil]; exact R.2.1, R.2.2.1, ⟨R.2.2.2.1, R.2.2.2.2.1⟩, R.2.2.2.2.2⟩
          case measure => simp [intOf]; omega
        · have h2 : 2 * ((xs.length : Int) / 2) ≤ (j : Int) := by omega
          go_wp2_with (at_builtin; (refine wpList_push wr rfl _ _ 25 rfl 3 i0 _ 1 8 Try.underlying25 hi hz0 hz1 hz2 rfl (by omega) u3 V.length (V.map (Value.int .i64)) rfl HL.out _ _ _ rfl rfl rfl (by simp [Value.oneCell']) (by omega) (by unfold maxLen; omega) ?_))
          intro g gc w1 hown hp
          have R := halves_up HL.out HU.out HAP.out.symm HN.out.symm hbl hown hp
          clear hown hp
          go_wp2
          have e1 : isUp xs.length j = false := by have := HEV.out; simp [isUp]; omega
          go_roundw
          case rel => exact ⟨j + 1, by omega, by go_num, by rw [HU1.out, e1]; simpa using R.2.1, by rw [HL1.out, e1]; exact R.1, R.2.2.1.symm, ⟨R.2.2.2.2.1, R.2.2.2.1⟩, R.2.2.2.2.2⟩
          case measure => simp [intOf]; omega
      · have h1 : ((j : Int) % 2 == 0) = false := by simp; omega
        have HEV := Lib.hid hev
        clear hev
        go_wp2_with (at_builtin; (refine wpList_push wr rfl _ _ 25 rfl 3 i0 _ 1 8 Try.underlying25 hi hz0 hz1 hz2 rfl (by omega) u3 V.length (V.map (Value.int .i64)) rfl HL.out _ _ _ rfl rfl rfl (by simp [Value.oneCell']) (by omega) (by unfold maxLen; omega) ?_))
        intro g gc w1 hown hp
        have R := halves_up HL.out HU.out HAP.out.symm HN.out.symm hbl hown hp
        clear hown hp
        go_wp2
        have e1 : isUp xs.length j = false := by have := HEV.out; simp [isUp]; omega
        go_roundw
        case rel => exact ⟨j + 1, by omega, by go_num, by rw [HU1.out, e1]; simpa using R.2.1, by rw [HL1.out, e1]; exact R.1, R.2.2.1.symm, ⟨R.2.2.2.2.1, R.2.2.2.1⟩, R.2.2.2.2.2⟩
        case measure => simp [intOf]; omega
    · have hjn : j = xs.length := by omega
      subst hjn
      have HU := Lib.hid hu
      have HL := Lib.hid hl
      clear hu hl hap
      go_wp2
      go_ret2
      exact ⟨_, _, rfl, ⟨HU.out, HN.out.1⟩, ⟨HL.out, HN.out.2⟩, hbl⟩

theorem own_form {w : World} {base e k n : Nat} {v : Value} {xs : List Value} (h : w.ownsRow base e k v n xs) : ∃ a c, v = .slice a n c ∧ (n = 0 ∨ ∃ g, a = some ⟨g, 0, none⟩ ∧ g < w.heap.size) := by
  rcases h.2 with ⟨hv, h0⟩ | ⟨g, cap, cur, hv, _, hg, _⟩
  · subst h0; exact ⟨none, 0, hv, Or.inl rfl⟩
  · exact ⟨_, cap, hv, Or.inr ⟨g, rfl, (Array.getElem?_eq_some_iff.1 hg).1⟩⟩

theorem Sl.of_own {w : World} {base e n : Nat} {a : Option Addr} {c : Nat} {xs : List Value} (h : w.ownsRow base e 1 (.slice a n c) n xs) : Sl w w.heap.size a xs := by
  rcases h.2 with ⟨hv, h0⟩ | ⟨g, cap, cur, hv, hb, hg, hr⟩
  · have := h.1; subst h0; left; exact List.length_eq_zero_iff.1 (by simpa using this)
  · simp only [Value.slice.injEq] at hv
    obtain ⟨rfl, _, rfl⟩ := hv
    refine Or.inr ⟨g, 0, rfl, (Array.getElem?_eq_some_iff.1 hg).1, fun i u hu => ?_⟩
    have hi : i < n * 1 := by have := (List.getElem?_eq_some_iff.1 hu).1; rw [h.1] at this; exact this
    rw [Nat.zero_add, h.cellAt i hi]; exact hu

/-- What has just been made lies where no append to the list goes. -/
theorem Made.safe {w w' : World} {L : Nat} {gs : List (Int × Int)} {v : Value} {a : Option Addr} {n c : Nat} {xs : List Int} (hm : Made w w' (.slice a n c) xs) (hg : Gath w L gs v) :
    ∀ b o, a = some ⟨b, o, none⟩ → Safe w' L v b := by
  intro b o e
  subst e
  have h1 := hm.new_ b (by simp [Value.ownBlock])
  have h2 := (hm.own.lt b (by simp [Value.ownBlock])).2
  have h3 := hg.lt
  exact ⟨h2, by omega, fun e => by have := (hg.own.lt _ e).2; omega⟩

theorem boxed (w : World) (o o' : Obj) : Below w.heap.size w ((w.alloc o).alloc o') := ((Below.refl _ _).alloc (Nat.le_refl _) _).alloc (by simp) _

set_option maxHeartbeats 400000 in
theorem gates_few (xs : List Int) (hn : xs.length < 2) (a : Option Addr) (cap L : Nat) (gs : List (Int × Int)) (v : Value) (w : World) (hg : Gath w L gs v) :
    Calls Try.prog 38 #[.slice a xs.length cap, .func (.func 39) #[] #[.pointer (some ⟨L, 0, none⟩)]] w (Adds w L gs (gatesL xs) v) := by
  have hG := gatesL_few xs hn
  have HG := Lib.hid hg
  have HGL := Lib.hid hG
  have hb := fun o o' => boxed w o o'
  have HB := Lib.hid hb
  clear hg hG hb
  have fin : ∀ o o', Adds w L gs (gatesL xs) v (.returned (.tuple #[])) ((w.alloc o).alloc o') := fun o o' =>
    ⟨rfl, v, by rw [HGL.out, List.append_nil]; exact HG.out.below (HB.out o o'), GStep.of_below (HB.out o o') _ _⟩
  by_cases h0 : xs.length = 0
  · have h1 : ((xs.length : Int) == 0) = true := by simp [h0]
    have H0 := Lib.hid h0
    clear h0
    go_enter Try.func38, Try.ntmps38
    go_wp2
    exact bodyPost_ret (results_none rfl _ _ _) rfl (fin _ _)
  · have h1 : ((xs.length : Int) == 0) = false := by simp; intro e; exact h0 (by simp [e])
    have h2 : ((xs.length : Int) == 1) = true := by simp; omega
    have H0 := Lib.hid h0
    clear h0
    go_enter Try.func38, Try.ntmps38
    go_wp2
    exact bodyPost_ret (results_none rfl _ _ _) rfl (fin _ _)

/-- The two boxes at the head of 'gates': what the closure catches. -/
theorem caught_boxed {w : World} {L : Nat} {gs : List (Int × Int)} {v : Value} {a : Option Addr} {cap : Nat} {xs : List Int} (hg : Gath w L gs v) (hs : Sl w w.heap.size a (xs.map (Value.int .i64)))
    (hsafe : ∀ b o, a = some ⟨b, o, none⟩ → Safe w L v b) :
    Caught ((w.alloc (.cells #[.slice a xs.length cap] 25)).alloc (.cells #[.func (.func 39) #[] #[.pointer (some ⟨L, 0, none⟩)]] 69)) L v (w.heap.size + 1) w.heap.size a cap xs := by
  have hL := hg.lt
  have hv := fun q h => (hg.own.lt q h).2
  refine ⟨?_, ?_, ⟨by simp, by omega, fun e => by have := hv _ e; omega⟩, ⟨by simp; omega, by omega, fun e => by have := hv _ e; omega⟩, hs.up (boxed w _ _), fun b o e => ?_⟩
  · rw [World.cell?_alloc_at _ _ _ _ (by simp)]; rfl
  · rw [World.cell?_alloc_lt _ _ _ (by simp), World.cell?_alloc_at _ _ _ _ rfl]; rfl
  · exact (hsafe b o e).step (GStep.of_below (boxed w _ _) _ _)

set_option maxHeartbeats 1000000 in
theorem gates_two (xs : List Int) (hn : xs.length = 2) (a : Option Addr) (cap L : Nat) (gs : List (Int × Int)) (v : Value) (w : World) (hg : Gath w L gs v) (hs : Sl w w.heap.size a (xs.map (Value.int .i64)))
    (hsafe : ∀ b o, a = some ⟨b, o, none⟩ → Safe w L v b) (hlen : gs.length + 1 ≤ 1000000) :
    Calls Try.prog 38 #[.slice a xs.length cap, .func (.func 39) #[] #[.pointer (some ⟨L, 0, none⟩)]] w (Adds w L gs (gatesL xs) v) := by
  have hG := gatesL_two xs hn
  have hc := caught_boxed (cap := cap) hg hs hsafe
  have hg2 := hg.below (boxed w (.cells #[.slice a xs.length cap] 25) (.cells #[.func (.func 39) #[] #[.pointer (some ⟨L, 0, none⟩)]] 69))
  have hst := GStep.of_below (boxed w (.cells #[.slice a xs.length cap] 25) (.cells #[.func (.func 39) #[] #[.pointer (some ⟨L, 0, none⟩)]] 69)) L v
  obtain ⟨b1, o1, rfl, hb1, hx1, hx2⟩ := hc.two 0 (by omega)
  have hyc := hc.yc
  have hwc := hc.wc
  have h1 : ((xs.length : Int) == 0) = false := by simp; intro e; simp [e] at hn
  have h2 : ((xs.length : Int) == 1) = false := by simp; omega
  have h3 : ((xs.length : Int) == 2) = true := by simp; omega
  have h4 : (0 : Int) < (xs.length : Int) := by omega
  have h5 : (1 : Int) < (xs.length : Int) := by omega
  have h6 : 0 < xs.length := by omega
  have h7 : 1 < xs.length := by omega
  have HN := Lib.hid hn
  have HGL := Lib.hid hG
  have HG2 := Lib.hid hg2
  have HST := Lib.hid hst
  have HC := Lib.hid hc
  clear hg hs hsafe hn hG hg2 hst hc
  simp only [Nat.zero_add, Nat.add_zero] at hx1 hx2
  generalize xs.getD 0 0 = x at *
  generalize xs.getD 1 0 = y at *
  generalize hW : (w.alloc (.cells #[.slice (some ⟨b1, o1, none⟩) xs.length cap] 25)).alloc (.cells #[.func (.func 39) #[] #[.pointer (some ⟨L, 0, none⟩)]] 69) = w2 at *
  have HW := Lib.hid hW
  clear hW
  go_enter Try.func38, Try.ntmps38
  go_wp2_with fail
  rw [HW.out]
  refine wp_region_tail 8 (by kernel_rfl) (by kernel_rfl) ?_
  simp only [List.take_succ_cons, List.take_zero, List.drop_succ_cons, List.drop_zero]
  repeat (go_big_quiet_step (fail))
  refine wpQuiet_nil ?_
  go_wp2_with fail
  refine (yield_any _ _ L gs v _ (HG2.out.below (Below.refl _ _).drew) hlen).mono ?_
  rintro e w3 ⟨rfl, HA⟩
  have fin : Adds w L gs (gatesL xs) v (.returned (.tuple #[])) w3 := by
    obtain ⟨v2, hg3, hs3⟩ := HA
    exact ⟨rfl, v2, by rw [HGL.out]; exact hg3, (HST.out.trans (GStep.of_below (Below.refl _ _).drew _ _)).trans hs3⟩
  clear HA
  go_wp2_with fail
  exact bodyPost_ret (results_none rfl _ _ _) rfl fin

set_option maxHeartbeats 2000000 in
theorem gates_any : ∀ (N : Nat) (xs : List Int), xs.length ≤ N → ∀ (a : Option Addr) (cap L : Nat) (gs : List (Int × Int)) (v : Value) (w : World), Gath w L gs v → Sl w w.heap.size a (xs.map (Value.int .i64)) →
    (∀ b o, a = some ⟨b, o, none⟩ → Safe w L v b) → xs.length ≤ 4096 → gs.length + (gatesL xs).length ≤ 1000000 →
    Calls Try.prog 38 #[.slice a xs.length cap, .func (.func 39) #[] #[.pointer (some ⟨L, 0, none⟩)]] w (Adds w L gs (gatesL xs) v) := by
  intro N
  induction N with
  | zero => intro xs hN a cap L gs v w hg _ _ _ _; exact gates_few xs (by omega) a cap L gs v w hg
  | succ N ih =>
    intro xs hN a cap L gs v w hg hs hsafe hn hlen
    rcases Nat.lt_or_ge xs.length 2 with hlt | hge
    · exact gates_few xs hlt a cap L gs v w hg
    · by_cases he : xs.length = 2
      · exact gates_two xs he a cap L gs v w hg hs hsafe (by rw [gatesL_two xs he] at hlen; exact hlen)
      · have hgt : 2 < xs.length := by omega
        have hG := gatesL_more xs hgt
        have hul := upper_length xs
        have hll := lower_length xs
        have hlen2 : gs.length + (xs.length / 2 + (gatesL (upper xs)).length + (gatesL (lower xs)).length + lastRow xs.length) ≤ 1000000 := by
          rw [hG] at hlen
          simp only [List.length_append, pairs, List.length_map, List.length_range] at hlen
          omega
        have hc := caught_boxed (cap := cap) hg hs hsafe
        have hg2 := hg.below (boxed w (.cells #[.slice a xs.length cap] 25) (.cells #[.func (.func 39) #[] #[.pointer (some ⟨L, 0, none⟩)]] 69))
        have hst := GStep.of_below (boxed w (.cells #[.slice a xs.length cap] 25) (.cells #[.func (.func 39) #[] #[.pointer (some ⟨L, 0, none⟩)]] 69)) L v
        have hyc := hc.yc
        have hwc := hc.wc
        have h1 : ((xs.length : Int) == 0) = false := by simp; intro e; simp [e] at hgt
        have h2 : ((xs.length : Int) == 1) = false := by simp; omega
        have h3 : ((xs.length : Int) == 2) = false := by simp; omega
        have HIH := Lib.hid ih
        have HGL := Lib.hid hG
        have HG2 := Lib.hid hg2
        have HST := Lib.hid hst
        have HC := Lib.hid hc
        have HUL := Lib.hid hul
        have HLL := Lib.hid hll
        clear ih hg hs hsafe hG hg2 hst hc hul hll he hlen
        generalize hW : (w.alloc (.cells #[.slice a xs.length cap] 25)).alloc (.cells #[.func (.func 39) #[] #[.pointer (some ⟨L, 0, none⟩)]] 69) = w2 at *
        have HW := Lib.hid hW
        clear hW
        go_enter Try.func38, Try.ntmps38
        go_wp2_with fail
        rw [HW.out]
        refine (row_any xs.length (xs.length / 2) L gs v (w.heap.size + 1) w.heap.size a cap xs w2 HG2.out HC.out rfl (Nat.le_refl _) hn (by omega)).mono ?_
        rintro e w3 ⟨rfl, HA⟩
        obtain ⟨v3, hg3, hs3⟩ := HA
        have HG3 := Lib.hid hg3
        have HS3 := Lib.hid (HST.out.trans hs3)
        have HC3 := Lib.hid (HC.out.step hs3)
        clear hg3 hs3 hyc hwc
        have hyc := HC3.out.yc
        have hwc := HC3.out.wc
        go_wp2_with fail
        refine (halves_any a cap xs w3 HC3.out.sl hn).mono ?_
        rintro e w4 ⟨u, l, rfl, hmu, hml, hb4⟩
        obtain ⟨au, cu, rfl, _⟩ := own_form hmu.own
        obtain ⟨al, cl, rfl, _⟩ := own_form hml.own
        have HMU := Lib.hid hmu
        have HML := Lib.hid hml
        have HG4 := Lib.hid (HG3.out.below hb4)
        have HS4 := Lib.hid (HS3.out.trans (GStep.of_below hb4 _ _))
        have HC4 := Lib.hid (HC3.out.step (GStep.of_below hb4 L v3))
        clear hmu hml hb4 hyc hwc
        have hyc := HC4.out.yc
        go_wp2_with fail
        refine (HIH.out (upper xs) (by have := HUL.out; omega) au cu L _ v3 w4 HG4.out (Sl.of_own HMU.out.own) (HMU.out.safe HG3.out) (by have := HUL.out; omega) (by simp only [List.length_append, pairs, List.length_map, List.length_range]; omega)).mono ?_
        rintro e w5 ⟨rfl, HA⟩
        obtain ⟨v5, hg5, hs5⟩ := HA
        have HG5 := Lib.hid hg5
        have HS5 := Lib.hid (HS4.out.trans hs5)
        have HC5 := Lib.hid (HC4.out.step hs5)
        have HSL := Lib.hid ((Sl.of_own HML.out.own).gstep (HML.out.safe HG3.out) hs5)
        have HSF : Hid (∀ b o, al = some ⟨b, o, none⟩ → Safe w5 L v5 b) := fun b o e => (HML.out.safe HG3.out b o e).step hs5
        clear hg5 hs5 hyc
        have hyc := HC5.out.yc
        go_wp2_with fail
        refine (HIH.out (lower xs) (by have := HLL.out; omega) al cl L _ v5 w5 HG5.out HSL.out HSF.out (by have := HLL.out; omega) (by simp only [List.length_append, pairs, List.length_map, List.length_range]; omega)).mono ?_
        rintro e w6 ⟨rfl, HA⟩
        obtain ⟨v6, hg6, hs6⟩ := HA
        have HG6 := Lib.hid hg6
        have HS6 := Lib.hid (HS5.out.trans hs6)
        have HC6 := Lib.hid (HC5.out.step hs6)
        clear hg6 hs6 hyc
        go_wp2_with fail
        obtain ⟨m, hm⟩ : ∃ m : Nat, m = xs.length - 1 + xs.length % 2 := ⟨_, rfl⟩
        rw [show ((xs.length : Int) - 1 + (xs.length : Int) % 2) = (m : Int) by omega]
        refine (row_any m (lastRow xs.length) L _ v6 (w.heap.size + 1) w.heap.size a cap xs w6 HG6.out HC6.out (by rw [hm]; rfl) (by omega) hn (by simp only [List.length_append, pairs, List.length_map, List.length_range]; omega)).mono ?_
        rintro e w7 ⟨rfl, HA⟩
        obtain ⟨v7, hg7, hs7⟩ := HA
        have fin : Adds w L gs (gatesL xs) v (.returned (.tuple #[])) w7 := by
          refine ⟨rfl, v7, ?_, HS6.out.trans hs7⟩
          rw [HGL.out]
          simpa [List.append_assoc] using hg7
        clear hg7 hs7 hm
        go_wp2_with fail
        go_end0
        exact fin

end Go.Proofs.Ytbjhcpchljjmhaa
