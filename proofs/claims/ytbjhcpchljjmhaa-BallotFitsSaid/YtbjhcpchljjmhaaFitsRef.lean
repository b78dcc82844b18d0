/- Choices that fit: the walks of ballot.Fits and of the document's. Condition: no choice is longer than the form's reach, no contest has more than 1,000 options. -/
import Derived.Test.YtbjhcpchljjmhaaFitsWalk
namespace Go.Proofs.Ytbjhcpchljjmhaa
open Go.RowKit

set_option maxHeartbeats 400000 in
theorem refRanks_any (nm op s m : Value) (r : Int) (b : Bool) (hb : rk r = b) (w : World) :
    Calls Try.prog 24 #[.agg #[nm, op, .int .i64 r, s, m]] w fun e w' => e = .returned (.bool b) ∧ Below w.heap.size w w' := by
  have HB := Lib.hid hb
  clear hb
  go_enter Try.func24, Try.ntmps24
  go_wp2
  all_goals
    go_ret
    refine ⟨?_, (Below.refl _ _).alloc (Nat.le_refl _) _⟩
    rw [← HB.out]
    simp [rk, *]

set_option maxHeartbeats 400000 in
theorem refTop_any (nm s m : Value) (oa : Option Addr) (k cap : Nat) (r t : Int) (ht : topI r k = t) (w : World) :
    Calls Try.prog 22 #[.agg #[nm, .slice oa k cap, .int .i64 r, s, m]] w fun e w' => e = .returned (.int .i64 t) ∧ Below w.heap.size w w' := by
  have HT := Lib.hid ht
  clear ht
  cases h : rk r
  all_goals
    have HB := Lib.hid h
    clear h
    go_enter Try.func22, Try.ntmps22
    go_wp2_with (go_at_call 24; refine (refRanks_any _ _ _ _ _ _ HB.out _).mono ?_; rintro e w1 ⟨rfl, hb1⟩; obtain ⟨hc1, hf1⟩ := bcell hb1)
    go_ret
    exact ⟨ret_int (by rw [← HT.out, topI, HB.out]; rfl), below_up ((Below.refl _ _).alloc (Nat.le_refl _) _) hb1⟩

theorem count_at (xs : List Int) (n : Int) (j : Nat) (hj : j < xs.length) : (xs.take (j + 1)).count n = (xs.take j).count n + if xs[j] = n then 1 else 0 := by
  rw [List.take_succ_eq_append_getElem hj, List.count_append, List.count_cons, List.count_nil]
  by_cases h : xs[j] = n <;> simp [h]

set_option maxHeartbeats 400000 in
theorem times_any (ca : Option Addr) (ccap : Nat) (xs : List Int) (n c : Int) (w : World) (hn : (xs.count n : Int) = c)
    (hx : xs.length ≤ 140737488351232) (hs : Sl w w.heap.size ca (xs.map (Value.int .i64))) :
    Calls Try.prog 23 #[.slice ca xs.length ccap, .int .i64 n] w fun e w' => e = .returned (.int .i64 c) ∧ Below w.heap.size w w' := by
  have HS := Lib.hid hs
  have HN := Lib.hid hn
  clear hs hn
  go_enter Try.func23, Try.ntmps23
  go_wp2
  go_loop [5, 10] (fun k i => ∃ j : Nat, j ≤ xs.length ∧ i = .int .i64 j ∧ k = .int .i64 ((xs.take j).count n : Nat)) (fun _ i => xs.length - (intOf i).toNat)
  case atStart => exact ⟨0, Nat.zero_le _, rfl, rfl⟩
  case round =>
    obtain ⟨j, hj, rfl, rfl⟩ := hrel
    by_cases hjl : j < xs.length
    · obtain ⟨bb, off, rfl, hbb, hcell⟩ := HS.out.at j (by simpa using hjl)
      rw [List.getElem_map] at hcell
      have hca := count_at xs n j hjl
      have hle : (xs.take j).count n ≤ (xs.take j).length := List.count_le_length
      rw [List.length_take] at hle
      generalize xs[j] = x at hcell hca
      generalize hC : (xs.take j).count n = C at *
      have HC := Lib.hid hC
      have HCA := Lib.hid hca
      clear hC hca
      by_cases hxn : x = n
      · have e1 : (x == n) = true := by simpa using hxn
        have HX := Lib.hid hxn
        clear hxn
        go_wp2
        go_round
        case rel => exact ⟨j + 1, by omega, by go_num, by rw [HCA.out, if_pos HX.out]; rfl⟩
        case measure => simp [intOf]; omega
      · have e1 : (x == n) = false := by simpa using hxn
        have HX := Lib.hid hxn
        clear hxn
        go_wp2
        go_round
        case rel => exact ⟨j + 1, by omega, by go_num, by rw [HCA.out, if_neg HX.out]; rfl⟩
        case measure => simp [intOf]; omega
    · have hjn : j = xs.length := by omega
      subst hjn
      rw [List.take_length]
      go_wp2
      go_ret
      exact ⟨ret_int (by rw [← HN.out]), Below.refl _ _⟩

/-- What the document answers of a choice. -/
def fitsE (b : Bool) (t : Nat) (r m : Int) (k : Nat) (xs : List Int) : Int :=
  if xs.length ≠ k then 2 else if fitsB b t r m xs then 0 else 4

set_option maxHeartbeats 400000 in
theorem Fits_any (nm s : Value) (oa ca : Option Addr) (k cap ccap t : Nat) (r m c : Int) (b : Bool) (xs : List Int) (w : World)
    (hb : rk r = b) (ht : topI r k = (t : Int)) (hres : fitsE b t r m k xs = c) (hk : t + 1 ≤ 140737488351232) (hx : xs.length ≤ 140737488351232) (hs : Sl w w.heap.size ca (xs.map (Value.int .i64))) :
    Calls Try.prog 9 #[.agg #[nm, .slice oa k cap, .int .i64 r, s, .int .i64 m], .slice ca xs.length ccap] w fun e w' => e = .returned (.int .i64 c) ∧ Below w.heap.size w w' := by
  have HB := Lib.hid hb
  have HT := Lib.hid ht
  have HS := Lib.hid hs
  have HR := Lib.hid hres
  clear hb ht hs hres
  have hW : Below w.heap.size w (w.alloc (.cells #[nm, .slice oa k cap, .int .i64 r, s, .int .i64 m] 24)) := (Below.refl _ _).alloc (Nat.le_refl _) _
  by_cases hl : xs.length = k
  · have e1 : ((xs.length : Int) != (k : Int)) = false := by simp [hl]
    have HL := Lib.hid hl
    clear hl
    cases hf : fitsB b t r m xs
    all_goals
      have HF := Lib.hid hf
      clear hf
      go_enter Try.func9, Try.ntmps9
      go_wp2_with (go_at_call 21; refine (fits_any _ _ _ _ _ _ _ _ _ _ _ _ _ _ _ HB.out HT.out HF.out hk hx (HS.out.up hW)).mono ?_; rintro e w1 ⟨rfl, hb1⟩)
      go_ret
      exact ⟨ret_int (by rw [← HR.out, fitsE, HF.out, if_neg (by simp [HL.out])]; rfl), below_up hW hb1⟩
  · have e1 : ((xs.length : Int) != (k : Int)) = true := by simp; omega
    have HL := Lib.hid hl
    clear hl
    go_enter Try.func9, Try.ntmps9
    go_wp2
    go_ret
    exact ⟨ret_int (by rw [← HR.out, fitsE, if_pos HL.out]), hW⟩

theorem refFits_all {b : Bool} {t : Nat} {r m : Int} {xs : List Int} (h : refFits b t r m xs = true) : ∀ x ∈ xs, 0 ≤ x ∧ x ≤ (t : Int) := by
  simp only [refFits, Bool.and_eq_true, List.all_eq_true, decide_eq_true_eq] at h
  exact h.1

theorem refFits_out {b : Bool} {t : Nat} {r m : Int} {xs : List Int} {j : Nat} (hj : j < xs.length) (h : xs[j] < 0 ∨ (t : Int) < xs[j]) : refFits b t r m xs = false := by
  rw [← Bool.not_eq_true]
  intro h1
  have := refFits_all h1 xs[j] (List.getElem_mem hj)
  omega

theorem count_step {xs : List Int} {j : Nat} (h : Hid (∀ q : Nat, 1 ≤ q → q < j → xs.count (q : Int) = 1)) (h4 : Hid (xs.count (j : Int) = 1)) : Hid (∀ q : Nat, 1 ≤ q → q < j + 1 → xs.count (q : Int) = 1) := by
  intro q h1 h2
  rcases Nat.lt_or_ge q j with h3 | h3
  · exact h.out q h1 h3
  · rw [show q = j by omega]; exact h4.out

set_option maxHeartbeats 2000000 in
theorem RefFits_any (nm s : Value) (oa ca : Option Addr) (k cap ccap t : Nat) (r m c : Int) (b res : Bool) (xs : List Int) (w : World)
    (hb : rk r = b) (ht : topI r k = (t : Int)) (hres : refFits b t r m xs = res) (hcc : (if xs.length ≠ k then 2 else if res then 0 else 4 : Int) = c)
    (hk : t + 1 ≤ 140737488351232) (hx : xs.length ≤ 140737488351232) (hs : Sl w w.heap.size ca (xs.map (Value.int .i64))) :
    Calls Try.prog 10 #[.agg #[nm, .slice oa k cap, .int .i64 r, s, .int .i64 m], .slice ca xs.length ccap] w fun e w' => e = .returned (.int .i64 c) ∧ Below w.heap.size w w' := by
  have HB := Lib.hid hb
  have HT := Lib.hid ht
  have HS := Lib.hid hs
  have HR := Lib.hid hres
  have HCC := Lib.hid hcc
  clear hb ht hs hres hcc
  have hW : Below w.heap.size w (w.alloc (.cells #[nm, .slice oa k cap, .int .i64 r, s, .int .i64 m] 24)) := (Below.refl _ _).alloc (Nat.le_refl _) _
  by_cases hl : xs.length = k
  · have e1 : ((xs.length : Int) != (k : Int)) = false := by simp [hl]
    have HL := Lib.hid hl
    clear hl
    go_enter Try.func10, Try.ntmps10
    go_wp2
    go_loopw [17] (fun i wr => ∃ j : Nat, j ≤ xs.length ∧ i = .int .i64 j ∧ Hid (∀ q (hq : q < xs.length), q < j → 0 ≤ xs[q] ∧ xs[q] ≤ (t : Int)) ∧
      Below w.heap.size w wr ∧ w.heap.size < wr.heap.size ∧ (∀ o, wr.cell? ⟨w.heap.size, o, none⟩ = (#[nm, .slice oa k cap, .int .i64 r, s, .int .i64 m] : Array Value)[o]?)) (fun i _ => xs.length - (intOf i).toNat)
    case atStart => exact ⟨0, Nat.zero_le _, rfl, fun q _ h => by omega, hW, by simp, fun o => by simp [World.cell?_alloc_at]⟩
    case round =>
      obtain ⟨j, hj, rfl, HALL, hbl, hgr, hbox⟩ := hrel
      by_cases hjl : j < xs.length
      · obtain ⟨bb, off, rfl, hbb, hcell⟩ := (HS.out.below hbl).at j (by simpa using hjl)
        rw [List.getElem_map] at hcell
        have hbr : bb < wr.heap.size := by omega
        have hout := refFits_out (b := b) (t := t) (r := r) (m := m) hjl
        have hin : 0 ≤ xs[j] → xs[j] ≤ (t : Int) → ∀ q (hq : q < xs.length), q < j + 1 → 0 ≤ xs[q] ∧ xs[q] ≤ (t : Int) := by
          intro h1 h2 q hq h3
          rcases Nat.lt_or_ge q j with h4 | h4
          · exact HALL.out q hq h4
          · have : q = j := by omega
            subst this; exact ⟨h1, h2⟩
        generalize xs[j] = n at hcell hout hin
        have HIN := Lib.hid hin
        have HOUT := Lib.hid hout
        clear hin hout
        by_cases h1 : n < 0
        · go_wp2_with fail
          go_ret
          refine ⟨ret_int ?_, hbl⟩
          have h3 := HOUT.out (Or.inl h1)
          rw [HR.out] at h3
          rw [← HCC.out, h3, if_neg (by simp [HL.out])]; rfl
        · by_cases h2 : (t : Int) < n
          · go_wp2_with (go_at_call 22; refine (refTop_any _ _ _ _ _ _ _ _ HT.out _).mono ?_; rintro e w3 ⟨rfl, hb3⟩; obtain ⟨hc3, hf3⟩ := bcell hb3)
            go_ret
            refine ⟨ret_int ?_, below_up hbl hb3⟩
            have h3 := HOUT.out (Or.inr h2)
            rw [HR.out] at h3
            rw [← HCC.out, h3, if_neg (by simp [HL.out])]; rfl
          · go_wp2_with (go_at_call 22; refine (refTop_any _ _ _ _ _ _ _ _ HT.out _).mono ?_; rintro e w3 ⟨rfl, hb3⟩; obtain ⟨hc3, hf3⟩ := bcell hb3; have hz3 := hb3.size)
            go_roundw
            case rel => exact ⟨j + 1, by omega, by go_num, HIN.out (by omega) (by omega), below_up hbl hb3, by omega, fun o => by rw [hc3 _ _ hgr]; exact hbox o⟩
            case measure => simp [intOf]; omega
      · have hjn : j = xs.length := by omega
        subst hjn
        have hall : xs.all (fun x => decide (0 ≤ x ∧ x ≤ (t : Int))) = true := by
          rw [List.all_eq_true]
          intro x hx
          obtain ⟨q, hq, rfl⟩ := List.getElem_of_mem hx
          exact decide_eq_true (HALL.out q hq hq)
        have h1 : xs.count 0 ≤ xs.length := List.count_le_length
        generalize hM : xs.count 0 = M at *
        obtain ⟨kk, hkk⟩ : ∃ kk : Nat, ((xs.length : Int) - (M : Int)) = (kk : Int) := ⟨xs.length - M, by omega⟩
        have hkk2 : xs.length - M = kk := by omega
        have hkx : kk ≤ xs.length := by omega
        have href : refFits b t r m xs = if b then (List.range kk).all (fun j => decide (xs.count ((j : Int) + 1) = 1)) else !(r == 1 && decide (m < (kk : Int))) := by
          rw [refFits, hall, hM, hkk2]; rfl
        have HREF := Lib.hid href
        have HM := Lib.hid hM
        clear hj hjl hall href hM hkk2
        cases b
        · go_wp2_with (first | (go_at_call 23; refine (times_any _ _ _ _ M _ (by rw [HM.out]) hx (HS.out.up hbl)).mono ?_; rintro e w3 ⟨rfl, hb3⟩; obtain ⟨hc3, hf3⟩ := bcell hb3; have hz3 := hb3.size) | (go_at_call 24; refine (refRanks_any _ _ _ _ _ _ HB.out _).mono ?_; rintro e w4 ⟨rfl, hb4⟩; have hb5 := below_up hb3 hb4; obtain ⟨hc4, hf4⟩ := bcell hb5))
          all_goals
            go_ret
            refine ⟨ret_int ?_, below_up hbl hb5⟩
            rw [← HCC.out, if_neg (by simp [HL.out]), ← HR.out, HREF.out]
            simp [*]
        · go_wp2_with (first | (go_at_call 23; refine (times_any _ _ _ _ M _ (by rw [HM.out]) hx (HS.out.up hbl)).mono ?_; rintro e w3 ⟨rfl, hb3⟩; obtain ⟨hc3, hf3⟩ := bcell hb3; have hz3 := hb3.size) | (go_at_call 24; refine (refRanks_any _ _ _ _ _ _ HB.out _).mono ?_; rintro e w4 ⟨rfl, hb4⟩; have hb5 := below_up hb3 hb4; obtain ⟨hc4, hf4⟩ := bcell hb5))
          clear hc3 hf3 hc4 hf4 hb3 hb4 hz3 h1 hkk
          have hbl2 := below_up hbl hb5
          clear hb5 hbl hbox
          obtain ⟨wo, rfl⟩ : ∃ wo : World, wo = w4 := ⟨_, rfl⟩
          go_loopw [8] (fun i wq => ∃ j : Nat, 1 ≤ j ∧ j ≤ kk + 1 ∧ i = .int .i64 j ∧ Hid (∀ q : Nat, 1 ≤ q → q < j → xs.count (q : Int) = 1) ∧
            Below w.heap.size w wq) (fun i _ => kk + 1 - (intOf i).toNat)
          case atStart => exact ⟨1, by omega, by omega, rfl, fun q h1 h2 => by omega, hbl2⟩
          case round =>
            obtain ⟨j, hj1, hj2, rfl, HC, hbq⟩ := hrel
            by_cases hjk : j ≤ kk
            · by_cases h1 : xs.count (j : Int) = 1
              · have e2 : ((1 : Int) != 1) = false := rfl
                have H1 := Lib.hid h1
                clear h1
                go_wp2_with (go_at_call 23; refine (times_any _ _ _ _ 1 _ (by rw [H1.out]; rfl) hx (HS.out.up hbq)).mono ?_; rintro e w3 ⟨rfl, hb3⟩)
                have HC2 := count_step HC H1
                go_roundw
                case rel => exact ⟨j + 1, by omega, by omega, by go_num, HC2, below_up hbq hb3⟩
                case measure => simp [intOf]; omega
              · have e2 : (((xs.count (j : Int) : Nat) : Int) != 1) = true := by simp; omega
                generalize hQ : xs.count (j : Int) = Q at *
                have HQ := Lib.hid hQ
                clear hQ
                go_wp2_with (go_at_call 23; refine (times_any _ _ _ _ Q _ (by rw [HQ.out]) hx (HS.out.up hbq)).mono ?_; rintro e w3 ⟨rfl, hb3⟩)
                go_ret
                refine ⟨ret_int ?_, below_up hbq hb3⟩
                have : (List.range kk).all (fun j => decide (xs.count ((j : Int) + 1) = 1)) = false := by
                  rw [← Bool.not_eq_true, List.all_eq_true]
                  intro h
                  have := h (j - 1) (by simp; omega)
                  rw [show ((j - 1 : Nat) : Int) + 1 = j by omega, HQ.out] at this
                  exact h1 (by simpa using this)
                rw [← HCC.out, if_neg (by simp [HL.out]), ← HR.out, HREF.out, this]; rfl
            · have hjq : kk < j := by omega
              clear hjk
              go_wp2_with fail
              go_ret
              refine ⟨ret_int ?_, hbq⟩
              have : (List.range kk).all (fun j => decide (xs.count ((j : Int) + 1) = 1)) = true := by
                rw [List.all_eq_true]
                intro q hq
                rw [List.mem_range] at hq
                exact decide_eq_true (HC.out (q + 1) (by omega) (by omega))
              rw [← HCC.out, if_neg (by simp [HL.out]), ← HR.out, HREF.out, this]; rfl
  · have e1 : ((xs.length : Int) != (k : Int)) = true := by simp; omega
    have HL := Lib.hid hl
    clear hl
    go_enter Try.func10, Try.ntmps10
    go_wp2
    go_ret
    exact ⟨ret_int (by rw [← HCC.out, if_pos HL.out]), hW⟩

end Go.Proofs.Ytbjhcpchljjmhaa
