import Derived.Test.YtbjhcpchljjmhaaProg
import Derived.Test.YtbjhcpchljjmhaaBase
import Derived.Test.YtbjhcpchljjmhaaFitsPlain
namespace Go.Proofs.Ytbjhcpchljjmhaa
open Go.RowKit

/-- Is a rule one of ranks? -/
def rk (r : Int) : Bool := r == 3 || r == 4

set_option maxHeartbeats 400000 in
theorem ranks_any (nm op s m x : Value) (r : Int) (b : Bool) (hb : rk r = b) (w : World) :
    Calls Try.prog 37 #[.agg #[nm, op, .int .i64 r, s, m, x]] w fun e w' => e = .returned (.bool b) ∧ Below w.heap.size w w' := by
  have HB := Lib.hid hb
  clear hb
  go_enter Try.func37, Try.ntmps37
  go_wp2
  all_goals
    go_ret
    refine ⟨?_, (Below.refl _ _).alloc (Nat.le_refl _) _⟩
    rw [← HB.out]
    simp [rk, *]

set_option maxHeartbeats 400000 in
theorem top_rk (nm s m x : Value) (oa : Option Addr) (k cap : Nat) (r : Int) (hb : rk r = true) (w : World) :
    Calls Try.prog 36 #[.agg #[nm, .slice oa k cap, .int .i64 r, s, m, x]] w fun e w' => e = .returned (.int .i64 k) ∧ Below w.heap.size w w' := by
  have HB := Lib.hid hb
  clear hb
  go_enter Try.func36, Try.ntmps36
  go_wp2_with (go_at_call 37; refine (ranks_any _ _ _ _ _ _ true HB.out _).mono ?_; rintro e w1 ⟨rfl, hb1⟩; obtain ⟨hc1, hf1⟩ := bcell hb1)
  go_ret
  exact ⟨rfl, below_up ((Below.refl _ _).alloc (Nat.le_refl _) _) hb1⟩

set_option maxHeartbeats 400000 in
theorem top_no (nm s m x : Value) (oa : Option Addr) (k cap : Nat) (r : Int) (hb : rk r = false) (w : World) :
    Calls Try.prog 36 #[.agg #[nm, .slice oa k cap, .int .i64 r, s, m, x]] w fun e w' => e = .returned (.int .i64 1) ∧ Below w.heap.size w w' := by
  have HB := Lib.hid hb
  clear hb
  go_enter Try.func36, Try.ntmps36
  go_wp2_with (go_at_call 37; refine (ranks_any _ _ _ _ _ _ false HB.out _).mono ?_; rintro e w1 ⟨rfl, hb1⟩; obtain ⟨hc1, hf1⟩ := bcell hb1)
  go_ret
  exact ⟨rfl, below_up ((Below.refl _ _).alloc (Nat.le_refl _) _) hb1⟩

def topI (r : Int) (k : Nat) : Int := if rk r then k else 1

theorem top_any (nm s m x : Value) (oa : Option Addr) (k cap : Nat) (r t : Int) (ht : topI r k = t) (w : World) :
    Calls Try.prog 36 #[.agg #[nm, .slice oa k cap, .int .i64 r, s, m, x]] w fun e w' => e = .returned (.int .i64 t) ∧ Below w.heap.size w w' := by
  subst ht
  unfold topI
  cases h : rk r
  · exact top_no nm s m x oa k cap r h w
  · exact top_rk nm s m x oa k cap r h w

theorem info4 : (Try.prog.info? 4).map (fun i => (i.zero, i.size, i.bytes)) = some (some (.bool false), 1, 1) := by kernel_rfl

/-- What the list of seen numbers holds behind some choices. -/
def seenL (t : Nat) (xs : List Int) : List Value := (List.range (t + 1)).map fun (v : Nat) => .bool (decide ((v : Int) ∈ xs))

theorem seenL_nil (t : Nat) : seenL t [] = (madeCells #[Value.bool false] (t + 1)).toList := by
  rw [seenL]
  apply List.ext_getElem
  · simp [madeCells]
  · intro i h1 h2
    simp [madeCells, Nat.mod_one]

theorem seenL_at (t : Nat) (xs : List Int) (v : Nat) (hv : v < t + 1) : (seenL t xs)[v]? = some (.bool (decide ((v : Int) ∈ xs))) := by
  simp [seenL, hv]

theorem seenL_set (t : Nat) (xs : List Int) (v : Nat) : (seenL t xs).set v (.bool true) = seenL t (xs ++ [(v : Int)]) := by
  apply List.ext_getElem
  · simp [seenL]
  · intro i h1 h2
    simp only [seenL, List.getElem_set, List.getElem_map, List.getElem_range]
    by_cases h : v = i
    · subst h; simp
    · have : ¬ (i : Int) = (v : Int) := by omega
      simp [h, this]

/-- What one round of the first loop does to the list of seen numbers. -/
theorem fits_step {w wr w4 : World} {g t v : Nat} {xs : List Int} {B : Array Value} (hbl : Below w.heap.size w wr) (hb4 : Below wr.heap.size wr w4)
    (hbox : ∀ o, wr.cell? ⟨w.heap.size, o, none⟩ = B[o]?) (hgw : w.heap.size < g) (hgr : g < wr.heap.size)
    (hown : wr.ownsRow w.heap.size 4 1 (.slice (some ⟨g, 0, none⟩) (t + 1) (t + 1)) (t + 1) (seenL t xs)) :
    Below w.heap.size w (w4.setCell ⟨g, v, none⟩ (.bool true)) ∧ (∀ o, (w4.setCell ⟨g, v, none⟩ (.bool true)).cell? ⟨w.heap.size, o, none⟩ = B[o]?) ∧
      g < (w4.setCell ⟨g, v, none⟩ (.bool true)).heap.size ∧
      (w4.setCell ⟨g, v, none⟩ (.bool true)).ownsRow w.heap.size 4 1 (.slice (some ⟨g, 0, none⟩) (t + 1) (t + 1)) (t + 1) (seenL t (xs ++ [(v : Int)])) := by
  have h1 := (hown.kept (below_grown hb4) (Or.inr (by simp [Value.ownBlock]))).stored v (.bool true)
  rw [seenL_set] at h1
  have hsz := hb4.size
  refine ⟨(below_up hbl hb4).setCell (by exact Nat.le_of_lt hgw) _, ?_, by simp [World.setCell]; omega, h1.1⟩
  intro o
  rw [World.cell?_of_block (w := w4) (Below.heap_setCell _ _ _ _ (by simp; omega)), hb4.cell (p := ⟨w.heap.size, o, none⟩) (by simp; omega)]
  exact hbox o

theorem hall_step {xs : List Int} {j : Nat} (h : Hid (∀ q : Nat, 1 ≤ q → q < j → (q : Int) ∈ xs)) (h4 : Hid ((j : Int) ∈ xs)) : Hid (∀ q : Nat, 1 ≤ q → q < j + 1 → (q : Int) ∈ xs) := by
  intro q h1 h2
  rcases Nat.lt_or_ge q j with h3 | h3
  · exact h.out q h1 h3
  · rw [show q = j by omega]; exact h4.out

set_option maxHeartbeats 2000000 in
theorem fits_any (nm s x : Value) (oa ca : Option Addr) (k cap ccap t : Nat) (r m : Int) (b res : Bool) (xs : List Int) (w : World)
    (hb : rk r = b) (ht : topI r k = (t : Int)) (hres : fitsB b t r m xs = res) (hk : t + 1 ≤ 140737488351232) (hx : xs.length ≤ 140737488351232) (hs : Sl w w.heap.size ca (xs.map (Value.int .i64))) :
    Calls Try.prog 21 #[.agg #[nm, .slice oa k cap, .int .i64 r, s, .int .i64 m, x], .slice ca xs.length ccap] w fun e w' => e = .returned (.bool res) ∧ Below w.heap.size w w' := by
  have HB := Lib.hid hb
  have HT := Lib.hid ht
  have HS := Lib.hid hs
  have HR := Lib.hid hres
  clear hb ht hs hres
  obtain ⟨i0, hi, hz0, hz1, hz2⟩ := info_parts info4
  go_enter Try.func21, Try.ntmps21
  go_wp2_with (first
    | (go_at_call 36; refine (top_any _ _ _ _ _ _ _ _ _ HT.out _).mono ?_; rintro e w1 ⟨rfl, hb1⟩; obtain ⟨hc1, hf1⟩ := bcell hb1)
    | (at_make; refine wpList_make_full _ rfl _ _ 41 rfl w.heap.size 4 i0 (.bool false) 1 Try.underlying41 hi hz0 hz1 _ _ _ _ (t + 1) rfl rfl ?c1 ?c2 ?c3 ?c4 ?c5 ?_))
  case c1 => simp
  case c2 => simp
  case c3 => rw [hz2]; omega
  case c4 => unfold maxLen; omega
  case c5 => have := hb1.size; simp at this; omega
  intro w2 hown hgrow
  have hs1 := hb1.size
  simp only [World.size_alloc] at hs1
  have hgw : w.heap.size < w1.heap.size := by omega
  have hb2 : Below w.heap.size w w2 := (below_up ((Below.refl _ _).alloc (Nat.le_refl _) _) hb1).grown hgrow (by omega) (by simp)
  have hbox : ∀ o, w2.cell? ⟨w.heap.size, o, none⟩ = (#[nm, .slice oa k cap, .int .i64 r, s, .int .i64 m, x] : Array Value)[o]? := by
    intro o
    rw [World.cell?_of_block (w := w1) (hgrow.block _ hgw (by simp)), hb1.cell (p := ⟨w.heap.size, o, none⟩) (by simp)]
    simp [World.cell?_alloc_at]
  have hs2 := hgrow.size
  rw [← seenL_nil] at hown
  have hsb : w.heap.size ≤ w1.heap.size := by omega
  have hgg : w1.heap.size < w2.heap.size := (hown.lt _ rfl).2
  clear hb1 hgrow hs1 hs2
  generalize w1.heap.size = g at *
  go_wp2
  go_loopw [6, 16] (fun mk i wr => ∃ j : Nat, j ≤ xs.length ∧ i = .int .i64 j ∧ mk = .int .i64 (marks (xs.take j)) ∧ scan b t [] xs = scan b t (xs.take j) (xs.drop j) ∧
      Below w.heap.size w wr ∧ (∀ o, wr.cell? ⟨w.heap.size, o, none⟩ = (#[nm, .slice oa k cap, .int .i64 r, s, .int .i64 m, x] : Array Value)[o]?) ∧
      g < wr.heap.size ∧ wr.ownsRow w.heap.size 4 1 (.slice (some ⟨g, 0, none⟩) (t + 1) (t + 1)) (t + 1) (seenL t (xs.take j))) (fun _ i _ => xs.length - (intOf i).toNat)
  case atStart => exact ⟨0, Nat.zero_le _, rfl, rfl, rfl, hb2, hbox, hgg, hown⟩
  case round =>
    clear hown hgg hb2 hbox w2
    obtain ⟨j, hj, rfl, rfl, hsc, hbl, hbox, hgr, hown⟩ := hrel
    have HSC := Lib.hid hsc
    clear hsc
    have hwr : w.heap.size < wr.heap.size := by omega
    by_cases hjl : j < xs.length
    · obtain ⟨bb, off, rfl, hbb, hcell⟩ := (HS.out.below hbl).at j (by simpa using hjl)
      rw [List.getElem_map] at hcell
      have hbr : bb < wr.heap.size := by omega
      have hm := marks_at xs j hjl
      have hml := marks_le (xs.take j)
      have hsa := scan_at b t xs j hjl
      have htk := List.take_succ_eq_append_getElem hjl
      rw [List.length_take] at hml
      generalize xs[j] = n at hcell hm hsa htk
      generalize hM : marks (xs.take j) = M at *
      generalize hM1 : marks (xs.take (j + 1)) = M1 at *
      have HSA := Lib.hid hsa
      have HM := Lib.hid hM
      have HM1 := Lib.hid hM1
      have HMM := Lib.hid hm
      have HTK := Lib.hid htk
      clear hsa hM hM1 hm htk
      by_cases h1 : n < 0
      · go_wp2_with (first | (go_at_call 36; refine (top_any _ _ _ _ _ _ _ _ _ HT.out _).mono ?_; rintro e w3 ⟨rfl, hb3⟩; obtain ⟨hc3, hf3⟩ := bcell hb3; have hz3 := hb3.size) | (go_at_call 37; refine (ranks_any _ _ _ _ _ _ _ HB.out _).mono ?_; rintro e w4 ⟨rfl, hb4⟩; have hb5 := below_up hb3 hb4; obtain ⟨hc4, hf4⟩ := bcell hb5))
        go_ret
        refine ⟨ret_bool ?_, ?_⟩
        · rw [← HR.out, fitsB, HSC.out, HSA.out, if_pos (Or.inl h1)]; rfl
        · exact hbl
      · by_cases h2 : (t : Int) < n
        · go_wp2_with (first | (go_at_call 36; refine (top_any _ _ _ _ _ _ _ _ _ HT.out _).mono ?_; rintro e w3 ⟨rfl, hb3⟩; obtain ⟨hc3, hf3⟩ := bcell hb3; have hz3 := hb3.size) | (go_at_call 37; refine (ranks_any _ _ _ _ _ _ _ HB.out _).mono ?_; rintro e w4 ⟨rfl, hb4⟩; have hb5 := below_up hb3 hb4; obtain ⟨hc4, hf4⟩ := bcell hb5))
          go_ret
          refine ⟨ret_bool ?_, ?_⟩
          · rw [← HR.out, fitsB, HSC.out, HSA.out, if_pos (Or.inr (Or.inl h2))]; rfl
          · exact below_up hbl (by assumption)
        · obtain ⟨v, rfl⟩ : ∃ v : Nat, n = v := ⟨n.toNat, by omega⟩
          have hv : v < t + 1 := by omega
          have hsn := hown.cellAt v (by omega)
          rw [seenL_at _ _ _ hv] at hsn
          have hfn := hown.frozenAt v
          cases b
          · by_cases h3 : 0 < v
            · go_wp2_with (first | (go_at_call 36; refine (top_any _ _ _ _ _ _ _ _ _ HT.out _).mono ?_; rintro e w3 ⟨rfl, hb3⟩; obtain ⟨hc3, hf3⟩ := bcell hb3; have hz3 := hb3.size) | (go_at_call 37; refine (ranks_any _ _ _ _ _ _ _ HB.out _).mono ?_; rintro e w4 ⟨rfl, hb4⟩; have hb5 := below_up hb3 hb4; obtain ⟨hc4, hf4⟩ := bcell hb5))
              have S := fits_step (v := v) hbl hb5 hbox hgw hgr hown
              rw [← HTK.out] at S
              go_roundw
              case rel => exact ⟨j + 1, by omega, by go_num, by rw [HM1.out]; exact congrArg (Value.int .i64) (by rw [HMM.out, if_pos (by omega)]; omega), by rw [HSC.out, HSA.out, if_neg (by rintro (h | h | h) <;> first | omega | exact h4 h.2.2 | (simp at h; done) | (have := h.2.1; have := H3.out; omega))], S.1, S.2.1, S.2.2.1, S.2.2.2⟩
              case measure => simp [intOf]; omega
            · have h3' : decide (0 < v) = false := by simpa using h3
              have H3 := Lib.hid h3
              clear h3
              go_wp2_with (first | (go_at_call 36; refine (top_any _ _ _ _ _ _ _ _ _ HT.out _).mono ?_; rintro e w3 ⟨rfl, hb3⟩; obtain ⟨hc3, hf3⟩ := bcell hb3; have hz3 := hb3.size) | (go_at_call 37; refine (ranks_any _ _ _ _ _ _ _ HB.out _).mono ?_; rintro e w4 ⟨rfl, hb4⟩; have hb5 := below_up hb3 hb4; obtain ⟨hc4, hf4⟩ := bcell hb5))
              have S := fits_step (v := v) hbl hb5 hbox hgw hgr hown
              rw [← HTK.out] at S
              go_roundw
              case rel => exact ⟨j + 1, by omega, by go_num, by rw [HM1.out]; exact congrArg (Value.int .i64) (by have := H3.out; rw [HMM.out, if_neg (by omega)]; omega), by rw [HSC.out, HSA.out, if_neg (by rintro (h | h | h) <;> first | omega | exact h4 h.2.2 | (simp at h; done) | (have := h.2.1; have := H3.out; omega))], S.1, S.2.1, S.2.2.1, S.2.2.2⟩
              case measure => simp [intOf]; omega
          · by_cases h3 : 0 < v
            · by_cases h4 : (v : Int) ∈ xs.take j
              · rw [show decide ((v : Int) ∈ xs.take j) = true by simpa using h4] at hsn
                go_wp2_with (first | (go_at_call 36; refine (top_any _ _ _ _ _ _ _ _ _ HT.out _).mono ?_; rintro e w3 ⟨rfl, hb3⟩; obtain ⟨hc3, hf3⟩ := bcell hb3; have hz3 := hb3.size) | (go_at_call 37; refine (ranks_any _ _ _ _ _ _ _ HB.out _).mono ?_; rintro e w4 ⟨rfl, hb4⟩; have hb5 := below_up hb3 hb4; obtain ⟨hc4, hf4⟩ := bcell hb5))
                go_ret
                refine ⟨ret_bool ?_, below_up hbl hb5⟩
                rw [← HR.out, fitsB, HSC.out, HSA.out, if_pos (Or.inr (Or.inr (by simp [h4]; omega)))]; rfl
              · rw [show decide ((v : Int) ∈ xs.take j) = false by simpa using h4] at hsn
                go_wp2_with (first | (go_at_call 36; refine (top_any _ _ _ _ _ _ _ _ _ HT.out _).mono ?_; rintro e w3 ⟨rfl, hb3⟩; obtain ⟨hc3, hf3⟩ := bcell hb3; have hz3 := hb3.size) | (go_at_call 37; refine (ranks_any _ _ _ _ _ _ _ HB.out _).mono ?_; rintro e w4 ⟨rfl, hb4⟩; have hb5 := below_up hb3 hb4; obtain ⟨hc4, hf4⟩ := bcell hb5))
                have S := fits_step (v := v) hbl hb5 hbox hgw hgr hown
                rw [← HTK.out] at S
                go_roundw
                case rel => exact ⟨j + 1, by omega, by go_num, by rw [HM1.out]; exact congrArg (Value.int .i64) (by rw [HMM.out, if_pos (by omega)]; omega), by rw [HSC.out, HSA.out, if_neg (by rintro (h | h | h) <;> first | omega | exact h4 h.2.2 | (simp at h; done) | (have := h.2.1; have := H3.out; omega))], S.1, S.2.1, S.2.2.1, S.2.2.2⟩
                case measure => simp [intOf]; omega
            · have h3' : decide (0 < v) = false := by simpa using h3
              have H3 := Lib.hid h3
              clear h3
              go_wp2_with (first | (go_at_call 36; refine (top_any _ _ _ _ _ _ _ _ _ HT.out _).mono ?_; rintro e w3 ⟨rfl, hb3⟩; obtain ⟨hc3, hf3⟩ := bcell hb3; have hz3 := hb3.size) | (go_at_call 37; refine (ranks_any _ _ _ _ _ _ _ HB.out _).mono ?_; rintro e w4 ⟨rfl, hb4⟩; have hb5 := below_up hb3 hb4; obtain ⟨hc4, hf4⟩ := bcell hb5))
              have S := fits_step (v := v) hbl hb5 hbox hgw hgr hown
              rw [← HTK.out] at S
              go_roundw
              case rel => exact ⟨j + 1, by omega, by go_num, by rw [HM1.out]; exact congrArg (Value.int .i64) (by have := H3.out; rw [HMM.out, if_neg (by omega)]; omega), by rw [HSC.out, HSA.out, if_neg (by rintro (h | h | h) <;> first | omega | exact h4 h.2.2 | (simp at h; done) | (have := h.2.1; have := H3.out; omega))], S.1, S.2.1, S.2.2.1, S.2.2.2⟩
              case measure => simp [intOf]; omega
    · have hjn : j = xs.length := by omega
      subst hjn
      rw [List.take_length] at hown
      have hm := marks_le xs
      have hse := scan_end b t xs
      rw [← HSC.out] at hse
      have HSE := Lib.hid hse
      have ek : marks (xs.take xs.length) = marks xs := by rw [List.take_length]
      have HEK := Lib.hid ek
      clear hse hj hjl ek
      generalize hM : marks (xs.take xs.length) = M at *
      have HMX : Hid (M = marks xs) := HEK.out
      have hmx : M ≤ xs.length := by rw [HMX.out]; exact hm
      clear hM hm
      have hmt : Hid (b = true → M ≤ t) := by intro hb; subst hb; rw [HMX.out]; exact marks_le_top xs HSE.out
      go_wp2
      obtain ⟨wo, rfl⟩ : ∃ wo : World, wo = wr := ⟨_, rfl⟩
      go_loopw [9] (fun i wq => ∃ j : Nat, 1 ≤ j ∧ j ≤ M + 1 ∧ i = .int .i64 j ∧ Hid (∀ q : Nat, 1 ≤ q → q < j → (q : Int) ∈ xs) ∧
        Below wo.heap.size wo wq) (fun i _ => M + 1 - (intOf i).toNat)
      case atStart => exact ⟨1, by omega, by omega, rfl, fun q h1 h2 => by omega, Below.refl _ _⟩
      case round =>
        obtain ⟨j, hj1, hj2, rfl, HALL, hbq⟩ := hrel
        obtain ⟨hc5, hf5⟩ := bcell hbq
        have hzq := hbq.size
        have hwq : w.heap.size < wr.heap.size := by omega
        cases b
        · go_wp2_with (go_at_call 37; refine (ranks_any _ _ _ _ _ _ _ HB.out _).mono ?_; rintro e w4 ⟨rfl, hb4⟩; have hb5 := hbq.trans (hb4.mono hzq); obtain ⟨hc4, hf4⟩ := bcell hb5)
          all_goals
            go_ret
            refine ⟨ret_bool ?_, below_up hbl (by assumption)⟩
            rw [← HR.out, fitsB, HSE.out, ← HMX.out]
            simp [*]
        · by_cases hjM : j ≤ M
          · have hjt : j ≤ t := by have := hmt rfl; omega
            have hsn := hown.cellAt j (by omega)
            rw [seenL_at _ _ _ (by omega)] at hsn
            by_cases h4 : (j : Int) ∈ xs
            · rw [show decide ((j : Int) ∈ xs) = true by simpa using h4] at hsn
              have H4 := Lib.hid h4
              clear h4
              go_wp2_with (go_at_call 37; refine (ranks_any _ _ _ _ _ _ _ HB.out _).mono ?_; rintro e w4 ⟨rfl, hb4⟩; have hb5 := hbq.trans (hb4.mono hzq); obtain ⟨hc4, hf4⟩ := bcell hb5)
              go_roundw
              case rel => exact ⟨j + 1, by omega, by omega, by go_num, hall_step HALL H4, hb5⟩
              case measure => simp [intOf]; omega
            · rw [show decide ((j : Int) ∈ xs) = false by simpa using h4] at hsn
              have H4 := Lib.hid h4
              clear h4
              go_wp2_with (go_at_call 37; refine (ranks_any _ _ _ _ _ _ _ HB.out _).mono ?_; rintro e w4 ⟨rfl, hb4⟩; have hb5 := hbq.trans (hb4.mono hzq); obtain ⟨hc4, hf4⟩ := bcell hb5)
              go_ret
              refine ⟨ret_bool ?_, below_up hbl hb5⟩
              rw [← HR.out, fitsB, HSE.out, ← HMX.out]
              have : ((List.range M).all fun j => decide (((j : Int) + 1) ∈ xs)) = false := by
                rw [← Bool.not_eq_true, List.all_eq_true]
                intro h
                have := h (j - 1) (by simp; omega)
                rw [show ((j - 1 : Nat) : Int) + 1 = j by omega] at this
                exact H4.out (by simpa using this)
              rw [this]; simp
          · have hjq : M < j := by omega
            clear hjM
            go_wp2_with (go_at_call 37; refine (ranks_any _ _ _ _ _ _ _ HB.out _).mono ?_; rintro e w4 ⟨rfl, hb4⟩; have hb5 := hbq.trans (hb4.mono hzq); obtain ⟨hc4, hf4⟩ := bcell hb5)
            all_goals
              go_ret
              refine ⟨ret_bool ?_, below_up hbl (by assumption)⟩
              have : ((List.range M).all fun j => decide (((j : Int) + 1) ∈ xs)) = true := by
                rw [List.all_eq_true]
                intro q hq
                rw [List.mem_range] at hq
                exact decide_eq_true (HALL.out (q + 1) (by omega) (by omega))
              rw [← HR.out, fitsB, HSE.out, ← HMX.out, this]
              simp [*]

end Go.Proofs.Ytbjhcpchljjmhaa
