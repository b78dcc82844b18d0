/- Choices that fit: what the program reckons is what the document says. No condition. -/
namespace Go.Proofs.Ytbjhcpchljjmhaa

def scan (b : Bool) (t : Nat) (seen : List Int) : List Int → Bool
  | [] => true
  | x :: xs => if x < 0 ∨ (t : Int) < x ∨ (b = true ∧ 0 < x ∧ x ∈ seen) then false else scan b t (seen ++ [x]) xs

def marks (xs : List Int) : Nat := (xs.filter (fun x => decide (0 < x))).length

def fitsB (b : Bool) (t : Nat) (r m : Int) (xs : List Int) : Bool :=
  scan b t [] xs && ((!b || (List.range (marks xs)).all (fun j => decide (((j : Int) + 1) ∈ xs))) && (r != 1 || decide ((marks xs : Int) ≤ m)))

theorem scan_at (b : Bool) (t : Nat) (xs : List Int) : ∀ j (hj : j < xs.length), scan b t (xs.take j) (xs.drop j) = if xs[j] < 0 ∨ (t : Int) < xs[j] ∨ (b = true ∧ 0 < xs[j] ∧ xs[j] ∈ xs.take j) then false else scan b t (xs.take (j + 1)) (xs.drop (j + 1)) := by
  intro j hj
  rw [List.drop_eq_getElem_cons hj, scan, List.take_succ_eq_append_getElem hj]

theorem scan_end (b : Bool) (t : Nat) (xs : List Int) : scan b t (xs.take xs.length) (xs.drop xs.length) = true := by
  rw [List.drop_length]; rfl

theorem marks_at (xs : List Int) (j : Nat) (hj : j < xs.length) : marks (xs.take (j + 1)) = marks (xs.take j) + if 0 < xs[j] then 1 else 0 := by
  rw [List.take_succ_eq_append_getElem hj, marks, List.filter_append, List.length_append]
  by_cases h : 0 < xs[j] <;> simp [marks, h]

theorem marks_le (xs : List Int) : marks xs ≤ xs.length := List.length_filter_le _ _

/-! Of a list of different numbers from 1 to t there are at most t. -/
theorem nodup_le : ∀ (t : Nat) (l : List Int), l.Nodup → (∀ x ∈ l, 0 < x ∧ x ≤ (t : Int)) → l.length ≤ t
  | 0, l, _, h => by
    cases l with
    | nil => simp
    | cons x l => have := h x (by simp); omega
  | t + 1, l, hn, h => by
    by_cases hm : ((t : Int) + 1) ∈ l
    · have h1 := nodup_le t (l.erase ((t : Int) + 1)) (hn.erase _) (fun x hx => by
        have h2 := h x (List.mem_of_mem_erase hx)
        have h3 : x ≠ (t : Int) + 1 := by
          intro e; subst e
          exact (hn.not_mem_erase) hx
        omega)
      rw [List.length_erase_of_mem hm] at h1
      omega
    · have h1 := nodup_le t l hn (fun x hx => by
        have h2 := h x hx
        have h3 : x ≠ (t : Int) + 1 := fun e => hm (e ▸ hx)
        omega)
      omega

theorem scan_true {b : Bool} {t : Nat} : ∀ (xs seen : List Int), scan b t seen xs = true → ∀ x ∈ xs, 0 ≤ x ∧ x ≤ (t : Int)
  | [], _, _ => by simp
  | y :: ys, seen, h => by
    rw [scan] at h
    split at h
    · simp at h
    · rename_i hn
      intro x hx
      rcases List.mem_cons.1 hx with rfl | hx
      · omega
      · exact scan_true ys _ h x hx

theorem scan_nodup {t : Nat} : ∀ (xs seen : List Int), (seen.filter (fun x => decide (0 < x))).Nodup → scan true t seen xs = true → ((seen ++ xs).filter (fun x => decide (0 < x))).Nodup
  | [], seen, hs, _ => by simpa using hs
  | y :: ys, seen, hs, h => by
    rw [scan] at h
    split at h
    · simp at h
    · rename_i hn
      have e : seen ++ y :: ys = (seen ++ [y]) ++ ys := by simp
      rw [e]
      refine scan_nodup ys _ ?_ h
      rw [List.filter_append]
      by_cases hy : 0 < y
      · have hys : y ∉ seen := fun hm => hn (Or.inr (Or.inr ⟨rfl, hy, hm⟩))
        simp only [List.filter_cons, hy, decide_true, if_true, List.filter_nil]
        rw [List.nodup_append]
        refine ⟨hs, by simp, ?_⟩
        intro a ha c hc e2
        simp only [List.mem_singleton] at hc
        subst hc; subst e2
        exact hys (List.mem_filter.1 ha).1
      · simpa [List.filter_cons, hy] using hs

theorem scan_of {b : Bool} {t : Nat} : ∀ (xs seen : List Int), (∀ x ∈ xs, 0 ≤ x ∧ x ≤ (t : Int)) → (b = true → ((seen ++ xs).filter (fun x => decide (0 < x))).Nodup) → scan b t seen xs = true
  | [], _, _, _ => rfl
  | y :: ys, seen, hr, hn => by
    rw [scan, if_neg]
    · refine scan_of ys _ (fun x hx => hr x (by simp [hx])) (fun hb => ?_)
      have := hn hb
      simpa using this
    · rintro (h | h | ⟨hb, h0, hm⟩)
      · have := hr y (by simp); omega
      · have := hr y (by simp); omega
      · have := hn hb
        rw [List.filter_append, List.filter_cons, if_pos (by simpa using h0), List.nodup_append] at this
        exact this.2.2 y (List.mem_filter.2 ⟨hm, by simpa using h0⟩) y (by simp) rfl

theorem marks_le_top {t : Nat} (xs : List Int) (h : scan true t [] xs = true) : marks xs ≤ t :=
  nodup_le t _ (by simpa using scan_nodup xs [] (by simp) h) (fun x hx => by
    have h1 := List.mem_filter.1 hx
    have h2 := scan_true xs [] h x h1.1
    have h3 : 0 < x := by simpa using h1.2
    omega)

/-! The document's way: how often each number stands. -/
def refFits (b : Bool) (t : Nat) (r m : Int) (xs : List Int) : Bool :=
  xs.all (fun x => decide (0 ≤ x ∧ x ≤ (t : Int))) &&
    let k := xs.length - xs.count 0
    if b then (List.range k).all (fun j => decide (xs.count ((j : Int) + 1) = 1)) else !(r == 1 && decide (m < (k : Int)))

theorem marks_eq (t : Nat) (xs : List Int) (h : ∀ x ∈ xs, 0 ≤ x ∧ x ≤ (t : Int)) : xs.length - xs.count 0 = marks xs := by
  induction xs with
  | nil => rfl
  | cons y ys ih =>
    have ih := ih (fun x hx => h x (by simp [hx]))
    have hy := h y (by simp)
    have hc := List.count_le_length (a := (0 : Int)) (l := ys)
    by_cases h0 : y = 0
    · subst h0
      simp only [List.count_cons_self, List.length_cons, marks, List.filter_cons] at *
      simp; omega
    · have hp : 0 < y := by omega
      rw [List.count_cons_of_ne (by omega)]
      simp only [List.length_cons, marks, List.filter_cons, hp, decide_true, if_true] at *
      omega

def inR (k x : Int) : Bool := decide (0 < x ∧ x ≤ k)
theorem inR_iff {k x : Int} : inR k x = true ↔ 0 < x ∧ x ≤ k := by simp [inR]

/-- The sum of how often 1 to k stand is at most how many are above 0; and if one above k stands, less. -/
theorem count_sum (xs : List Int) : ∀ k : Nat, (∀ j, j < k → xs.count ((j : Int) + 1) = 1) → (xs.filter (inR k)).length = k
  | 0, _ => by
    rw [List.length_eq_zero_iff, List.filter_eq_nil_iff]
    intro x _ h
    have := inR_iff.1 h; omega
  | k + 1, h => by
    have ih := count_sum xs k (fun j hj => h j (by omega))
    have h1 := h k (by omega)
    have : ∀ ys : List Int, (ys.filter (inR ((k + 1 : Nat) : Int))).length = (ys.filter (inR k)).length + ys.count ((k : Int) + 1) := by
      intro ys
      induction ys with
      | nil => rfl
      | cons y ys ih2 =>
        simp only [List.filter_cons, List.count_cons]
        by_cases h2 : y = (k : Int) + 1
        · subst h2
          have e1 : inR ((k + 1 : Nat) : Int) ((k : Int) + 1) = true := inR_iff.2 (by omega)
          have e2 : inR k ((k : Int) + 1) = false := by rw [← Bool.not_eq_true, inR_iff]; omega
          rw [e1, e2]; simp only [beq_self_eq_true, if_true, List.length_cons, ih2]; simp only [Bool.false_eq_true, if_false]; omega
        · have e : inR ((k + 1 : Nat) : Int) y = inR k y := by
            rw [Bool.eq_iff_iff, inR_iff, inR_iff]; omega
          have e3 : (y == (k : Int) + 1) = false := by simpa using h2
          rw [e, e3]
          by_cases h4 : inR k y = true
          · simp only [h4, if_true, List.length_cons, ih2, Bool.false_eq_true, if_false]; omega
          · simp only [h4, if_false, ih2, Bool.false_eq_true]; omega
    rw [this, ih, h1]

theorem nodup_of_count : ∀ (l : List Int), (∀ x ∈ l, l.count x = 1) → l.Nodup := by
  intro l h
  rw [List.nodup_iff_count]
  intro a
  by_cases ha : a ∈ l
  · rw [h a ha]; exact Nat.le_refl _
  · rw [List.count_eq_zero_of_not_mem ha]; omega

theorem fits_eq (b : Bool) (t : Nat) (r m : Int) (xs : List Int) (hb : b = true → r ≠ 1) : fitsB b t r m xs = refFits b t r m xs := by
  unfold fitsB refFits
  by_cases hr : ∀ x ∈ xs, 0 ≤ x ∧ x ≤ (t : Int)
  · have hall : xs.all (fun x => decide (0 ≤ x ∧ x ≤ (t : Int))) = true := by simpa using hr
    rw [hall, Bool.true_and]
    simp only [marks_eq t xs hr]
    cases b with
    | false =>
      rw [scan_of xs [] hr (by simp)]
      simp only [Bool.not_false, Bool.true_or, Bool.true_and, Bool.false_eq_true, if_false]
      by_cases h1 : r = 1
      · subst h1
        by_cases h2 : (marks xs : Int) ≤ m
        · have : ¬ m < (marks xs : Int) := by omega
          simp [h2, this]
        · have : m < (marks xs : Int) := by omega
          simp [h2, this]
      · have e : (r == 1) = false := by simpa using h1
        simp [bne, e]
    | true =>
      have hne : (r != 1) = true := by simpa using hb rfl
      simp only [hne, Bool.true_or, Bool.and_true, Bool.not_true, Bool.false_or, if_true]
      rw [Bool.eq_iff_iff]
      simp only [Bool.and_eq_true, List.all_eq_true, List.mem_range, decide_eq_true_eq]
      constructor
      · rintro ⟨hs, hm⟩ j hj
        have hnd : (xs.filter (fun x => decide (0 < x))).Nodup := by simpa using scan_nodup xs [] (by simp) hs
        have h1 := hm j hj
        have h2 : 0 < xs.count ((j : Int) + 1) := List.count_pos_iff.2 h1
        have h3 : (xs.filter (fun x => decide (0 < x))).count ((j : Int) + 1) = xs.count ((j : Int) + 1) :=
          List.count_filter (by simp)
        have h4 := List.nodup_iff_count.1 hnd ((j : Int) + 1)
        omega
      · intro hc
        have hs := count_sum xs (marks xs) hc
        have hsub : ∀ x ∈ xs, 0 < x → x ≤ (marks xs : Int) := by
          have le : ∀ (k : Int) (ys : List Int), (ys.filter (inR k)).length ≤ marks ys := by
            intro k ys
            induction ys with
            | nil => simp [marks]
            | cons y ys ih =>
              unfold marks at ih ⊢
              by_cases h1 : 0 < y
              · rw [List.filter_cons_of_pos (p := fun x => decide (0 < x)) (by simpa using h1)]
                by_cases h5 : inR k y = true
                · rw [List.filter_cons_of_pos h5]
                  simp only [List.length_cons]; omega
                · rw [List.filter_cons_of_neg h5]
                  simp only [List.length_cons]; omega
              · rw [List.filter_cons_of_neg (p := fun x => decide (0 < x)) (by simpa using h1), List.filter_cons_of_neg (p := inR k) (by rw [inR_iff]; omega)]
                exact ih
          have key : ∀ (k : Int) (ys : List Int), (ys.filter (inR k)).length = marks ys → ∀ x ∈ ys, 0 < x → x ≤ k := by
            intro k ys
            induction ys with
            | nil => simp
            | cons y ys ih =>
              intro hl x hx h0
              have hle := le k ys
              unfold marks at hl hle ih
              by_cases h1 : 0 < y
              · rw [List.filter_cons_of_pos (p := fun x => decide (0 < x)) (by simpa using h1)] at hl
                by_cases h5 : inR k y = true
                · rw [List.filter_cons_of_pos h5] at hl
                  rcases List.mem_cons.1 hx with rfl | hx
                  · exact (inR_iff.1 h5).2
                  · refine ih ?_ x hx h0
                    simp only [List.length_cons] at hl; omega
                · rw [List.filter_cons_of_neg h5] at hl
                  simp only [List.length_cons] at hl; omega
              · rw [List.filter_cons_of_neg (p := fun x => decide (0 < x)) (by simpa using h1), List.filter_cons_of_neg (p := inR k) (by rw [inR_iff]; omega)] at hl
                rcases List.mem_cons.1 hx with rfl | hx
                · exact absurd h0 h1
                · exact ih hl x hx h0
          exact key _ xs hs
        have hnd : (xs.filter (fun x => decide (0 < x))).Nodup := by
          apply nodup_of_count
          intro x hx
          obtain ⟨hx1, hx2⟩ := List.mem_filter.1 hx
          rw [List.count_filter (p := fun x => decide (0 < x)) hx2]
          have h0 : 0 < x := by simpa using hx2
          have h1 := hsub x hx1 h0
          have := hc (x.toNat - 1) (by omega)
          rw [show ((x.toNat - 1 : Nat) : Int) + 1 = x by omega] at this
          exact this
        refine ⟨scan_of xs [] hr (fun _ => by rw [List.nil_append]; exact hnd), ?_⟩
        intro j hj
        exact List.count_pos_iff.1 (by rw [hc j hj]; omega)
  · have hall : xs.all (fun x => decide (0 ≤ x ∧ x ≤ (t : Int))) = false := by
      rw [← Bool.not_eq_true]; simpa using hr
    have hs : scan b t [] xs = false := by
      rw [← Bool.not_eq_true]
      exact fun h => hr (scan_true xs [] h)
    rw [hall, hs]; rfl

end Go.Proofs.Ytbjhcpchljjmhaa
