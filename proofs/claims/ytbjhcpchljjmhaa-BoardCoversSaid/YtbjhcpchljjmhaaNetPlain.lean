/- The network of a mix: which gates stand on a list of wires, and how many. No condition. -/
namespace Go.Proofs.Ytbjhcpchljjmhaa

def pairs (k : Nat) (xs : List Int) : List (Int × Int) := (List.range k).map fun i => (xs.getD (2 * i) 0, xs.getD (2 * i + 1) 0)

def isUp (n i : Nat) : Bool := decide (i % 2 = 0) && decide (i < 2 * (n / 2))

/-- The wires of the upper and the lower inner network, of the first j wires of n. -/
def upTo (n : Nat) (xs : List Int) : Nat → List Int
  | 0 => []
  | j + 1 => upTo n xs j ++ if isUp n j then [xs.getD j 0] else []
def lowTo (n : Nat) (xs : List Int) : Nat → List Int
  | 0 => []
  | j + 1 => lowTo n xs j ++ if isUp n j then [] else [xs.getD j 0]

theorem upTo_length (n : Nat) (xs : List Int) : ∀ j, j ≤ n → (upTo n xs j).length = min ((j + 1) / 2) (n / 2)
  | 0, _ => by simp [upTo]
  | j + 1, h => by
    rw [upTo, List.length_append, upTo_length n xs j (by omega)]
    by_cases hu : isUp n j = true
    · rw [if_pos hu]
      simp [isUp] at hu
      simp only [List.length_singleton]; omega
    · rw [if_neg hu]
      simp [isUp] at hu
      simp only [List.length_nil]; omega

theorem both_length (n : Nat) (xs : List Int) : ∀ j, (upTo n xs j).length + (lowTo n xs j).length = j
  | 0 => rfl
  | j + 1 => by
    have := both_length n xs j
    rw [upTo, lowTo, List.length_append, List.length_append]
    split <;> simp only [List.length_singleton, List.length_nil] <;> omega

def upper (xs : List Int) : List Int := upTo xs.length xs xs.length
def lower (xs : List Int) : List Int := lowTo xs.length xs xs.length

theorem upper_length (xs : List Int) : (upper xs).length = xs.length / 2 := by
  rw [upper, upTo_length _ _ _ (Nat.le_refl _)]; omega
theorem lower_length (xs : List Int) : (lower xs).length = xs.length - xs.length / 2 := by
  have h1 := both_length xs.length xs xs.length
  have h2 := upper_length xs
  unfold upper at h2; unfold lower; omega

/-- How many gates stand in the last row. -/
def lastRow (n : Nat) : Nat := (n - 1 + n % 2) / 2

def gatesF : Nat → List Int → List (Int × Int)
  | 0, _ => []
  | f + 1, xs =>
    if xs.length < 2 then [] else if xs.length = 2 then [(xs.getD 0 0, xs.getD 1 0)]
    else pairs (xs.length / 2) xs ++ gatesF f (upper xs) ++ gatesF f (lower xs) ++ pairs (lastRow xs.length) xs

theorem gatesF_fuel : ∀ (f g : Nat) (xs : List Int), xs.length ≤ f → xs.length ≤ g → gatesF f xs = gatesF g xs
  | 0, 0, _, _, _ => rfl
  | 0, g + 1, xs, h, _ => by rw [gatesF, gatesF, if_pos (by omega)]
  | f + 1, 0, xs, _, h => by rw [gatesF, gatesF, if_pos (by omega)]
  | f + 1, g + 1, xs, h1, h2 => by
    rw [gatesF, gatesF]
    by_cases h : xs.length < 2
    · rw [if_pos h, if_pos h]
    · by_cases h' : xs.length = 2
      · rw [if_neg h, if_neg h, if_pos h', if_pos h']
      · have hu := upper_length xs
        have hl := lower_length xs
        rw [if_neg h, if_neg h, if_neg h', if_neg h', gatesF_fuel f g (upper xs) (by omega) (by omega), gatesF_fuel f g (lower xs) (by omega) (by omega)]

def gatesL (xs : List Int) : List (Int × Int) := gatesF xs.length xs

theorem gatesL_few (xs : List Int) (h : xs.length < 2) : gatesL xs = [] := by
  unfold gatesL
  cases hn : xs.length with
  | zero => rfl
  | succ n => rw [gatesF, if_pos h]

theorem gatesL_two (xs : List Int) (h : xs.length = 2) : gatesL xs = [(xs.getD 0 0, xs.getD 1 0)] := by
  unfold gatesL
  rw [h, gatesF, if_neg (by omega), if_pos h]

theorem gatesL_more (xs : List Int) (h : 2 < xs.length) : gatesL xs = pairs (xs.length / 2) xs ++ gatesL (upper xs) ++ gatesL (lower xs) ++ pairs (lastRow xs.length) xs := by
  unfold gatesL
  obtain ⟨n, hn⟩ : ∃ n, xs.length = n + 1 := ⟨xs.length - 1, by omega⟩
  have hu := upper_length xs
  have hl := lower_length xs
  rw [gatesF_fuel xs.length (n + 1) xs (Nat.le_refl _) (by omega), gatesF, if_neg (by omega), if_neg (by omega), gatesF_fuel n _ (upper xs) (by omega) (Nat.le_refl _),
    gatesF_fuel n _ (lower xs) (by omega) (Nat.le_refl _)]

/-! How many. -/
def cntF : Nat → Nat → Nat
  | 0, _ => 0
  | f + 1, n => if n < 2 then 0 else if n = 2 then 1 else n / 2 + cntF f (n / 2) + cntF f (n - n / 2) + lastRow n

theorem cntF_succ (f n : Nat) : cntF (f + 1) n = if n < 2 then 0 else if n = 2 then 1 else n / 2 + cntF f (n / 2) + cntF f (n - n / 2) + lastRow n := rfl

theorem gatesF_length : ∀ (f : Nat) (xs : List Int), (gatesF f xs).length = cntF f xs.length
  | 0, _ => rfl
  | f + 1, xs => by
    rw [gatesF, cntF]
    by_cases h : xs.length < 2
    · rw [if_pos h, if_pos h]; rfl
    · by_cases h' : xs.length = 2
      · rw [if_neg h, if_neg h, if_pos h', if_pos h']; rfl
      · rw [if_neg h, if_neg h, if_neg h', if_neg h']
        simp only [List.length_append, pairs, List.length_map, List.length_range, gatesF_length f, upper_length, lower_length]

/-- The least k with 2 to the k not below i. -/
def logUp (i : Nat) : Nat → Nat
  | 0 => 0
  | f + 1 => let k := logUp i f; if 2 ^ k < i then k + 1 else k

def wantTo : Nat → Nat
  | 0 => 0
  | n + 1 => wantTo n + (if n + 1 < 2 then 0 else logUp (n + 1) 9)

theorem cnt_few (n : Nat) (h : n ≤ 256) : cntF 10 n = wantTo n := by
  have H : (List.range 257).all (fun n => cntF 10 n == wantTo n) = true := by decide +kernel
  have := List.all_eq_true.1 H n (by simp; omega)
  simpa using this

theorem cntF_fuel : ∀ (f n : Nat), n ≤ 2 ^ f → ∀ g, f ≤ g → cntF (f + 1) n = cntF (g + 1) n
  | 0, n, h, g, _ => by rw [cntF_succ 0, cntF_succ g, if_pos (by omega), if_pos (by omega)]
  | f + 1, n, h, g, hg => by
    obtain ⟨g', rfl⟩ : ∃ g', g = g' + 1 := ⟨g - 1, by omega⟩
    rw [Nat.pow_succ] at h
    rw [cntF_succ (f + 1), cntF_succ (g' + 1), cntF_fuel f (n / 2) (by omega) g' (by omega), cntF_fuel f (n - n / 2) (by omega) g' (by omega)]

theorem gatesL_length (xs : List Int) (h : xs.length ≤ 256) : (gatesL xs).length = wantTo xs.length := by
  have e : gatesL xs = gatesF (max xs.length 10) xs := gatesF_fuel _ _ _ (Nat.le_refl _) (by omega)
  rw [e, gatesF_length, ← cnt_few _ h]
  obtain ⟨g, hg⟩ : ∃ g, max xs.length 10 = g + 1 := ⟨max xs.length 10 - 1, by omega⟩
  rw [hg, ← cntF_fuel 8 xs.length (by omega) g (by omega), ← cntF_fuel 8 xs.length (by omega) 9 (by omega)]

/-! The wires of a gate. -/
def Rising (n : Int) (xs : List Int) : Prop := (∀ i, i < xs.length → 0 ≤ xs.getD i 0 ∧ xs.getD i 0 < n) ∧ ∀ i j, j < xs.length → i < j → xs.getD i 0 < xs.getD j 0

theorem upTo_pos (n : Nat) (xs : List Int) : ∀ j, j ≤ n → ∀ i, i < (upTo n xs j).length → (upTo n xs j).getD i 0 = xs.getD (2 * i) 0
  | 0, _, i, h => by simp [upTo] at h
  | j + 1, hj, i, h => by
    have ih := upTo_pos n xs j (by omega)
    have hl := upTo_length n xs j (by omega)
    rw [upTo] at h ⊢
    by_cases hu : isUp n j = true
    · rw [if_pos hu] at h ⊢
      simp [isUp] at hu
      simp only [List.length_append, List.length_singleton] at h
      rcases Nat.lt_or_ge i (upTo n xs j).length with h1 | h1
      · rw [← ih i h1]; simp [List.getD, List.getElem?_append_left h1]
      · have : i = (upTo n xs j).length := by omega
        have e : 2 * i = j := by omega
        rw [e]; simp [List.getD, this]
    · rw [if_neg hu] at h ⊢
      simp only [List.append_nil] at h ⊢
      exact ih i h

theorem lowTo_pos (n : Nat) (xs : List Int) : ∀ j, j ≤ n → ∀ i, i < (lowTo n xs j).length → (lowTo n xs j).getD i 0 = xs.getD (if i < n / 2 then 2 * i + 1 else 2 * (n / 2) + (i - n / 2)) 0
  | 0, _, i, h => by simp [lowTo] at h
  | j + 1, hj, i, h => by
    have ih := lowTo_pos n xs j (by omega)
    have hl := upTo_length n xs j (by omega)
    have hb := both_length n xs j
    rw [lowTo] at h ⊢
    by_cases hu : isUp n j = true
    · rw [if_pos hu] at h ⊢
      simp only [List.append_nil] at h ⊢
      exact ih i h
    · rw [if_neg hu] at h ⊢
      simp [isUp] at hu
      simp only [List.length_append, List.length_singleton] at h
      rcases Nat.lt_or_ge i (lowTo n xs j).length with h1 | h1
      · rw [← ih i h1]; simp [List.getD, List.getElem?_append_left h1]
      · have hi : i = (lowTo n xs j).length := by omega
        have e : (if i < n / 2 then 2 * i + 1 else 2 * (n / 2) + (i - n / 2)) = j := by
          split <;> omega
        rw [e]; simp [List.getD, hi]

theorem rising_upper {n : Int} {xs : List Int} (h : Rising n xs) : Rising n (upper xs) := by
  have hl := upper_length xs
  refine ⟨fun i hi => ?_, fun i j hj hij => ?_⟩
  · rw [upper, upTo_pos _ _ _ (Nat.le_refl _) _ (by exact hi)]; exact h.1 _ (by omega)
  · rw [upper, upTo_pos _ _ _ (Nat.le_refl _) _ (by unfold upper at hj; omega), upTo_pos _ _ _ (Nat.le_refl _) _ (by exact hj)]; exact h.2 _ _ (by omega) (by omega)

theorem rising_lower {n : Int} {xs : List Int} (h : Rising n xs) : Rising n (lower xs) := by
  have hl := lower_length xs
  refine ⟨fun i hi => ?_, fun i j hj hij => ?_⟩
  · rw [lower, lowTo_pos _ _ _ (Nat.le_refl _) _ (by exact hi)]; exact h.1 _ (by split <;> omega)
  · rw [lower, lowTo_pos _ _ _ (Nat.le_refl _) _ (by unfold lower at hj; omega), lowTo_pos _ _ _ (Nat.le_refl _) _ (by exact hj)]
    refine h.2 _ _ (by split <;> omega) (by split <;> split <;> omega)

/-- A gate is on two wires, the first below the second, both of the network. -/
def GoodGates (n : Int) (l : List (Int × Int)) : Prop := ∀ g ∈ l, 0 ≤ g.1 ∧ g.1 < g.2 ∧ g.2 < n

theorem pairs_good {n : Int} {xs : List Int} (h : Rising n xs) (k : Nat) (hk : 2 * k ≤ xs.length) : GoodGates n (pairs k xs) := by
  intro g hg
  simp only [pairs, List.mem_map, List.mem_range] at hg
  obtain ⟨i, hi, rfl⟩ := hg
  exact ⟨(h.1 _ (by omega)).1, h.2 _ _ (by omega) (by omega), (h.1 _ (by omega)).2⟩

theorem gatesF_good {n : Int} : ∀ (f : Nat) (xs : List Int), Rising n xs → GoodGates n (gatesF f xs)
  | 0, _, _ => by intro g hg; simp [gatesF] at hg
  | f + 1, xs, h => by
    rw [gatesF]
    by_cases h1 : xs.length < 2
    · rw [if_pos h1]; intro g hg; simp at hg
    · by_cases h2 : xs.length = 2
      · rw [if_neg h1, if_pos h2]
        intro g hg
        simp only [List.mem_singleton] at hg
        subst hg
        exact ⟨(h.1 _ (by omega)).1, h.2 _ _ (by omega) (by omega), (h.1 _ (by omega)).2⟩
      · rw [if_neg h1, if_neg h2]
        intro g hg
        simp only [List.mem_append] at hg
        rcases hg with ((hg | hg) | hg) | hg
        · exact pairs_good h _ (by omega) g hg
        · exact gatesF_good f _ (rising_upper h) g hg
        · exact gatesF_good f _ (rising_lower h) g hg
        · exact pairs_good h _ (by unfold lastRow; omega) g hg

def iota (n : Nat) : List Int := (List.range n).map fun (i : Nat) => (i : Int)
theorem iota_length (n : Nat) : (iota n).length = n := by simp [iota]
theorem iota_getD (n i : Nat) (h : i < n) : (iota n).getD i 0 = i := by simp [iota, List.getD, h]
theorem iota_succ (n : Nat) : iota (n + 1) = iota n ++ [(n : Int)] := by simp [iota, List.range_succ]

theorem rising_iota (n : Nat) : Rising n (iota n) := by
  refine ⟨fun i hi => ?_, fun i j hj hij => ?_⟩
  · rw [iota_length] at hi; rw [iota_getD _ _ hi]; omega
  · rw [iota_length] at hj; rw [iota_getD _ _ hj, iota_getD _ _ (by omega)]; omega

theorem plan_good (n : Nat) : GoodGates n (gatesL (iota n)) := gatesF_good _ _ (rising_iota n)

end Go.Proofs.Ytbjhcpchljjmhaa
