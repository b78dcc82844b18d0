/- Texts of this seat, one behind the other: what SigmaExtracts leans on. No condition beyond those that each names. -/
import Derived.Test.YtipgjookfdkciaaZSigmaExtracts5
import Derived.Test.YtipgjookfdkciaaRows
import Derived.ProofKit
import Derived.SizedLaws
import Derived.Lib.SmallJoins
import Derived.Deep.Slices
import Derived.Deep.Fields

/- Lists of scalars, of elements, as the package sigma reads them. Condition: the lists that memory can hold. -/
namespace Go.Proofs.Ytipgjookfdkciaa
open Go.RowKit

theorem infoScalar : (Try.prog.info? 91).map (fun i => (i.zero, i.size, i.bytes)) = some (some (.agg #[.int .u64 0, .int .u64 0, .int .u64 0, .int .u64 0]), 4, 32) := by kernel_rfl
theorem infoElem : (Try.prog.info? 111).map (fun i => (i.zero, i.size, i.bytes)) = some (some (.agg #[.int .u64 0, .int .u64 0, .int .u64 0, .int .u64 0]), 4, 32) := by kernel_rfl

/-- A number's four limbs in the inner form. -/
def limC (m : Nat) (s : ByteArray) : List Value := [.int .u64 (dig (mont m (numOf s)) 0 : Int), .int .u64 (dig (mont m (numOf s)) 1 : Int), .int .u64 (dig (mont m (numOf s)) 2 : Int), .int .u64 (dig (mont m (numOf s)) 3 : Int)]
theorem limC_len (m : Nat) (s : ByteArray) : (limC m s).length = 4 := rfl

def AllR (m : Nat) (f : ByteArray → Bool) (l : List ByteArray) (w : World) (e : Ending) (w' : World) : Prop :=
  Below w.heap.size w w' ∧ if l.all f then ∃ a c, e = .returned (.tuple #[.slice a l.length c, .bool true]) ∧ Sl w' w'.heap.size a (l.flatMap (limC m)) ∧ (∀ x, a = some x → w.heap.size ≤ x.block) else e = .returned (.tuple #[.slice none 0 0, .bool false])

theorem isStr_flat (l : List ByteArray) : l.map Value.string = l.flatMap (fun s => [Value.string s]) := by
  induction l with
  | nil => rfl
  | cons x l ih => simp [ih]

set_option maxRecDepth 100000 in
set_option maxHeartbeats 2000000 in
theorem allSc_any (G : GP) (ok : G.Ok) (gb : Nat) (l : List ByteArray) (al : Option Addr) (cl : Nat) (hl : l.length ≤ 8796093022207) (w : World) (hG : GroupAt w gb G) (hS : Sl w w.heap.size al (l.map Value.string)) :
    Calls Try.prog 58 #[.slice al l.length cl, .func (.func 59) #[.pointer (some ⟨gb, 0, none⟩)] #[]] w (AllR G.q.m (isSc G.q.m G.size) l w) := by
  have OK := Lib.hid ok
  have HG := Lib.hid hG
  have HS := Lib.hid hS
  clear ok hG hS
  go_enter Try.func58, Try.ntmps58
  obtain ⟨i9, hi9, hz90, hz91, hz92⟩ := info_parts infoScalar
  go_wp2_with (at_make; refine wpList_make_own _ rfl _ _ 84 rfl (w.heap.size) 91 i9 _ 4 Try.underlying84 hi9 hz90 hz91 _ _ _ (l.length) rfl rfl ?c1 ?c2 ?c3 ?c4 ?_)
  case c1 => rfl
  case c2 => rw [hz92]; omega
  case c3 => unfold maxLen; omega
  case c4 => omega
  intro w1 hown9 hg9
  have hb9 : Below w.heap.size w w1 := (Below.refl _ _).grown hg9 (Nat.le_refl _) (fun q hq => by cases hq)
  have HB := Lib.hid hb9
  have Hs1 := Lib.hid (show w.heap.size ≤ w1.heap.size from hb9.size)
  have Hr : Hid (RowO (w.heap.size) w1 91 4 (.slice (some ⟨w.heap.size, 0, none⟩) 0 (l.length)) 0 []) := Lib.hid hown9
  clear hb9 hown9 hg9 hi9 hz90 hz91 hz92
  go_wp2_with fail
  go_loopw [16, 6] (fun i v wr => ∃ j : Nat, j ≤ l.length ∧ i = .int .i64 j ∧ v = .slice (some ⟨w.heap.size, 0, none⟩) j l.length ∧ Hid (Below w.heap.size w wr) ∧ Hid ((l.take j).all (isSc G.q.m G.size) = true) ∧ Hid (RowO w.heap.size wr 91 4 (.slice (some ⟨w.heap.size, 0, none⟩) j l.length) j ((l.take j).flatMap (limC G.q.m)))) (fun i _ _ => l.length - (intOf i).toNat)
  case atStart => exact ⟨0, Nat.zero_le _, rfl, rfl, HB, rfl, Hr⟩
  case round =>
    obtain ⟨j, hj, rfl, rfl, HB, HAL, Hr⟩ := hrel
    by_cases hjl : j < l.length
    · skip
      have Hs0 := Lib.hid (show w.heap.size < wr.heap.size from (Hr.out.lt _ rfl).2)
      obtain ⟨bl, ol, rfl, hbl, hc⟩ := (HS.out.up HB.out).at j (by simpa using hjl)
      rw [List.getElem_map] at hc
      obtain ⟨bj, hbj⟩ : ∃ x, isSc G.q.m G.size l[j] = x := ⟨_, rfl⟩
      have HBJ := Lib.hid hbj
      clear hbj
      go_wp2_with fail
      refine (gScalar_m G OK.out gb l[j] bj HBJ.out wr (HG.out.up HB.out)).mono ?_
      rintro e w2 ⟨sx, rfl, hb9, hx9⟩
      replace Hr := Lib.hid (Hr.out.up hb9)
      replace HB := Lib.hid (below_up HB.out hb9)
      have Hs2 := Lib.hid (show wr.heap.size ≤ w2.heap.size from hb9.size)
      have HSX := Lib.hid hx9
      clear hx9
      clear hb9
      unfold limbV
      have hb9 : Below w2.heap.size w2 (w2.alloc (Obj.cells #[.int .u64 (dig (sx) 0 : Int), .int .u64 (dig (sx) 1 : Int), .int .u64 (dig (sx) 2 : Int), .int .u64 (dig (sx) 3 : Int)] 91)) := ((Below.refl _ _).alloc (Nat.le_refl _) _)
      have hx90 : Bx (w2.alloc (Obj.cells #[.int .u64 (dig (sx) 0 : Int), .int .u64 (dig (sx) 1 : Int), .int .u64 (dig (sx) 2 : Int), .int .u64 (dig (sx) 3 : Int)] 91)) (w2.heap.size) 91 [.int .u64 (dig (sx) 0 : Int), .int .u64 (dig (sx) 1 : Int), .int .u64 (dig (sx) 2 : Int), .int .u64 (dig (sx) 3 : Int)] := by
        have h := (Bx.new w2 91 [.int .u64 (dig (sx) 0 : Int), .int .u64 (dig (sx) 1 : Int), .int .u64 (dig (sx) 2 : Int), .int .u64 (dig (sx) 3 : Int)] _ rfl)
        exact h
      have hz9 : (w2.alloc (Obj.cells #[.int .u64 (dig (sx) 0 : Int), .int .u64 (dig (sx) 1 : Int), .int .u64 (dig (sx) 2 : Int), .int .u64 (dig (sx) 3 : Int)] 91)).heap.size = w2.heap.size + 1 := by simp
      obtain ⟨w3, hq3⟩ : ∃ W9 : World, (w2.alloc (Obj.cells #[.int .u64 (dig (sx) 0 : Int), .int .u64 (dig (sx) 1 : Int), .int .u64 (dig (sx) 2 : Int), .int .u64 (dig (sx) 3 : Int)] 91)) = W9 := ⟨_, rfl⟩
      rw [hq3] at hb9 hz9 hx90
      replace Hr := Lib.hid (Hr.out.up hb9)
      replace HB := Lib.hid (below_up HB.out hb9)
      have Hs3 := Lib.hid hz9
      have Hbp := Lib.hid hx90
      clear hb9 hz9 hx90
      have bp_0 := Hbp.out.cell (i := 0) rfl
      have bp_1 := Hbp.out.cell (i := 1) rfl
      have bp_2 := Hbp.out.cell (i := 2) rfl
      have bp_3 := Hbp.out.cell (i := 3) rfl
      cases bj
      · go_wp2_with fail
        clear hq3
        go_ret2
        exact ⟨HB.out, by rw [if_neg (by rw [all_not hjl HBJ.out]; decide)]; rfl⟩
      · obtain rfl := HSX.out rfl
        obtain ⟨i9, hi9, hz90, hz91, hz92⟩ := info_parts infoScalar
        go_wp2_with (at_builtin; refine wpList_fitR (w.heap.size) w3 rfl _ _ 84 rfl 91 i9 4 Try.underlying84 hi9 hz91 (w.heap.size) (j) ((l.length)) (((l.take j).flatMap (limC G.q.m))) rfl Hr.out _ _ _ rfl rfl rfl (by simp [Value.oneCell']) (by omega) ?_)
        intro w4 hown9 hg9
        clear hq3
        clear bp_0 bp_1 bp_2 bp_3
        have hb9 := Below.grown HB.out hg9 (by have g0 := Hs1.out; have g1 := Hs0.out; have g2 := Hs2.out; have g3 := Hs3.out; omega) (fun q hq => Nat.le_trans (show w.heap.size ≤ w.heap.size by have g0 := Hs1.out; have g1 := Hs0.out; have g2 := Hs2.out; have g3 := Hs3.out; omega) (Hr.out.lt q hq).1)
        replace Hbp := Lib.hid (Hbp.out.grown hg9 (fun e9 => by have a0 := Option.some.inj e9; have a1 := Hr.out.lt _ e9; have g0 := Hs1.out; have g1 := Hs0.out; have g2 := Hs2.out; have g3 := Hs3.out; omega))
        have Hs4 := Lib.hid hg9.size
        clear Hr HB
        have Hr := Lib.hid hown9
        have HB := Lib.hid hb9
        clear hb9 hown9 hg9 hi9 hz90 hz91 hz92
        have bp_0 := Hbp.out.cell (i := 0) rfl
        have bp_1 := Hbp.out.cell (i := 1) rfl
        have bp_2 := Hbp.out.cell (i := 2) rfl
        have bp_3 := Hbp.out.cell (i := 3) rfl
        go_wp2_with fail
        go_roundw
        case rel => exact ⟨j + 1, by omega, by go_num, rfl, HB, all_snoc hjl HAL.out HBJ.out, Hr.out.eq (flat_snoc _ _ _ hjl).symm rfl⟩
        case measure => simp [intOf]; omega
    · have hjn : j = l.length := by omega
      subst hjn
      go_wp2_with fail
      go_ret2
      rw [List.take_length] at Hr
      exact ⟨HB.out, by rw [if_pos (all_take_true HAL.out)]; exact ⟨_, _, rfl, Hr.out.sl, fun x hx => by cases hx; exact Nat.le_refl _⟩⟩

set_option maxRecDepth 100000 in
set_option maxHeartbeats 2000000 in
theorem allEl_any (G : GP) (ok : G.Ok) (gb : Nat) (l : List ByteArray) (al : Option Addr) (cl : Nat) (hl : l.length ≤ 8796093022207) (w : World) (hG : GroupAt w gb G) (hS : Sl w w.heap.size al (l.map Value.string)) :
    Calls Try.prog 185 #[.slice al l.length cl, .func (.func 106) #[.pointer (some ⟨gb, 0, none⟩)] #[]] w (AllR G.p.m (isEl G.q.m G.size) l w) := by
  have OK := Lib.hid ok
  have HG := Lib.hid hG
  have HS := Lib.hid hS
  clear ok hG hS
  go_enter Try.func185, Try.ntmps185
  obtain ⟨i9, hi9, hz90, hz91, hz92⟩ := info_parts infoElem
  go_wp2_with (at_make; refine wpList_make_own _ rfl _ _ 148 rfl (w.heap.size) 111 i9 _ 4 Try.underlying148 hi9 hz90 hz91 _ _ _ (l.length) rfl rfl ?c1 ?c2 ?c3 ?c4 ?_)
  case c1 => rfl
  case c2 => rw [hz92]; omega
  case c3 => unfold maxLen; omega
  case c4 => omega
  intro w1 hown9 hg9
  have hb9 : Below w.heap.size w w1 := (Below.refl _ _).grown hg9 (Nat.le_refl _) (fun q hq => by cases hq)
  have HB := Lib.hid hb9
  have Hs1 := Lib.hid (show w.heap.size ≤ w1.heap.size from hb9.size)
  have Hr : Hid (RowO (w.heap.size) w1 111 4 (.slice (some ⟨w.heap.size, 0, none⟩) 0 (l.length)) 0 []) := Lib.hid hown9
  clear hb9 hown9 hg9 hi9 hz90 hz91 hz92
  go_wp2_with fail
  go_loopw [16, 6] (fun i v wr => ∃ j : Nat, j ≤ l.length ∧ i = .int .i64 j ∧ v = .slice (some ⟨w.heap.size, 0, none⟩) j l.length ∧ Hid (Below w.heap.size w wr) ∧ Hid ((l.take j).all (isEl G.q.m G.size) = true) ∧ Hid (RowO w.heap.size wr 111 4 (.slice (some ⟨w.heap.size, 0, none⟩) j l.length) j ((l.take j).flatMap (limC G.p.m)))) (fun i _ _ => l.length - (intOf i).toNat)
  case atStart => exact ⟨0, Nat.zero_le _, rfl, rfl, HB, rfl, Hr⟩
  case round =>
    obtain ⟨j, hj, rfl, rfl, HB, HAL, Hr⟩ := hrel
    by_cases hjl : j < l.length
    · skip
      have Hs0 := Lib.hid (show w.heap.size < wr.heap.size from (Hr.out.lt _ rfl).2)
      obtain ⟨bl, ol, rfl, hbl, hc⟩ := (HS.out.up HB.out).at j (by simpa using hjl)
      rw [List.getElem_map] at hc
      obtain ⟨bj, hbj⟩ : ∃ x, isEl G.q.m G.size l[j] = x := ⟨_, rfl⟩
      have HBJ := Lib.hid hbj
      clear hbj
      go_wp2_with fail
      refine (gElem_m G OK.out gb l[j] bj HBJ.out wr (HG.out.up HB.out)).mono ?_
      rintro e w2 ⟨sx, rfl, hb9, hx9⟩
      replace Hr := Lib.hid (Hr.out.up hb9)
      replace HB := Lib.hid (below_up HB.out hb9)
      have Hs2 := Lib.hid (show wr.heap.size ≤ w2.heap.size from hb9.size)
      have HSX := Lib.hid hx9
      clear hx9
      clear hb9
      unfold limbV
      have hb9 : Below w2.heap.size w2 (w2.alloc (Obj.cells #[.int .u64 (dig (sx) 0 : Int), .int .u64 (dig (sx) 1 : Int), .int .u64 (dig (sx) 2 : Int), .int .u64 (dig (sx) 3 : Int)] 111)) := ((Below.refl _ _).alloc (Nat.le_refl _) _)
      have hx90 : Bx (w2.alloc (Obj.cells #[.int .u64 (dig (sx) 0 : Int), .int .u64 (dig (sx) 1 : Int), .int .u64 (dig (sx) 2 : Int), .int .u64 (dig (sx) 3 : Int)] 111)) (w2.heap.size) 111 [.int .u64 (dig (sx) 0 : Int), .int .u64 (dig (sx) 1 : Int), .int .u64 (dig (sx) 2 : Int), .int .u64 (dig (sx) 3 : Int)] := by
        have h := (Bx.new w2 111 [.int .u64 (dig (sx) 0 : Int), .int .u64 (dig (sx) 1 : Int), .int .u64 (dig (sx) 2 : Int), .int .u64 (dig (sx) 3 : Int)] _ rfl)
        exact h
      have hz9 : (w2.alloc (Obj.cells #[.int .u64 (dig (sx) 0 : Int), .int .u64 (dig (sx) 1 : Int), .int .u64 (dig (sx) 2 : Int), .int .u64 (dig (sx) 3 : Int)] 111)).heap.size = w2.heap.size + 1 := by simp
      obtain ⟨w3, hq3⟩ : ∃ W9 : World, (w2.alloc (Obj.cells #[.int .u64 (dig (sx) 0 : Int), .int .u64 (dig (sx) 1 : Int), .int .u64 (dig (sx) 2 : Int), .int .u64 (dig (sx) 3 : Int)] 111)) = W9 := ⟨_, rfl⟩
      rw [hq3] at hb9 hz9 hx90
      replace Hr := Lib.hid (Hr.out.up hb9)
      replace HB := Lib.hid (below_up HB.out hb9)
      have Hs3 := Lib.hid hz9
      have Hbp := Lib.hid hx90
      clear hb9 hz9 hx90
      have bp_0 := Hbp.out.cell (i := 0) rfl
      have bp_1 := Hbp.out.cell (i := 1) rfl
      have bp_2 := Hbp.out.cell (i := 2) rfl
      have bp_3 := Hbp.out.cell (i := 3) rfl
      cases bj
      · go_wp2_with fail
        clear hq3
        go_ret2
        exact ⟨HB.out, by rw [if_neg (by rw [all_not hjl HBJ.out]; decide)]; rfl⟩
      · obtain rfl := HSX.out rfl
        obtain ⟨i9, hi9, hz90, hz91, hz92⟩ := info_parts infoElem
        go_wp2_with (at_builtin; refine wpList_fitR (w.heap.size) w3 rfl _ _ 148 rfl 111 i9 4 Try.underlying148 hi9 hz91 (w.heap.size) (j) ((l.length)) (((l.take j).flatMap (limC G.p.m))) rfl Hr.out _ _ _ rfl rfl rfl (by simp [Value.oneCell']) (by omega) ?_)
        intro w4 hown9 hg9
        clear hq3
        clear bp_0 bp_1 bp_2 bp_3
        have hb9 := Below.grown HB.out hg9 (by have g0 := Hs1.out; have g1 := Hs0.out; have g2 := Hs2.out; have g3 := Hs3.out; omega) (fun q hq => Nat.le_trans (show w.heap.size ≤ w.heap.size by have g0 := Hs1.out; have g1 := Hs0.out; have g2 := Hs2.out; have g3 := Hs3.out; omega) (Hr.out.lt q hq).1)
        replace Hbp := Lib.hid (Hbp.out.grown hg9 (fun e9 => by have a0 := Option.some.inj e9; have a1 := Hr.out.lt _ e9; have g0 := Hs1.out; have g1 := Hs0.out; have g2 := Hs2.out; have g3 := Hs3.out; omega))
        have Hs4 := Lib.hid hg9.size
        clear Hr HB
        have Hr := Lib.hid hown9
        have HB := Lib.hid hb9
        clear hb9 hown9 hg9 hi9 hz90 hz91 hz92
        have bp_0 := Hbp.out.cell (i := 0) rfl
        have bp_1 := Hbp.out.cell (i := 1) rfl
        have bp_2 := Hbp.out.cell (i := 2) rfl
        have bp_3 := Hbp.out.cell (i := 3) rfl
        go_wp2_with fail
        go_roundw
        case rel => exact ⟨j + 1, by omega, by go_num, rfl, HB, all_snoc hjl HAL.out HBJ.out, Hr.out.eq (flat_snoc _ _ _ hjl).symm rfl⟩
        case measure => simp [intOf]; omega
    · have hjn : j = l.length := by omega
      subst hjn
      go_wp2_with fail
      go_ret2
      rw [List.take_length] at Hr
      exact ⟨HB.out, by rw [if_pos (all_take_true HAL.out)]; exact ⟨_, _, rfl, Hr.out.sl, fun x hx => by cases hx; exact Nat.le_refl _⟩⟩

end Go.Proofs.Ytipgjookfdkciaa

/- Number theory from the ground: Fermat's little theorem, and two certificates of primality (Proth, Pocklington). No condition. -/
namespace Go.Proofs.Ytipgjookfdkciaa

def IsPrime (p : Nat) : Prop := 2 ≤ p ∧ ∀ d, d ∣ p → d = 1 ∨ d = p

theorem IsPrime.coprime_of_not_dvd {p a : Nat} (hp : IsPrime p) (h : ¬ p ∣ a) : Nat.Coprime p a := by
  rcases hp.2 (Nat.gcd p a) (Nat.gcd_dvd_left p a) with h1 | h1
  · exact h1
  · exact absurd (h1 ▸ Nat.gcd_dvd_right p a) h

theorem IsPrime.dvd_mul {p a b : Nat} (hp : IsPrime p) (h : p ∣ a * b) : p ∣ a ∨ p ∣ b := by
  by_cases ha : p ∣ a
  · exact Or.inl ha
  · exact Or.inr ((hp.coprime_of_not_dvd ha).dvd_of_dvd_mul_left h)

theorem exists_prime_dvd : ∀ n : Nat, 2 ≤ n → ∃ p, IsPrime p ∧ p ∣ n := by
  intro n
  induction n using Nat.strongRecOn with
  | ind n ih =>
    intro hn
    by_cases h : ∃ d, d ∣ n ∧ d ≠ 1 ∧ d ≠ n
    · obtain ⟨d, hd, h1, h2⟩ := h
      have hd0 : d ≠ 0 := by
        intro e; subst e; have := Nat.eq_zero_of_zero_dvd hd; omega
      have hle := Nat.le_of_dvd (by omega) hd
      obtain ⟨p, hp, hpd⟩ := ih d (by omega) (by omega)
      exact ⟨p, hp, Nat.dvd_trans hpd hd⟩
    · refine ⟨n, ⟨hn, fun d hd => ?_⟩, Nat.dvd_refl n⟩
      by_cases h1 : d = 1
      · exact Or.inl h1
      · by_cases h2 : d = n
        · exact Or.inr h2
        · exact absurd ⟨d, hd, h1, h2⟩ h

/-- The least factor is not above the root. -/
theorem exists_small_prime {n : Nat} (hn : 2 ≤ n) (h : ¬ IsPrime n) : ∃ p, IsPrime p ∧ p ∣ n ∧ p * p ≤ n := by
  have : ∃ d, d ∣ n ∧ d ≠ 1 ∧ d ≠ n := by
    apply Classical.byContradiction
    intro hc
    apply h
    refine ⟨hn, fun d hd => ?_⟩
    by_cases h1 : d = 1
    · exact Or.inl h1
    · by_cases h2 : d = n
      · exact Or.inr h2
      · exact absurd ⟨d, hd, h1, h2⟩ hc
  obtain ⟨d, ⟨c, hc⟩, h1, h2⟩ := this
  have hd0 : d ≠ 0 := by intro e; subst e; simp at hc; omega
  have hc0 : c ≠ 0 := by intro e; subst e; simp at hc; omega
  have hc1 : c ≠ 1 := by intro e; subst e; simp at hc; omega
  rcases Nat.le_total d c with hdc | hdc
  · obtain ⟨p, hp, hpd⟩ := exists_prime_dvd d (by omega)
    refine ⟨p, hp, Nat.dvd_trans hpd ⟨c, hc⟩, ?_⟩
    have := Nat.le_of_dvd (by omega) hpd
    calc p * p ≤ d * d := Nat.mul_le_mul this this
      _ ≤ d * c := Nat.mul_le_mul_left d hdc
      _ = n := hc.symm
  · obtain ⟨p, hp, hpd⟩ := exists_prime_dvd c (by omega)
    refine ⟨p, hp, Nat.dvd_trans hpd ⟨d, by rw [hc, Nat.mul_comm]⟩, ?_⟩
    have := Nat.le_of_dvd (by omega) hpd
    calc p * p ≤ c * c := Nat.mul_le_mul this this
      _ ≤ d * c := Nat.mul_le_mul_right c hdc
      _ = n := hc.symm

/-! Binomial numbers. -/
def choose : Nat → Nat → Nat
  | _, 0 => 1
  | 0, _ + 1 => 0
  | n + 1, k + 1 => choose n k + choose n (k + 1)

theorem choose_zero (n : Nat) : choose n 0 = 1 := by cases n <;> rfl
theorem choose_big : ∀ n k, n < k → choose n k = 0
  | 0, _ + 1, _ => rfl
  | n + 1, k + 1, h => by rw [choose, choose_big n k (by omega), choose_big n (k + 1) (by omega)]
theorem choose_self : ∀ n, choose n n = 1
  | 0 => rfl
  | n + 1 => by rw [choose, choose_self n, choose_big n (n + 1) (by omega)]
theorem choose_mul : ∀ n k, choose (n + 1) (k + 1) * (k + 1) = (n + 1) * choose n k
  | 0, 0 => rfl
  | 0, k + 1 => by simp [choose]
  | n + 1, 0 => by
    have h := choose_mul n 0
    have e : choose (n + 1 + 1) (0 + 1) = choose (n + 1) 0 + choose (n + 1) (0 + 1) := rfl
    rw [e]
    simp only [choose_zero, Nat.mul_one, Nat.zero_add] at h ⊢
    omega
  | n + 1, k + 1 => by
    have h1 := choose_mul n k
    have h2 := choose_mul n (k + 1)
    have e : choose (n + 1) (k + 1) = choose n k + choose n (k + 1) := rfl
    have e2 : choose (n + 1 + 1) (k + 1 + 1) = choose (n + 1) (k + 1) + choose (n + 1) (k + 1 + 1) := rfl
    rw [e2, Nat.add_mul, h2]
    have : choose (n + 1) (k + 1) * (k + 1 + 1) = choose (n + 1) (k + 1) * (k + 1) + choose (n + 1) (k + 1) := by
      rw [Nat.mul_add, Nat.mul_one]
    rw [this, h1]
    have : (n + 1 + 1) * choose (n + 1) (k + 1) = (n + 1) * choose (n + 1) (k + 1) + choose (n + 1) (k + 1) := by
      rw [Nat.add_mul (n + 1) 1, Nat.one_mul]
    rw [this, e, Nat.mul_add]
    omega

/-- The sum of the first m terms of (a + 1)^n. -/
def binom (a n : Nat) : Nat → Nat
  | 0 => 0
  | m + 1 => binom a n m + choose n m * a ^ m

theorem binom_succ (a n : Nat) : ∀ m, binom a (n + 1) (m + 1) = binom a n (m + 1) + a * binom a n m
  | 0 => by simp [binom, choose_zero]
  | m + 1 => by
    have ih := binom_succ a n m
    rw [binom, ih]
    have e : choose (n + 1) (m + 1) = choose n m + choose n (m + 1) := rfl
    rw [e]
    have e1 : binom a n (m + 1 + 1) = binom a n (m + 1) + choose n (m + 1) * a ^ (m + 1) := rfl
    have e2 : binom a n (m + 1) = binom a n m + choose n m * a ^ m := rfl
    rw [e1, Nat.add_mul]
    have e3 : a * binom a n (m + 1) = a * binom a n m + choose n m * a ^ (m + 1) := by
      rw [e2, Nat.mul_add, Nat.pow_succ]
      have : a * (choose n m * a ^ m) = choose n m * (a ^ m * a) := by
        rw [Nat.mul_left_comm, Nat.mul_comm a]
      rw [this]
    rw [e3]
    omega

theorem binom_all (a : Nat) : ∀ n, (a + 1) ^ n = binom a n (n + 1)
  | 0 => by simp [binom, choose]
  | n + 1 => by
    rw [binom_succ, Nat.pow_succ, binom_all a n]
    have e : binom a n (n + 1 + 1) = binom a n (n + 1) := by
      show binom a n (n + 1) + choose n (n + 1) * a ^ (n + 1) = _
      rw [choose_big n (n + 1) (by omega)]; simp
    rw [e, Nat.mul_add, Nat.mul_one, Nat.mul_comm, Nat.add_comm]

theorem prime_dvd_choose {p : Nat} (hp : IsPrime p) {k : Nat} (h0 : 0 < k) (h1 : k < p) : p ∣ choose p k := by
  obtain ⟨n, rfl⟩ : ∃ n, p = n + 1 := ⟨p - 1, by have := hp.1; omega⟩
  obtain ⟨j, rfl⟩ : ∃ j, k = j + 1 := ⟨k - 1, by omega⟩
  have h := choose_mul n j
  have : (n + 1) ∣ choose (n + 1) (j + 1) * (j + 1) := ⟨choose n j, h⟩
  rcases hp.dvd_mul this with h | h
  · exact h
  · have := Nat.le_of_dvd (by omega) h; omega

theorem binom_mod {p : Nat} (hp : IsPrime p) (a : Nat) : ∀ m, m < p → binom a p (m + 1) % p = 1 % p
  | 0, _ => by simp [binom, choose_zero]
  | m + 1, h => by
    rw [binom, Nat.add_mod, binom_mod hp a m (by omega)]
    have : choose p (m + 1) * a ^ (m + 1) % p = 0 :=
      Nat.mod_eq_zero_of_dvd (Nat.dvd_trans (prime_dvd_choose hp (by omega) h) ⟨_, rfl⟩)
    rw [this]; simp

theorem succ_pow_mod {p : Nat} (hp : IsPrime p) (a : Nat) : (a + 1) ^ p % p = (a ^ p + 1) % p := by
  have h2 := hp.1
  rw [binom_all]
  show (binom a p p + choose p p * a ^ p) % p = _
  have e := binom_mod hp a (p - 1) (by omega)
  rw [show p - 1 + 1 = p by omega] at e
  rw [choose_self, Nat.one_mul, Nat.add_mod, e, ← Nat.add_mod, Nat.add_comm]

theorem pow_prime_mod {p : Nat} (hp : IsPrime p) : ∀ a : Nat, a ^ p % p = a % p
  | 0 => by rw [Nat.zero_pow (by have := hp.1; omega)]
  | a + 1 => by rw [succ_pow_mod hp, Nat.add_mod, pow_prime_mod hp a, ← Nat.add_mod]

/-! Congruences. -/
theorem mod_eq_iff_dvd_sub {a b n : Nat} (h : b ≤ a) : a % n = b % n ↔ n ∣ a - b := by
  constructor
  · intro e
    exact Nat.dvd_of_mod_eq_zero (Nat.sub_mod_eq_zero_of_mod_eq e)
  · rintro ⟨c, hc⟩
    have : a = b + n * c := by omega
    rw [this, Nat.add_mul_mod_self_left]

theorem mul_cancel_mod {p a x y : Nat} (hp : Nat.Coprime p a) (h : a * x % p = a * y % p) : x % p = y % p := by
  rcases Nat.le_total y x with hxy | hxy
  · rw [mod_eq_iff_dvd_sub (Nat.mul_le_mul_left a hxy), ← Nat.mul_sub] at h
    exact (mod_eq_iff_dvd_sub hxy).2 (hp.dvd_of_dvd_mul_left h)
  · have h := h.symm
    rw [mod_eq_iff_dvd_sub (Nat.mul_le_mul_left a hxy), ← Nat.mul_sub] at h
    exact ((mod_eq_iff_dvd_sub hxy).2 (hp.dvd_of_dvd_mul_left h)).symm

/-- Fermat's little theorem. -/
theorem fermat {p a : Nat} (hp : IsPrime p) (h : ¬ p ∣ a) : a ^ (p - 1) % p = 1 % p := by
  have h2 := hp.1
  apply mul_cancel_mod (hp.coprime_of_not_dvd h)
  have e := pow_prime_mod hp a
  rw [show p = p - 1 + 1 by omega, Nat.pow_succ, Nat.mul_comm] at e
  rw [show p - 1 + 1 = p by omega] at e
  rw [e, Nat.mul_one]

theorem pow_mod_one {p a m : Nat} (h : a ^ m % p = 1 % p) (k : Nat) : a ^ (m * k) % p = 1 % p := by
  rw [Nat.pow_mul, Nat.pow_mod, h, ← Nat.pow_mod, Nat.one_pow]

/-- What is 1 to two powers is 1 to their greatest common measure. -/
theorem pow_gcd {p a : Nat} : ∀ m n : Nat, a ^ m % p = 1 % p → a ^ n % p = 1 % p → a ^ (Nat.gcd m n) % p = 1 % p := by
  intro m
  induction m using Nat.strongRecOn with
  | ind m ih =>
    intro n hm hn
    by_cases h0 : m = 0
    · subst h0; simpa using hn
    · rw [Nat.gcd_rec]
      refine ih (n % m) (Nat.mod_lt _ (by omega)) m ?_ hm
      have e : a ^ n = a ^ (m * (n / m)) * a ^ (n % m) := by rw [← Nat.pow_add, Nat.div_add_mod]
      rw [e] at hn
      rw [Nat.mul_mod, pow_mod_one hm, ← Nat.mul_mod, Nat.one_mul] at hn
      exact hn

theorem coprime_of_pow {p a m : Nat} (hp : IsPrime p) (hm : 0 < m) (h : a ^ m % p = 1 % p) : ¬ p ∣ a := by
  intro hd
  have : p ∣ a ^ m := Nat.dvd_trans hd (Nat.dvd_trans ⟨a ^ (m - 1), by rw [← Nat.pow_succ', show (m - 1).succ = m by omega]⟩ (Nat.dvd_refl _))
  rw [Nat.mod_eq_zero_of_dvd this, Nat.mod_eq_of_lt hp.1] at h
  omega

/-- Proth: h 2^k + 1, h odd or even, with 2^k above h, is a prime if some a to the half of what is one less is -1. -/
theorem proth {h k a : Nat} (hk : 0 < k) (hh : 0 < h) (hlt : h < 2 ^ k) (hw : (a ^ (h * 2 ^ (k - 1)) + 1) % (h * 2 ^ k + 1) = 0) : IsPrime (h * 2 ^ k + 1) := by
  have h2k : 2 ^ k = 2 * 2 ^ (k - 1) := by rw [← Nat.pow_succ', show (k - 1).succ = k by omega]
  have hpos : 0 < 2 ^ (k - 1) := Nat.pow_pos (by omega)
  apply Classical.byContradiction
  intro hn
  have hbig : 2 ≤ h * 2 ^ k + 1 := by have := Nat.mul_pos hh (show 0 < 2 ^ k by omega); omega
  obtain ⟨p, hp, hpd, hpp⟩ := exists_small_prime hbig hn
  have hdw : p ∣ a ^ (h * 2 ^ (k - 1)) + 1 := Nat.dvd_trans hpd (Nat.dvd_of_mod_eq_zero hw)
  have hp2 := hp.1
  -- p is odd
  have hodd : p ≠ 2 := by
    intro e; subst e
    obtain ⟨c, hc⟩ := hpd
    have : h * 2 ^ k = 2 * (h * 2 ^ (k - 1)) := by rw [h2k, Nat.mul_left_comm]
    omega
  -- a^(N-1) is 1
  have hx : a ^ (h * 2 ^ k) % p = 1 % p := by
    have e : a ^ (h * 2 ^ k) = a ^ (h * 2 ^ (k - 1)) * a ^ (h * 2 ^ (k - 1)) := by
      rw [← Nat.pow_add]; congr 1; rw [h2k, Nat.mul_left_comm]; omega
    rw [e]
    generalize a ^ (h * 2 ^ (k - 1)) = A at hdw
    have hA : A ≠ 0 := by
      intro e0; subst e0
      have := Nat.le_of_dvd (by omega) hdw; omega
    obtain ⟨B, rfl⟩ : ∃ B, A = B + 1 := ⟨A - 1, by omega⟩
    have e2 : (B + 1) * (B + 1) = (B + 1 + 1) * B + 1 := by
      rw [Nat.add_mul, Nat.mul_add, Nat.add_mul (B + 1), Nat.add_mul B]; omega
    rw [e2, mod_eq_iff_dvd_sub (by omega)]
    exact Nat.dvd_trans hdw ⟨B, by omega⟩
  have hcop := coprime_of_pow hp (Nat.mul_pos hh (by omega : 0 < 2 ^ k)) hx
  have hfer := fermat hp hcop
  have hg := pow_gcd _ _ hx hfer
  -- if 2^k does not divide the gcd, the half power is 1 as well
  have hdiv : 2 ^ k ∣ Nat.gcd (h * 2 ^ k) (p - 1) := by
    apply Classical.byContradiction
    intro hnd
    have hgd : Nat.gcd (h * 2 ^ k) (p - 1) ∣ h * 2 ^ k := Nat.gcd_dvd_left _ _
    generalize Nat.gcd (h * 2 ^ k) (p - 1) = g at hg hnd hgd
    have key : ∀ k, 0 < k → ∀ g, g ∣ h * 2 ^ k → ¬ 2 ^ k ∣ g → g ∣ h * 2 ^ (k - 1) := by
      intro k
      induction k with
      | zero => intro h0; omega
      | succ k ihk =>
        intro _ g hgd hnd
        show g ∣ h * 2 ^ k
        by_cases hev : 2 ∣ g
        · obtain ⟨g', rfl⟩ := hev
          rw [Nat.pow_succ] at hgd hnd
          have h1 : g' ∣ h * 2 ^ k := by
            obtain ⟨c, hc⟩ := hgd
            refine ⟨c, ?_⟩
            have : 2 * (h * 2 ^ k) = 2 * (g' * c) := by
              rw [← Nat.mul_assoc 2 g' c, ← hc, Nat.mul_comm 2, Nat.mul_assoc]
            omega
          have h2 : ¬ 2 ^ k ∣ g' := by
            rintro ⟨c, rfl⟩
            exact hnd ⟨c, by rw [Nat.mul_comm (2 ^ k) 2, Nat.mul_assoc]⟩
          by_cases hk0 : k = 0
          · subst hk0; exact absurd (Nat.one_dvd g') h2
          · have := ihk (by omega) g' h1 h2
            rw [show k = k - 1 + 1 by omega, Nat.pow_succ, ← Nat.mul_assoc, Nat.mul_comm 2]
            exact Nat.mul_dvd_mul_right this 2
        · have hc2 : Nat.Coprime g 2 := by
            have p2 : IsPrime 2 := ⟨by omega, fun d hd => by have := Nat.le_of_dvd (by omega) hd; have : d ≠ 0 := (by intro e; subst e; simp at hd); omega⟩
            exact (p2.coprime_of_not_dvd hev).symm
          rw [Nat.pow_succ, ← Nat.mul_assoc] at hgd
          exact hc2.dvd_of_dvd_mul_right hgd
    obtain ⟨c, hc⟩ := key k hk g hgd hnd
    have h1 := pow_mod_one hg c
    rw [← hc] at h1
    have : (a ^ (h * 2 ^ (k - 1)) + 1) % p = 2 % p := by rw [Nat.add_mod, h1, ← Nat.add_mod]
    rw [Nat.mod_eq_zero_of_dvd hdw] at this
    rw [Nat.mod_eq_of_lt (by omega)] at this
    omega
  have h1 : 2 ^ k ∣ p - 1 := Nat.dvd_trans hdiv (Nat.gcd_dvd_right _ _)
  have h2 := Nat.le_of_dvd (by omega) h1
  have h3 : (2 ^ k + 1) * (2 ^ k + 1) ≤ p * p := Nat.mul_le_mul (by omega) (by omega)
  have h4 : h * 2 ^ k ≤ 2 ^ k * 2 ^ k := Nat.mul_le_mul_right _ (by omega)
  have h5 : (2 ^ k + 1) * (2 ^ k + 1) = 2 ^ k * 2 ^ k + 2 ^ k + 2 ^ k + 1 := by rw [Nat.add_mul, Nat.mul_add]; omega
  omega

/-- Pocklington for 2 q + 1, q a prime. -/
theorem pocklington {q a : Nat} (hq : IsPrime q) (ha : 2 ≤ a) (h1 : a ^ (2 * q) % (2 * q + 1) = 1) (h2 : Nat.gcd (a ^ 2 - 1) (2 * q + 1) = 1) : IsPrime (2 * q + 1) := by
  have hq2 := hq.1
  apply Classical.byContradiction
  intro hn
  obtain ⟨p, hp, hpd, hpp⟩ := exists_small_prime (by omega) hn
  have hp2 := hp.1
  have hx : a ^ (2 * q) % p = 1 % p := by
    rw [← Nat.mod_mod_of_dvd _ hpd, h1]
  have hcop := coprime_of_pow hp (by omega) hx
  have hfer := fermat hp hcop
  have hg := pow_gcd _ _ hx hfer
  have hdiv : q ∣ Nat.gcd (2 * q) (p - 1) := by
    apply Classical.byContradiction
    intro hnd
    have hgd : Nat.gcd (2 * q) (p - 1) ∣ 2 * q := Nat.gcd_dvd_left _ _
    generalize Nat.gcd (2 * q) (p - 1) = g at hg hnd hgd
    have : g ∣ 2 := (hq.coprime_of_not_dvd hnd).symm.dvd_of_dvd_mul_right hgd
    obtain ⟨c, hc⟩ := this
    have h3 := pow_mod_one hg c
    rw [← hc] at h3
    have hpos : 1 ≤ a ^ 2 := Nat.pow_pos (by omega)
    have h4 := (mod_eq_iff_dvd_sub hpos).1 h3
    have h5 := Nat.dvd_gcd h4 hpd
    rw [h2] at h5
    have := Nat.le_of_dvd (by omega) h5
    omega
  have h3 : q ∣ p - 1 := Nat.dvd_trans hdiv (Nat.gcd_dvd_right _ _)
  have h4 := Nat.le_of_dvd (by omega) h3
  have h5 : (q + 1) * (q + 1) ≤ p * p := Nat.mul_le_mul (by omega) (by omega)
  have h6 : (q + 1) * (q + 1) = q * q + q + q + 1 := by rw [Nat.add_mul, Nat.mul_add]; omega
  have : 2 * q ≤ q * q := Nat.mul_le_mul_right q hq2
  omega

/-! Powers modulo a number, by squares: what the kernel reckons. -/
def powMod (a m : Nat) : Nat → Nat → Nat
  | 0, _ => 1 % m
  | f + 1, n => if n = 0 then 1 % m else
      let h := powMod a m f (n / 2)
      if n % 2 = 0 then h * h % m else h * h % m * a % m

theorem powMod_eq (a m : Nat) : ∀ f n, n < 2 ^ f → powMod a m f n = a ^ n % m
  | 0, n, h => by
    have : n = 0 := by simpa using h
    subst this; rfl
  | f + 1, n, h => by
    rw [powMod]
    by_cases h0 : n = 0
    · subst h0; simp
    · rw [if_neg h0]
      have ih := powMod_eq a m f (n / 2) (by rw [Nat.pow_succ] at h; omega)
      simp only [ih]
      have hn : n = n / 2 * 2 + n % 2 := by omega
      have e : (a ^ (n / 2) % m) * (a ^ (n / 2) % m) % m = a ^ (n / 2 * 2) % m := by
        rw [← Nat.mul_mod, ← Nat.pow_add]; congr 2; omega
      rw [e]
      by_cases h2 : n % 2 = 0
      · rw [if_pos h2]; congr 2; omega
      · rw [if_neg h2, Nat.mod_mul_mod, ← Nat.pow_succ]; congr 2; omega


theorem proth_by {h k a : Nat} (f : Nat) (hk : 0 < k) (hh : 0 < h) (hlt : h < 2 ^ k) (hf : h * 2 ^ (k - 1) < 2 ^ f)
    (hw : (powMod a (h * 2 ^ k + 1) f (h * 2 ^ (k - 1)) + 1) % (h * 2 ^ k + 1) = 0) : IsPrime (h * 2 ^ k + 1) := by
  rw [powMod_eq _ _ _ _ hf] at hw
  refine proth (a := a) hk hh hlt ?_
  rw [Nat.add_mod, Nat.mod_mod, ← Nat.add_mod] at hw
  exact hw

theorem pocklington_by {q a : Nat} (f : Nat) (hq : IsPrime q) (ha : 2 ≤ a) (hf : 2 * q < 2 ^ f) (h1 : powMod a (2 * q + 1) f (2 * q) = 1)
    (h2 : Nat.gcd (a ^ 2 - 1) (2 * q + 1) = 1) : IsPrime (2 * q + 1) := by
  rw [powMod_eq _ _ _ _ hf] at h1
  exact pocklington hq ha h1 h2

/-! The moduli of the three groups. -/
theorem prime_q1 : IsPrime 641 := proth_by (h := 5) (k := 7) (a := 3) 10 (by decide +kernel) (by decide +kernel) (by decide +kernel) (by decide +kernel) (by decide +kernel)
theorem prime_p1 : IsPrime 1283 := pocklington_by (q := 641) (a := 2) 11 prime_q1 (by decide +kernel) (by decide +kernel) (by decide +kernel) (by decide +kernel)
theorem prime_q2 : IsPrime 576465431670292481 := proth_by (h := 268437635) (k := 31) (a := 3) 60 (by decide +kernel) (by decide +kernel) (by decide +kernel) (by decide +kernel) (by decide +kernel)
theorem prime_p2 : IsPrime 1152930863340584963 := pocklington_by (q := 576465431670292481) (a := 2) 61 prime_q2 (by decide +kernel) (by decide +kernel) (by decide +kernel) (by decide +kernel)
theorem prime_q3 : IsPrime 7237005577332262213973186563042995786902308146886443998308627866733439352833 := proth_by (h := 42535295865117307932921825928971035519) (k := 127) (a := 3) 253 (by decide +kernel) (by decide +kernel) (by decide +kernel) (by decide +kernel) (by decide +kernel)
theorem prime_p3 : IsPrime 14474011154664524427946373126085991573804616293772887996617255733466878705667 := pocklington_by (q := 7237005577332262213973186563042995786902308146886443998308627866733439352833) (a := 2) 254 prime_q3 (by decide +kernel) (by decide +kernel) (by decide +kernel) (by decide +kernel)

end Go.Proofs.Ytipgjookfdkciaa

/- The package group: the faces Add, Sub, Mul, Inv, Times, Under. No condition. -/
namespace Go.Proofs.Ytipgjookfdkciaa
open Go.RowKit

theorem box2 (w : World) (v1 v2 : Value) (t1 t2 : TypeId) :
    Below w.heap.size w ((w.alloc (.cells #[v1] t1)).alloc (.cells #[v2] t2)) ∧ Bx ((w.alloc (.cells #[v1] t1)).alloc (.cells #[v2] t2)) w.heap.size t1 [v1] ∧ Bx ((w.alloc (.cells #[v1] t1)).alloc (.cells #[v2] t2)) (w.heap.size + 1) t2 [v2] := by
  have a1 : Below w.heap.size w (w.alloc (.cells #[v1] t1)) := (Below.refl _ _).alloc (Nat.le_refl _) _
  have a2 : Below (w.alloc (.cells #[v1] t1)).heap.size (w.alloc (.cells #[v1] t1)) ((w.alloc (.cells #[v1] t1)).alloc (.cells #[v2] t2)) := (Below.refl _ _).alloc (Nat.le_refl _) _
  refine ⟨below_up a1 a2, (Bx.new w _ _ _ rfl).up a2, ?_⟩
  have h := Bx.new (w.alloc (.cells #[v1] t1)) t2 [v2] _ rfl
  rwa [World.size_alloc] at h

theorem box3 (w : World) (v1 v2 v3 : Value) (t1 t2 t3 : TypeId) :
    Below w.heap.size w (((w.alloc (.cells #[v1] t1)).alloc (.cells #[v2] t2)).alloc (.cells #[v3] t3)) ∧ Bx (((w.alloc (.cells #[v1] t1)).alloc (.cells #[v2] t2)).alloc (.cells #[v3] t3)) w.heap.size t1 [v1]
      ∧ Bx (((w.alloc (.cells #[v1] t1)).alloc (.cells #[v2] t2)).alloc (.cells #[v3] t3)) (w.heap.size + 1) t2 [v2] ∧ Bx (((w.alloc (.cells #[v1] t1)).alloc (.cells #[v2] t2)).alloc (.cells #[v3] t3)) (w.heap.size + 2) t3 [v3] := by
  obtain ⟨h1, h2, h3⟩ := box2 w v1 v2 t1 t2
  have a2 : Below ((w.alloc (.cells #[v1] t1)).alloc (.cells #[v2] t2)).heap.size ((w.alloc (.cells #[v1] t1)).alloc (.cells #[v2] t2)) (((w.alloc (.cells #[v1] t1)).alloc (.cells #[v2] t2)).alloc (.cells #[v3] t3)) := (Below.refl _ _).alloc (Nat.le_refl _) _
  refine ⟨below_up h1 a2, h2.up a2, h3.up a2, ?_⟩
  have h := Bx.new ((w.alloc (.cells #[v1] t1)).alloc (.cells #[v2] t2)) t3 [v3] _ rfl
  rwa [World.size_alloc, World.size_alloc] at h


def recV (G : GP) (a b : ByteArray) (z : Nat) : ByteArray := if (isSc G.q.m G.size a && isSc G.q.m G.size b) = true then textS (z % G.q.m) G.size else ⟨#[]⟩
def recE (G : GP) (a b : ByteArray) : Int := if (isSc G.q.m G.size a && isSc G.q.m G.size b) = true then 0 else 6

set_option maxRecDepth 100000 in
set_option maxHeartbeats 400000 in
theorem reckon_none (k : Int) (hk : ¬ (1 ≤ k ∧ k ≤ 3)) (a b : ByteArray) (f : FuncId) (w : World) : Calls Try.prog 96 #[.int .i64 k, .string a, .string b, .func (.func f) #[] #[]] w (Ans (.string ⟨#[]⟩) 1 w) := by
  go_enter Try.func96, Try.ntmps96
  go_wp2_with fail
  obtain ⟨W0, hW0⟩ : ∃ W9 : World, (((w.alloc (.cells #[.string a] 9)).alloc (.cells #[.string b] 9)).alloc (.cells #[.func (.func f) #[] #[]] 140)) = W9 := ⟨_, rfl⟩
  have hz := box3 w (.string a) (.string b) (.func (.func f) #[] #[]) 9 9 140
  rw [hW0] at hz
  have HZ := Lib.hid hz
  clear hz
  simp only [hW0]
  clear hW0
  refine (withS_none k hk _ W0).mono ?_
  rintro e w1 ⟨rfl, hb⟩
  have HB := Lib.hid (below_up HZ.out.1 hb)
  clear hb
  go_wp2_with fail
  go_ret2
  exact ⟨rfl, HB.out⟩

set_option maxRecDepth 100000 in
set_option maxHeartbeats 400000 in
theorem reckon_some (k : Nat) (h1 : 1 ≤ k) (h3 : k ≤ 3) (a b : ByteArray) (f : FuncId) (z : Nat) (hent : Enters Try.prog f) (w : World)
    (hcall : isSc (grp k).q.m (grp k).size b = true → ∀ gb w1, GroupAt w1 gb (grp k) → Calls Try.prog f #[.pointer (some ⟨gb, 0, none⟩), scV (grp k) (numOf a), scV (grp k) (numOf b)] w1 fun e w' => e = .returned (scV (grp k) z) ∧ Below w1.heap.size w1 w') :
    Calls Try.prog 96 #[.int .i64 (k : Int), .string a, .string b, .func (.func f) #[] #[]] w (Ans (.string (recV (grp k) a b z)) (recE (grp k) a b) w) := by
  have HC := Lib.hid hcall
  have HE := Lib.hid hent
  have OK := Lib.hid (grp_ok k h1 h3)
  clear hcall hent
  go_enter Try.func96, Try.ntmps96
  go_wp2_with fail
  obtain ⟨W0, hW0⟩ : ∃ W9 : World, (((w.alloc (.cells #[.string a] 9)).alloc (.cells #[.string b] 9)).alloc (.cells #[.func (.func f) #[] #[]] 140)) = W9 := ⟨_, rfl⟩
  have hz := box3 w (.string a) (.string b) (.func (.func f) #[] #[]) 9 9 140
  rw [hW0] at hz
  have HZ := Lib.hid hz
  clear hz
  simp only [hW0]
  clear hW0
  refine (withS_some k h1 h3 149 #[.pointer (some ⟨w.heap.size, 0, none⟩), .pointer (some ⟨w.heap.size + 1, 0, none⟩), .pointer (some ⟨w.heap.size + 2, 0, none⟩)] (.string (recV (grp k) a b z)) (recE (grp k) a b) (enters_of Try.func149 (by kernel_rfl) rfl) W0 (fun w1 hb hg => ?_)).mono ?_
  · have z1 := HZ.out.2.1.up hb
    have z2 := HZ.out.2.2.1.up hb
    have z3 := HZ.out.2.2.2.up hb
    unfold recV recE
    by_cases hy : (isSc (grp k).q.m (grp k).size a && isSc (grp k).q.m (grp k).size b) = true
    · rw [if_pos hy, if_pos hy]
      obtain ⟨ya, yb⟩ := Bool.and_eq_true_iff.1 hy
      exact reckon1_yes (grp k) OK.out _ _ _ _ f a b z ya yb HE.out w1 hg z1 z2 z3 (fun w2 hg2 => HC.out yb _ w2 hg2)
    · rw [if_neg hy, if_neg hy]
      exact reckon1_no (grp k) OK.out _ _ _ _ a b _ _ rfl rfl (by simpa using hy) w1 hg z1 z2
  · rintro e w2 ⟨rfl, hb2⟩
    have HB2 := Lib.hid (below_up HZ.out.1 hb2)
    clear hb2
    go_wp2_with fail
    go_ret2
    exact ⟨rfl, HB2.out⟩


theorem isSc_lt {q size : Nat} {s : ByteArray} (h : isSc q size s = true) : numOf s < q := by
  unfold isSc at h
  simp at h
  exact h.2

set_option maxRecDepth 100000 in
set_option maxHeartbeats 400000 in
theorem Add_none (k : Int) (hk : ¬ (1 ≤ k ∧ k ≤ 3)) (a b : ByteArray) (w : World) : Calls Try.prog 34 #[.int .i64 k, .string a, .string b] w (Ans (.string ⟨#[]⟩) 1 w) := by
  go_enter Try.func34, Try.ntmps34
  go_wp2_with fail
  refine (reckon_none k hk a b 75 w).mono ?_
  rintro e w1 ⟨rfl, hb⟩
  have HB := Lib.hid hb
  clear hb
  go_wp2_with fail
  go_ret2
  exact ⟨rfl, HB.out⟩

set_option maxRecDepth 100000 in
set_option maxHeartbeats 400000 in
theorem Add_some (k : Nat) (h1 : 1 ≤ k) (h3 : k ≤ 3) (a b : ByteArray) (w : World) : Calls Try.prog 34 #[.int .i64 (k : Int), .string a, .string b] w (Ans (.string (recV (grp k) a b (numOf a + numOf b))) (recE (grp k) a b) w) := by
  have OK := Lib.hid (grp_ok k h1 h3)
  go_enter Try.func34, Try.ntmps34
  go_wp2_with fail
  refine (reckon_some k h1 h3 a b 75 (numOf a + numOf b) (enters_of Try.func75 (by kernel_rfl) rfl) w (fun hb gb w1 hg => gAdd_any (grp k) OK.out gb (numOf a) (numOf b) w1 hg)).mono ?_
  rintro e w1 ⟨rfl, hb⟩
  have HB := Lib.hid hb
  clear hb
  go_wp2_with fail
  go_ret2
  exact ⟨rfl, HB.out⟩

set_option maxRecDepth 100000 in
set_option maxHeartbeats 400000 in
theorem Sub_none (k : Int) (hk : ¬ (1 ≤ k ∧ k ≤ 3)) (a b : ByteArray) (w : World) : Calls Try.prog 35 #[.int .i64 k, .string a, .string b] w (Ans (.string ⟨#[]⟩) 1 w) := by
  go_enter Try.func35, Try.ntmps35
  go_wp2_with fail
  refine (reckon_none k hk a b 61 w).mono ?_
  rintro e w1 ⟨rfl, hb⟩
  have HB := Lib.hid hb
  clear hb
  go_wp2_with fail
  go_ret2
  exact ⟨rfl, HB.out⟩

set_option maxRecDepth 100000 in
set_option maxHeartbeats 400000 in
theorem Sub_some (k : Nat) (h1 : 1 ≤ k) (h3 : k ≤ 3) (a b : ByteArray) (w : World) : Calls Try.prog 35 #[.int .i64 (k : Int), .string a, .string b] w (Ans (.string (recV (grp k) a b (numOf a + ((grp k).q.m - numOf b)))) (recE (grp k) a b) w) := by
  have OK := Lib.hid (grp_ok k h1 h3)
  go_enter Try.func35, Try.ntmps35
  go_wp2_with fail
  refine (reckon_some k h1 h3 a b 61 (numOf a + ((grp k).q.m - numOf b)) (enters_of Try.func61 (by kernel_rfl) rfl) w (fun hb gb w1 hg => gSub_any (grp k) OK.out gb (numOf a) (numOf b) (Nat.le_of_lt (isSc_lt hb)) w1 hg)).mono ?_
  rintro e w1 ⟨rfl, hb⟩
  have HB := Lib.hid hb
  clear hb
  go_wp2_with fail
  go_ret2
  exact ⟨rfl, HB.out⟩

set_option maxRecDepth 100000 in
set_option maxHeartbeats 400000 in
theorem Mul_none (k : Int) (hk : ¬ (1 ≤ k ∧ k ≤ 3)) (a b : ByteArray) (w : World) : Calls Try.prog 33 #[.int .i64 k, .string a, .string b] w (Ans (.string ⟨#[]⟩) 1 w) := by
  go_enter Try.func33, Try.ntmps33
  go_wp2_with fail
  refine (reckon_none k hk a b 63 w).mono ?_
  rintro e w1 ⟨rfl, hb⟩
  have HB := Lib.hid hb
  clear hb
  go_wp2_with fail
  go_ret2
  exact ⟨rfl, HB.out⟩

set_option maxRecDepth 100000 in
set_option maxHeartbeats 400000 in
theorem Mul_some (k : Nat) (h1 : 1 ≤ k) (h3 : k ≤ 3) (a b : ByteArray) (w : World) : Calls Try.prog 33 #[.int .i64 (k : Int), .string a, .string b] w (Ans (.string (recV (grp k) a b (numOf a * numOf b))) (recE (grp k) a b) w) := by
  have OK := Lib.hid (grp_ok k h1 h3)
  go_enter Try.func33, Try.ntmps33
  go_wp2_with fail
  refine (reckon_some k h1 h3 a b 63 (numOf a * numOf b) (enters_of Try.func63 (by kernel_rfl) rfl) w (fun hb gb w1 hg => gMul_any (grp k) OK.out gb (numOf a) (numOf b) w1 hg)).mono ?_
  rintro e w1 ⟨rfl, hb⟩
  have HB := Lib.hid hb
  clear hb
  go_wp2_with fail
  go_ret2
  exact ⟨rfl, HB.out⟩

theorem box1 (w : World) (v1 : Value) (t1 : TypeId) : Below w.heap.size w (w.alloc (.cells #[v1] t1)) ∧ Bx (w.alloc (.cells #[v1] t1)) w.heap.size t1 [v1] :=
  ⟨(Below.refl _ _).alloc (Nat.le_refl _) _, Bx.new w _ _ _ rfl⟩

set_option maxRecDepth 100000 in
set_option maxHeartbeats 400000 in
theorem Inv_none (k : Int) (hk : ¬ (1 ≤ k ∧ k ≤ 3)) (a : ByteArray) (w : World) : Calls Try.prog 31 #[.int .i64 k, .string a] w (Ans (.string ⟨#[]⟩) 1 w) := by
  go_enter Try.func31, Try.ntmps31
  go_wp2_with fail
  obtain ⟨W0, hW0⟩ : ∃ W9 : World, (w.alloc (.cells #[.string a] 9)) = W9 := ⟨_, rfl⟩
  have hz := box1 w (.string a) 9
  rw [hW0] at hz
  have HZ := Lib.hid hz
  clear hz
  simp only [hW0]
  clear hW0
  refine (withS_none k hk _ W0).mono ?_
  rintro e w1 ⟨rfl, hb⟩
  have HB := Lib.hid (below_up HZ.out.1 hb)
  clear hb
  go_wp2_with fail
  go_ret2
  exact ⟨rfl, HB.out⟩

def invV (G : GP) (a : ByteArray) : ByteArray := if isSc G.q.m G.size a = true ∧ numOf a ≠ 0 then textS (numOf a ^ (G.q.m - 2) % G.q.m) G.size else ⟨#[]⟩
def invE (G : GP) (a : ByteArray) : Int := if isSc G.q.m G.size a = true then (if numOf a = 0 then 5 else 0) else 6
def undV (G : GP) (a : ByteArray) : ByteArray := if isEl G.q.m G.size a = true then textS (lowN G (numOf a ^ (G.p.m - 2))) G.size else ⟨#[]⟩
def undE (G : GP) (a : ByteArray) : Int := if isEl G.q.m G.size a = true then 0 else 7
def timV (G : GP) (a b : ByteArray) : ByteArray := if (isEl G.q.m G.size a && isEl G.q.m G.size b) = true then textS (lowN G (numOf a * numOf b)) G.size else ⟨#[]⟩
def timE (G : GP) (a b : ByteArray) : Int := if (isEl G.q.m G.size a && isEl G.q.m G.size b) = true then 0 else 7

theorem Inv_call {k : Nat} (h1 : 1 ≤ k) (h3 : k ≤ 3) {a : ByteArray} {w W0 w1 : World} (hz : Below w.heap.size w W0 ∧ Bx W0 w.heap.size 9 [.string a]) (hb : Below W0.heap.size W0 w1) (hg : GroupAt w1 W0.heap.size (grp k)) :
    Calls Try.prog 94 #[.pointer (some ⟨W0.heap.size, 0, none⟩), .pointer (some ⟨w.heap.size, 0, none⟩)] w1 (Ans (.string (invV (grp k) a)) (invE (grp k) a) w1) := by
  have ok := grp_ok k h1 h3
  have z1 := hz.2.up hb
  unfold invV invE
  by_cases hy : isSc (grp k).q.m (grp k).size a = true
  · have hl := isSc_lt hy
    by_cases h0 : numOf a = 0
    · rw [if_neg (by simp [h0]), if_pos hy, if_pos h0]
      exact inv1_zero _ ok _ _ a hy (by rw [h0, Nat.zero_mod]) w1 hg z1
    · rw [if_pos ⟨hy, h0⟩, if_pos hy, if_neg h0]
      exact inv1_yes _ ok _ _ a hy (by rwa [Nat.mod_eq_of_lt hl]) w1 hg z1
  · rw [if_neg (fun h => hy h.1), if_neg hy]
    exact inv1_no _ ok _ _ a (by simpa using hy) w1 hg z1

set_option maxRecDepth 100000 in
set_option maxHeartbeats 400000 in
theorem Inv_some (k : Nat) (h1 : 1 ≤ k) (h3 : k ≤ 3) (a : ByteArray) (w : World) : Calls Try.prog 31 #[.int .i64 (k : Int), .string a] w (Ans (.string (invV (grp k) a)) (invE (grp k) a) w) := by
  go_enter Try.func31, Try.ntmps31
  go_wp2_with fail
  obtain ⟨W0, hW0⟩ : ∃ W9 : World, (w.alloc (.cells #[.string a] 9)) = W9 := ⟨_, rfl⟩
  have hz := box1 w (.string a) 9
  rw [hW0] at hz
  have HZ := Lib.hid hz
  clear hz
  simp only [hW0]
  clear hW0
  refine (withS_some k h1 h3 94 #[.pointer (some ⟨w.heap.size, 0, none⟩)] (.string (invV (grp k) a)) (invE (grp k) a) (enters_of Try.func94 (by kernel_rfl) rfl) W0 (fun w1 hb hg => Inv_call h1 h3 HZ.out hb hg)).mono ?_
  rintro e w2 ⟨rfl, hb2⟩
  have HB2 := Lib.hid (below_up HZ.out.1 hb2)
  clear hb2
  go_wp2_with fail
  go_ret2
  exact ⟨rfl, HB2.out⟩

end Go.Proofs.Ytipgjookfdkciaa

/- The package group: Product. No condition. -/
namespace Go.Proofs.Ytipgjookfdkciaa
open Go.RowKit

/-- What a product of powers answers: its bytes, and an errno. -/
def prodV (G : GP) : List ByteArray → List ByteArray → Nat → ByteArray
  | a :: xs, n :: ys, z => if isEl G.q.m G.size a = false then ⟨#[]⟩ else if isSc G.q.m G.size n = false then ⟨#[]⟩ else prodV G xs ys (z * numOf a ^ numOf n)
  | _, _, z => textS (lowN G z) G.size
def prodE (G : GP) : List ByteArray → List ByteArray → Int
  | a :: xs, n :: ys => if isEl G.q.m G.size a = false then 7 else if isSc G.q.m G.size n = false then 6 else prodE G xs ys
  | _, _ => 0


set_option maxRecDepth 100000 in
set_option maxHeartbeats 400000 in
theorem product1_long (gb b1 b2 la ln : Nat) (aa an : Option Addr) (ca cn : Nat) (hl : 256 < la ∨ 256 < ln) (w : World)
    (hc1 : Bx w b1 22 [.slice aa la ca]) (hc2 : Bx w b2 22 [.slice an ln cn]) :
    Calls Try.prog 151 #[.pointer (some ⟨gb, 0, none⟩), .pointer (some ⟨b1, 0, none⟩), .pointer (some ⟨b2, 0, none⟩)] w (Ans (.string ⟨#[]⟩) 3 w) := by
  have hk1 := hc1.cell (i := 0) rfl
  have hk2 := hc2.cell (i := 0) rfl
  clear hc1 hc2
  by_cases ha : 256 < la
  · have hd : decide ((la : Int) > 256) = true := by simp; omega
    go_enter Try.func151, Try.ntmps151
    go_wp2_with fail
    go_ret2
    exact ⟨rfl, Below.refl _ _⟩
  · have hd : decide ((la : Int) > 256) = false := by simp; omega
    have hd2 : decide ((ln : Int) > 256) = true := by simp; omega
    go_enter Try.func151, Try.ntmps151
    go_wp2_with fail
    go_ret2
    exact ⟨rfl, Below.refl _ _⟩

set_option maxRecDepth 100000 in
set_option maxHeartbeats 400000 in
theorem product1_form (gb b1 b2 la ln : Nat) (aa an : Option Addr) (ca cn : Nat) (h1 : la ≤ 256) (h2 : ln ≤ 256) (hne : la ≠ ln) (w : World)
    (hc1 : Bx w b1 22 [.slice aa la ca]) (hc2 : Bx w b2 22 [.slice an ln cn]) :
    Calls Try.prog 151 #[.pointer (some ⟨gb, 0, none⟩), .pointer (some ⟨b1, 0, none⟩), .pointer (some ⟨b2, 0, none⟩)] w (Ans (.string ⟨#[]⟩) 2 w) := by
  have hk1 := hc1.cell (i := 0) rfl
  have hk2 := hc2.cell (i := 0) rfl
  clear hc1 hc2
  have hd : decide ((la : Int) > 256) = false := by simp; omega
  have hd2 : decide ((ln : Int) > 256) = false := by simp; omega
  have hd3 : ((la : Int) != (ln : Int)) = true := by rw [bne_iff_ne]; intro h; exact hne (by exact_mod_cast h)
  go_enter Try.func151, Try.ntmps151
  go_wp2_with fail
  go_ret2
  exact ⟨rfl, Below.refl _ _⟩

theorem drop_cons {α : Type} {l : List α} {i : Nat} (h : i < l.length) : l.drop i = l[i] :: l.drop (i + 1) := List.drop_eq_getElem_cons h

set_option maxRecDepth 100000 in
set_option maxHeartbeats 1000000 in
theorem product1_any (G : GP) (ok : G.Ok) (gb b1 b2 L : Nat) (xs ys : List ByteArray) (aa an : Option Addr) (ca cn : Nat) (ha : xs.length = L) (hn : ys.length = L) (hL : L ≤ 256) (w : World) (hG : GroupAt w gb G)
    (hc1 : Bx w b1 22 [.slice aa L ca]) (hc2 : Bx w b2 22 [.slice an L cn]) (hA : Sl w w.heap.size aa (xs.map Value.string)) (hN : Sl w w.heap.size an (ys.map Value.string)) :
    Calls Try.prog 151 #[.pointer (some ⟨gb, 0, none⟩), .pointer (some ⟨b1, 0, none⟩), .pointer (some ⟨b2, 0, none⟩)] w (Ans (.string (prodV G xs ys 1)) (prodE G xs ys) w) := by
  have HLA := Lib.hid ha
  have HLN := Lib.hid hn
  have HC1 := Lib.hid hc1
  have HC2 := Lib.hid hc2
  have HA := Lib.hid hA
  have HNN := Lib.hid hN
  have HG := Lib.hid hG
  have OK := Lib.hid ok
  have hk1 := hc1.cell (i := 0) rfl
  have hk2 := hc2.cell (i := 0) rfl
  clear ha hn hc1 hc2 hA hN hG ok
  have hd : decide ((L : Int) > 256) = false := by simp; omega
  have hd3 : ((L : Int) != (L : Int)) = false := by simp
  go_enter Try.func151, Try.ntmps151
  go_wp2_with fail
  refine (gOne_any G OK.out gb w HG.out).mono ?_
  rintro e w1 ⟨rfl, hb1⟩
  have HB1 := Lib.hid hb1
  clear hb1
  unfold elV limbV
  have hlb : Below w1.heap.size w1 (w1.alloc (.cells #[.int .u64 (dig (mont G.p.m 1) 0 : Int), .int .u64 (dig (mont G.p.m 1) 1 : Int), .int .u64 (dig (mont G.p.m 1) 2 : Int), .int .u64 (dig (mont G.p.m 1) 3 : Int)] 111)) := (Below.refl _ _).alloc (Nat.le_refl _) _
  have hlz : Blk (w1.alloc (.cells #[.int .u64 (dig (mont G.p.m 1) 0 : Int), .int .u64 (dig (mont G.p.m 1) 1 : Int), .int .u64 (dig (mont G.p.m 1) 2 : Int), .int .u64 (dig (mont G.p.m 1) 3 : Int)] 111)) w1.heap.size 111 (lim (mont G.p.m 1)) := Blk.new _ _ _ _ rfl
  obtain ⟨w2, hlw⟩ : ∃ W9 : World, (w1.alloc (.cells #[.int .u64 (dig (mont G.p.m 1) 0 : Int), .int .u64 (dig (mont G.p.m 1) 1 : Int), .int .u64 (dig (mont G.p.m 1) 2 : Int), .int .u64 (dig (mont G.p.m 1) 3 : Int)] 111)) = W9 := ⟨_, rfl⟩
  rw [hlw] at hlb hlz
  have HLw2 := Lib.hid hlb
  have HXw2 := Lib.hid hlz
  clear hlb hlz
  have HB2 := Lib.hid (below_up HB1.out HLw2.out)
  have hwb : w.heap.size ≤ w1.heap.size := HB1.out.size
  clear hk1 hk2
  have hk1 := (HC1.out.up HB2.out).cell (i := 0) rfl
  go_wp2_with fail
  go_loopw [7, 8, 9, 10, 30] (fun _ _ _ _ x wr => ∃ i z : Nat, i ≤ L ∧ x = .int .i64 (i : Int) ∧ Hid (Below w.heap.size w wr) ∧ Hid (Blk wr w1.heap.size 111 (lim (mont G.p.m z))) ∧ Hid (prodV G xs ys 1 = prodV G (xs.drop i) (ys.drop i) z) ∧ Hid (prodE G xs ys = prodE G (xs.drop i) (ys.drop i))) (fun _ _ _ _ x _ => L - (intOf x).toNat)
  case atStart => exact ⟨0, 1, Nat.zero_le _, rfl, HB2.out, HXw2.out, rfl, rfl⟩
  case round =>
    obtain ⟨i, z, hi, hxi, HB, HZ, HV, HE⟩ := hrel
    subst hxi
    clear hk1
    have hk1 := (HC1.out.up HB.out).cell (i := 0) rfl
    have hk2 := (HC2.out.up HB.out).cell (i := 0) rfl
    by_cases hiL : i < L
    · obtain ⟨s, hs⟩ : ∃ s, xs[i]'(by rw [HLA.out]; exact hiL) = s := ⟨_, rfl⟩
      obtain ⟨t, ht⟩ : ∃ t, ys[i]'(by rw [HLN.out]; exact hiL) = t := ⟨_, rfl⟩
      obtain ⟨b3, o3, rfl, hb3, hc3⟩ := HA.out.at i (by rw [List.length_map, HLA.out]; exact hiL)
      obtain ⟨b4, o4, rfl, hb4, hc4⟩ := HNN.out.at i (by rw [List.length_map, HLN.out]; exact hiL)
      rw [List.getElem_map, hs] at hc3
      rw [List.getElem_map, ht] at hc4
      have hx3 : wr.cell? ⟨b3, o3 + i, none⟩ = some (.string s) := by rw [HB.out.cell (p := ⟨b3, o3 + i, none⟩) hb3]; exact hc3
      have HC4 := Lib.hid hc4
      have hdx := drop_cons (show i < xs.length by rw [HLA.out]; exact hiL)
      have hdy := drop_cons (show i < ys.length by rw [HLN.out]; exact hiL)
      rw [hs] at hdx
      rw [ht] at hdy
      have HDX := Lib.hid hdx
      have HDY := Lib.hid hdy
      clear hs ht hc3 hc4 hdx hdy
      obtain ⟨ba, hba⟩ : ∃ b, isEl G.q.m G.size s = b := ⟨_, rfl⟩
      obtain ⟨bb, hbb⟩ : ∃ b, isSc G.q.m G.size t = b := ⟨_, rfl⟩
      have HBA := Lib.hid hba
      have HBB := Lib.hid hbb
      clear hba hbb
      go_wp2_with fail
      refine (gElem_m G OK.out gb s ba HBA.out wr (HG.out.up HB.out)).mono ?_
      rintro e w3 ⟨x, rfl, hb3', hx⟩
      have HX := Lib.hid hx
      have HB3 := Lib.hid (below_up HB.out hb3')
      have HZ3 := Lib.hid (HZ.out.below hb3' HZ.out.lt)
      clear hb3' hx hx3 hk1 hk2
      unfold limbV
      have hlb : Below w3.heap.size w3 (w3.alloc (.cells #[.int .u64 (dig x 0 : Int), .int .u64 (dig x 1 : Int), .int .u64 (dig x 2 : Int), .int .u64 (dig x 3 : Int)] 111)) := (Below.refl _ _).alloc (Nat.le_refl _) _
      have hlz : Blk (w3.alloc (.cells #[.int .u64 (dig x 0 : Int), .int .u64 (dig x 1 : Int), .int .u64 (dig x 2 : Int), .int .u64 (dig x 3 : Int)] 111)) w3.heap.size 111 (lim x) := Blk.new _ _ _ _ rfl
      obtain ⟨w4, hlw⟩ : ∃ W9 : World, (w3.alloc (.cells #[.int .u64 (dig x 0 : Int), .int .u64 (dig x 1 : Int), .int .u64 (dig x 2 : Int), .int .u64 (dig x 3 : Int)] 111)) = W9 := ⟨_, rfl⟩
      rw [hlw] at hlb hlz
      have HLw4 := Lib.hid hlb
      have HXw4 := Lib.hid hlz
      clear hlb hlz
      have HB4 := Lib.hid (below_up HB3.out HLw4.out)
      have HZ4 := Lib.hid (HZ3.out.below HLw4.out HZ3.out.lt)
      have hk2 := (HC2.out.up HB4.out).cell (i := 0) rfl
      have hx4 : w4.cell? ⟨b4, o4 + i, none⟩ = some (.string t) := by rw [HB4.out.cell (p := ⟨b4, o4 + i, none⟩) hb4]; exact HC4.out
      cases ba
      · go_wp2_with fail
        go_ret2
        exact ⟨by rw [HV.out, HE.out, HDX.out, HDY.out]; unfold prodV prodE; rw [if_pos HBA.out, if_pos HBA.out]; rfl, HB4.out⟩
      · obtain rfl : x = mont G.p.m (numOf s) := HX.out rfl
        go_wp2_with fail
        refine (gScalar_m G OK.out gb t bb HBB.out w4 (HG.out.up HB4.out)).mono ?_
        rintro e w5 ⟨y, rfl, hb5, hy⟩
        have HY := Lib.hid hy
        have HB5 := Lib.hid (below_up HB4.out hb5)
        have HZ5 := Lib.hid (HZ4.out.below hb5 HZ4.out.lt)
        have HX5 := Lib.hid (HXw4.out.below hb5 HXw4.out.lt)
        clear hb5 hy hx4 hk2 hlw
        unfold limbV
        have hlb : Below w5.heap.size w5 (w5.alloc (.cells #[.int .u64 (dig y 0 : Int), .int .u64 (dig y 1 : Int), .int .u64 (dig y 2 : Int), .int .u64 (dig y 3 : Int)] 91)) := (Below.refl _ _).alloc (Nat.le_refl _) _
        have hlz : Blk (w5.alloc (.cells #[.int .u64 (dig y 0 : Int), .int .u64 (dig y 1 : Int), .int .u64 (dig y 2 : Int), .int .u64 (dig y 3 : Int)] 91)) w5.heap.size 91 (lim y) := Blk.new _ _ _ _ rfl
        obtain ⟨w6, hlw⟩ : ∃ W9 : World, (w5.alloc (.cells #[.int .u64 (dig y 0 : Int), .int .u64 (dig y 1 : Int), .int .u64 (dig y 2 : Int), .int .u64 (dig y 3 : Int)] 91)) = W9 := ⟨_, rfl⟩
        rw [hlw] at hlb hlz
        have HLw6 := Lib.hid hlb
        have HXw6 := Lib.hid hlz
        clear hlb hlz
        have HB6 := Lib.hid (below_up HB5.out HLw6.out)
        have HZ6 := Lib.hid (HZ5.out.below HLw6.out HZ5.out.lt)
        have HX6 := Lib.hid (HX5.out.below HLw6.out HX5.out.lt)
        cases bb
        · go_wp2_with fail
          go_ret2
          exact ⟨by rw [HV.out, HE.out, HDX.out, HDY.out]; unfold prodV prodE; rw [if_neg (by rw [HBA.out]; decide), if_pos HBB.out, if_neg (by rw [HBA.out]; decide), if_pos HBB.out]; rfl, HB6.out⟩
        · obtain rfl : y = mont G.q.m (numOf t) := HY.out rfl
          have HV2 : Hid (prodV G xs ys 1 = prodV G (xs.drop (i + 1)) (ys.drop (i + 1)) (z * numOf s ^ numOf t)) := by
            show _ = _
            rw [HV.out, HDX.out, HDY.out, prodV, if_neg (by rw [HBA.out]; decide), if_neg (by rw [HBB.out]; decide)]
          have HE2 : Hid (prodE G xs ys = prodE G (xs.drop (i + 1)) (ys.drop (i + 1))) := by
            show _ = _
            rw [HE.out, HDX.out, HDY.out, prodE, if_neg (by rw [HBA.out]; decide), if_neg (by rw [HBB.out]; decide)]
          have HM : Hid (numOf t % G.q.m = numOf t) := Nat.mod_eq_of_lt (isSc_lt HBB.out)
          go_wp2_with fail
          have hz_0 := HZ6.out.cell (i := 0) (x := (dig (mont G.p.m z) 0 : Int)) rfl
          have hz_1 := HZ6.out.cell (i := 1) (x := (dig (mont G.p.m z) 1 : Int)) rfl
          have hz_2 := HZ6.out.cell (i := 2) (x := (dig (mont G.p.m z) 2 : Int)) rfl
          have hz_3 := HZ6.out.cell (i := 3) (x := (dig (mont G.p.m z) 3 : Int)) rfl
          have hx_0 := HX6.out.cell (i := 0) (x := (dig (mont G.p.m (numOf s)) 0 : Int)) rfl
          have hx_1 := HX6.out.cell (i := 1) (x := (dig (mont G.p.m (numOf s)) 1 : Int)) rfl
          have hx_2 := HX6.out.cell (i := 2) (x := (dig (mont G.p.m (numOf s)) 2 : Int)) rfl
          have hx_3 := HX6.out.cell (i := 3) (x := (dig (mont G.p.m (numOf s)) 3 : Int)) rfl
          have hy_0 := HXw6.out.cell (i := 0) (x := (dig (mont G.q.m (numOf t)) 0 : Int)) rfl
          have hy_1 := HXw6.out.cell (i := 1) (x := (dig (mont G.q.m (numOf t)) 1 : Int)) rfl
          have hy_2 := HXw6.out.cell (i := 2) (x := (dig (mont G.q.m (numOf t)) 2 : Int)) rfl
          have hy_3 := HXw6.out.cell (i := 3) (x := (dig (mont G.q.m (numOf t)) 3 : Int)) rfl
          have hl1 := HZ6.out.lt
          have hl2 := HX6.out.lt
          have hl3 := HXw6.out.lt
          refine wp_region_otail 7 (by kernel_rfl) (by kernel_rfl) ?_
          simp only [List.take_succ_cons, List.take_zero, List.drop_succ_cons, List.drop_zero]
          have hov1 := fun (E : Over w6) o => E.cell (b := w1.heap.size) o hl1
          have hov2 := fun (E : Over w6) o => E.cell (b := w3.heap.size) o hl2
          have hov3 := fun (E : Over w6) o => E.cell (b := w5.heap.size) o hl3
          have hpow := fun (E : Over w6) => gPower_any G OK.out gb (numOf s) (numOf t) E.w (HG.out.up (below_up HB6.out E.h))
          rw [HM.out] at hpow
          have HPOW := Lib.hid hpow
          clear hpow
          repeat (go_big_quiet_step (first | (go_at_call 109; exact calls_over (HPOW.out _)) | (go_at_call 108; exact calls_over (gTimes_any G OK.out gb z (numOf s ^ numOf t) _ (HG.out.up (below_up HB6.out (Over.h _)))))))
          all_goals (try unfold elV limbV)
          repeat (go_big_quiet_step (first | (go_at_call 109; exact calls_over (HPOW.out _)) | (go_at_call 108; exact calls_over (gTimes_any G OK.out gb z (numOf s ^ numOf t) _ (HG.out.up (below_up HB6.out (Over.h _)))))))
          all_goals (try unfold elV limbV)
          repeat (go_big_quiet_step (first | (go_at_call 109; exact calls_over (HPOW.out _)) | (go_at_call 108; exact calls_over (gTimes_any G OK.out gb z (numOf s ^ numOf t) _ (HG.out.up (below_up HB6.out (Over.h _)))))))
          refine wpQuiet_nil ?_
          rintro _ ⟨E, rfl⟩
          have HZ7 := Lib.hid (HZ6.out.below E.h HZ6.out.lt)
          have HB7 := Lib.hid (below_up HB6.out E.h)
          clear hov1 hov2 hov3 hz_0 hz_1 hz_2 hz_3
          generalize E.w = w7 at *
          have hz_0 := HZ7.out.cell (i := 0) (x := (dig (mont G.p.m z) 0 : Int)) rfl
          have hz_1 := HZ7.out.cell (i := 1) (x := (dig (mont G.p.m z) 1 : Int)) rfl
          have hz_2 := HZ7.out.cell (i := 2) (x := (dig (mont G.p.m z) 2 : Int)) rfl
          have hz_3 := HZ7.out.cell (i := 3) (x := (dig (mont G.p.m z) 3 : Int)) rfl
          have hzf_0 := HZ7.out.frozen 0
          have hzf_1 := HZ7.out.frozen 1
          have hzf_2 := HZ7.out.frozen 2
          have hzf_3 := HZ7.out.frozen 3
          have HB8 : Hid (Below w.heap.size w (((((w7).setCell ⟨w1.heap.size, 0, none⟩ (.int .u64 (dig (mont G.p.m (z * numOf s ^ numOf t)) 0 : Int))).setCell ⟨w1.heap.size, 1, none⟩ (.int .u64 (dig (mont G.p.m (z * numOf s ^ numOf t)) 1 : Int))).setCell ⟨w1.heap.size, 2, none⟩ (.int .u64 (dig (mont G.p.m (z * numOf s ^ numOf t)) 2 : Int))).setCell ⟨w1.heap.size, 3, none⟩ (.int .u64 (dig (mont G.p.m (z * numOf s ^ numOf t)) 3 : Int)))) := below_fill HB7.out hwb
          have HZ8 : Hid (Blk (((((w7).setCell ⟨w1.heap.size, 0, none⟩ (.int .u64 (dig (mont G.p.m (z * numOf s ^ numOf t)) 0 : Int))).setCell ⟨w1.heap.size, 1, none⟩ (.int .u64 (dig (mont G.p.m (z * numOf s ^ numOf t)) 1 : Int))).setCell ⟨w1.heap.size, 2, none⟩ (.int .u64 (dig (mont G.p.m (z * numOf s ^ numOf t)) 2 : Int))).setCell ⟨w1.heap.size, 3, none⟩ (.int .u64 (dig (mont G.p.m (z * numOf s ^ numOf t)) 3 : Int))) w1.heap.size 111 (lim (mont G.p.m (z * numOf s ^ numOf t)))) := HZ7.out.fill rfl _
          go_wp2_with fail
          go_roundw
          case rel => exact ⟨i + 1, z * numOf s ^ numOf t, by omega, by go_num, HB8.out, HZ8.out, HV2.out, HE2.out⟩
          case measure => simp [intOf]; omega
    · have hil : i = L := by omega
      subst hil
      have hz_0 := HZ.out.cell (i := 0) (x := (dig (mont G.p.m z) 0 : Int)) rfl
      have hz_1 := HZ.out.cell (i := 1) (x := (dig (mont G.p.m z) 1 : Int)) rfl
      have hz_2 := HZ.out.cell (i := 2) (x := (dig (mont G.p.m z) 2 : Int)) rfl
      have hz_3 := HZ.out.cell (i := 3) (x := (dig (mont G.p.m z) 3 : Int)) rfl
      go_wp2_with fail
      refine (gText_any G OK.out gb z wr (HG.out.up HB.out)).mono ?_
      rintro e w3 ⟨rfl, hb3⟩
      have HB3 := Lib.hid (below_up HB.out hb3)
      clear hb3
      go_wp2_with fail
      go_ret2
      refine ⟨?_, HB3.out⟩
      rw [HV.out, HE.out, List.drop_eq_nil_of_le (by rw [HLA.out]; exact Nat.le_refl _)]
      rfl

def proV (G : GP) (xs ys : List ByteArray) : ByteArray := if 256 < xs.length ∨ 256 < ys.length then ⟨#[]⟩ else if xs.length ≠ ys.length then ⟨#[]⟩ else prodV G xs ys 1
def proE (G : GP) (xs ys : List ByteArray) : Int := if 256 < xs.length ∨ 256 < ys.length then 3 else if xs.length ≠ ys.length then 2 else prodE G xs ys

theorem Product_call {k : Nat} (h1 : 1 ≤ k) (h3 : k ≤ 3) {xs ys : List ByteArray} {aa an : Option Addr} {la ln ca cn : Nat} (ha : xs.length = la) (hn : ys.length = ln) {w W0 w1 : World}
    (hA : Sl w w.heap.size aa (xs.map Value.string)) (hN : Sl w w.heap.size an (ys.map Value.string))
    (hz : Below w.heap.size w W0 ∧ Bx W0 w.heap.size 22 [.slice aa la ca] ∧ Bx W0 (w.heap.size + 1) 22 [.slice an ln cn]) (hb : Below W0.heap.size W0 w1) (hg : GroupAt w1 W0.heap.size (grp k)) :
    Calls Try.prog 151 #[.pointer (some ⟨W0.heap.size, 0, none⟩), .pointer (some ⟨w.heap.size, 0, none⟩), .pointer (some ⟨w.heap.size + 1, 0, none⟩)] w1 (Ans (.string (proV (grp k) xs ys)) (proE (grp k) xs ys) w1) := by
  have ok := grp_ok k h1 h3
  have z1 := hz.2.1.up hb
  have z2 := hz.2.2.up hb
  have hu := below_up hz.1 hb
  unfold proV proE
  rw [ha, hn]
  by_cases hl : 256 < la ∨ 256 < ln
  · rw [if_pos hl, if_pos hl]
    exact product1_long _ _ _ la ln aa an ca cn hl w1 z1 z2
  · rw [if_neg hl, if_neg hl]
    by_cases he : la = ln
    · subst he
      rw [if_neg (by simp), if_neg (by simp)]
      exact product1_any _ ok _ _ _ la xs ys aa an ca cn ha hn (by omega) w1 hg z1 z2 (hA.up hu) (hN.up hu)
    · rw [if_pos he, if_pos he]
      exact product1_form _ _ _ la ln aa an ca cn (by omega) (by omega) he w1 z1 z2

set_option maxRecDepth 100000 in
set_option maxHeartbeats 400000 in
theorem Product_none (k : Int) (hk : ¬ (1 ≤ k ∧ k ≤ 3)) (aa an : Option Addr) (la ln ca cn : Nat) (w : World) : Calls Try.prog 100 #[.int .i64 k, .slice aa la ca, .slice an ln cn] w (Ans (.string ⟨#[]⟩) 1 w) := by
  go_enter Try.func100, Try.ntmps100
  go_wp2_with fail
  obtain ⟨W0, hW0⟩ : ∃ W9 : World, ((w.alloc (.cells #[.slice aa la ca] 22)).alloc (.cells #[.slice an ln cn] 22)) = W9 := ⟨_, rfl⟩
  have hz := box2 w (.slice aa la ca) (.slice an ln cn) 22 22
  rw [hW0] at hz
  have HZ := Lib.hid hz
  clear hz
  simp only [hW0]
  clear hW0
  refine (withS_none k hk _ W0).mono ?_
  rintro e w1 ⟨rfl, hb⟩
  have HB := Lib.hid (below_up HZ.out.1 hb)
  clear hb
  go_wp2_with fail
  go_ret2
  exact ⟨rfl, HB.out⟩

set_option maxRecDepth 100000 in
set_option maxHeartbeats 400000 in
theorem Product_some (k : Nat) (h1 : 1 ≤ k) (h3 : k ≤ 3) (xs ys : List ByteArray) (aa an : Option Addr) (la ln ca cn : Nat) (ha : xs.length = la) (hn : ys.length = ln) (w : World)
    (hA : Sl w w.heap.size aa (xs.map Value.string)) (hN : Sl w w.heap.size an (ys.map Value.string)) :
    Calls Try.prog 100 #[.int .i64 (k : Int), .slice aa la ca, .slice an ln cn] w (Ans (.string (proV (grp k) xs ys)) (proE (grp k) xs ys) w) := by
  have HLA := Lib.hid ha
  have HLN := Lib.hid hn
  have HA := Lib.hid hA
  have HN := Lib.hid hN
  clear ha hn hA hN
  go_enter Try.func100, Try.ntmps100
  go_wp2_with fail
  obtain ⟨W0, hW0⟩ : ∃ W9 : World, ((w.alloc (.cells #[.slice aa la ca] 22)).alloc (.cells #[.slice an ln cn] 22)) = W9 := ⟨_, rfl⟩
  have hz := box2 w (.slice aa la ca) (.slice an ln cn) 22 22
  rw [hW0] at hz
  have HZ := Lib.hid hz
  clear hz
  simp only [hW0]
  clear hW0
  refine (withS_some k h1 h3 151 #[.pointer (some ⟨w.heap.size, 0, none⟩), .pointer (some ⟨w.heap.size + 1, 0, none⟩)] (.string (proV (grp k) xs ys)) (proE (grp k) xs ys) (enters_of Try.func151 (by kernel_rfl) rfl) W0 (fun w1 hb hg => Product_call h1 h3 HLA.out HLN.out HA.out HN.out HZ.out hb hg)).mono ?_
  rintro e w2 ⟨rfl, hb2⟩
  have HB2 := Lib.hid (below_up HZ.out.1 hb2)
  clear hb2
  go_wp2_with fail
  go_ret2
  exact ⟨rfl, HB2.out⟩

end Go.Proofs.Ytipgjookfdkciaa

/- The package group: Power. No condition. -/
namespace Go.Proofs.Ytipgjookfdkciaa
open Go.RowKit

def powV (G : GP) (a n : ByteArray) : ByteArray := if isEl G.q.m G.size a = false then ⟨#[]⟩ else if isSc G.q.m G.size n = false then ⟨#[]⟩ else textS (lowN G (numOf a ^ numOf n)) G.size
def powE (G : GP) (a n : ByteArray) : Int := if isEl G.q.m G.size a = false then 7 else if isSc G.q.m G.size n = false then 6 else 0

theorem powV_eq (G : GP) (a n : ByteArray) : proV G [a] [n] = powV G a n := by
  unfold proV powV
  rw [if_neg (by simp), if_neg (by simp)]
  unfold prodV
  rw [Nat.one_mul]
  rfl
theorem powE_eq (G : GP) (a n : ByteArray) : proE G [a] [n] = powE G a n := by
  unfold proE powE
  rw [if_neg (by simp), if_neg (by simp)]
  rfl

set_option maxRecDepth 100000 in
set_option maxHeartbeats 400000 in
theorem Power_none (k : Int) (hk : ¬ (1 ≤ k ∧ k ≤ 3)) (a n : ByteArray) (w : World) : Calls Try.prog 37 #[.int .i64 k, .string a, .string n] w (Ans (.string ⟨#[]⟩) 1 w) := by
  go_enter Try.func37, Try.ntmps37
  go_wp2_with fail
  have hz := (box2 w (.string a) (.string n) 9 9).1
  refine (Product_none k hk _ _ 1 1 1 1 _).mono ?_
  rintro e w1 ⟨rfl, hb⟩
  have HB := Lib.hid (below_up hz hb)
  clear hb hz
  go_wp2_with fail
  go_ret2
  exact ⟨rfl, HB.out⟩

theorem Sl.of_bx {W : World} {b : Nat} {t : TypeId} {cs : List Value} (h : Bx W b t cs) : Sl W W.heap.size (some ⟨b, 0, none⟩) cs := by
  have h1 := Sl.of_block h
  simpa using h1

set_option maxRecDepth 100000 in
set_option maxHeartbeats 400000 in
theorem Power_some (k : Nat) (h1 : 1 ≤ k) (h3 : k ≤ 3) (a n : ByteArray) (w : World) : Calls Try.prog 37 #[.int .i64 (k : Int), .string a, .string n] w (Ans (.string (powV (grp k) a n)) (powE (grp k) a n) w) := by
  go_enter Try.func37, Try.ntmps37
  go_wp2_with fail
  have hz := box2 w (.string a) (.string n) 9 9
  have hp := Product_some k h1 h3 [a] [n] (some ⟨w.heap.size, 0, none⟩) (some ⟨w.heap.size + 1, 0, none⟩) 1 1 1 1 rfl rfl _ (Sl.of_bx hz.2.1) (Sl.of_bx hz.2.2)
  rw [powV_eq, powE_eq] at hp
  refine hp.mono ?_
  rintro e w1 ⟨rfl, hb⟩
  have HB := Lib.hid (below_up hz.1 hb)
  clear hb hz hp
  go_wp2_with fail
  go_ret2
  exact ⟨rfl, HB.out⟩

end Go.Proofs.Ytipgjookfdkciaa

/- The group's numbers, in plain words: the lower of a number and its opposite. No condition. -/
namespace Go.Proofs.Ytipgjookfdkciaa

theorem grp_prime_q (k : Nat) (h1 : 1 ≤ k) (h3 : k ≤ 3) : IsPrime (grp k).q.m := by
  obtain rfl | rfl | rfl : k = 1 ∨ k = 2 ∨ k = 3 := by omega
  · exact prime_q1
  · exact prime_q2
  · exact prime_q3
theorem grp_prime_p (k : Nat) (h1 : 1 ≤ k) (h3 : k ≤ 3) : IsPrime (grp k).p.m := by
  obtain rfl | rfl | rfl : k = 1 ∨ k = 2 ∨ k = 3 := by omega
  · exact prime_p1
  · exact prime_p2
  · exact prime_p3

/-- Two numbers are one or opposite, modulo p. -/
def PM (p x y : Nat) : Prop := (p : Int) ∣ (x : Int) - y ∨ (p : Int) ∣ (x : Int) + y

theorem PM.refl (p x : Nat) : PM p x x := Or.inl ⟨0, by omega⟩
theorem PM.of_mod {p x y : Nat} (h : x % p = y % p) : PM p x y := Or.inl (by
  have h1 := Nat.div_add_mod x p
  have h2 := Nat.div_add_mod y p
  refine ⟨(x / p : Nat) - (y / p : Nat), ?_⟩
  have e1 : (x : Int) = p * (x / p : Nat) + (x % p : Nat) := by exact_mod_cast h1.symm
  have e2 : (y : Int) = p * (y / p : Nat) + (y % p : Nat) := by exact_mod_cast h2.symm
  rw [e1, e2, h]
  generalize ((x / p : Nat) : Int) = a
  generalize ((y / p : Nat) : Int) = b
  grind)
theorem PM.symm {p x y : Nat} (h : PM p x y) : PM p y x := by
  rcases h with ⟨c, h⟩ | ⟨c, h⟩
  · exact Or.inl ⟨-c, by grind⟩
  · exact Or.inr ⟨c, by grind⟩
theorem PM.trans {p x y z : Nat} (h : PM p x y) (g : PM p y z) : PM p x z := by
  rcases h with ⟨c, h⟩ | ⟨c, h⟩ <;> rcases g with ⟨d, g⟩ | ⟨d, g⟩
  · exact Or.inl ⟨c + d, by grind⟩
  · exact Or.inr ⟨c + d, by grind⟩
  · exact Or.inr ⟨c - d, by grind⟩
  · exact Or.inl ⟨c - d, by grind⟩
theorem PM.mul {p x y u v : Nat} (h : PM p x y) (g : PM p u v) : PM p (x * u) (y * v) := by
  have e1 : ((x * u : Nat) : Int) = x * u := by simp
  have e2 : ((y * v : Nat) : Int) = y * v := by simp
  unfold PM
  rw [e1, e2]
  rcases h with ⟨c, h⟩ | ⟨c, h⟩ <;> rcases g with ⟨d, g⟩ | ⟨d, g⟩
  · exact Or.inl ⟨c * u + y * d, by grind⟩
  · exact Or.inr ⟨c * u + y * d, by grind⟩
  · exact Or.inr ⟨c * u - y * d, by grind⟩
  · exact Or.inl ⟨c * u - y * d, by grind⟩
theorem PM.pow {p x y : Nat} (h : PM p x y) : ∀ n : Nat, PM p (x ^ n) (y ^ n)
  | 0 => PM.refl _ _
  | n + 1 => by rw [Nat.pow_succ, Nat.pow_succ]; exact PM.mul (PM.pow h n) h
theorem PM.mod (p x : Nat) : PM p (x % p) x := PM.of_mod (Nat.mod_mod _ _)

theorem lowR_pm (q p x : Nat) (hx : x < p) : PM p (lowR q p x) x := by
  unfold lowR
  split
  · exact Or.inr ⟨1, by omega⟩
  · exact PM.refl _ _
theorem lowR_leq {q p x : Nat} (hp : p = 2 * q + 1) (hx : x < p) : lowR q p x ≤ q := by
  unfold lowR
  split <;> omega
theorem lowR_fix {q p x : Nat} (hx : x ≤ q) : lowR q p x = x := by
  unfold lowR
  rw [if_neg (by omega)]
theorem lowR_pos {q p x : Nat} (hx : x < p) (h0 : 0 < x) : 0 < lowR q p x := by
  unfold lowR
  split <;> omega

/-- Low numbers that are one or opposite are one. -/
theorem low_unique {q p x y : Nat} (hp : p = 2 * q + 1) (hx : x ≤ q) (hy : y ≤ q) (h : PM p x y) : x = y := by
  rcases h with h | h
  · have := Int.eq_zero_of_dvd_of_natAbs_lt_natAbs h (by omega)
    omega
  · have := Int.eq_zero_of_dvd_of_natAbs_lt_natAbs h (by omega)
    omega

theorem low_eq {q p x y : Nat} (hq : 0 < q) (hp : p = 2 * q + 1) (h : PM p x y) : lowR q p (x % p) = lowR q p (y % p) := by
  have hx := Nat.mod_lt x (show 0 < p by omega)
  have hy := Nat.mod_lt y (show 0 < p by omega)
  exact low_unique hp (lowR_leq hp hx) (lowR_leq hp hy) ((((lowR_pm q p _ hx).trans (PM.mod p x)).trans h).trans (((lowR_pm q p _ hy).trans (PM.mod p y)).symm))

theorem pm_low {q p : Nat} (hp : 0 < p) (x : Nat) : PM p (lowR q p (x % p)) x := (lowR_pm q p _ (Nat.mod_lt x hp)).trans (PM.mod p x)

/-- Fermat and Euler: a to the q is 1 or its opposite. -/
theorem pm_euler {q p a : Nat} (hpp : IsPrime p) (hp : p = 2 * q + 1) (h0 : 0 < a) (ha : a < p) : PM p (a ^ q) 1 := by
  have hnd : ¬ p ∣ a := fun h => by have := Nat.le_of_dvd h0 h; omega
  have hf := fermat hpp hnd
  rw [show p - 1 = q * 2 by omega, Nat.pow_mul] at hf
  obtain ⟨b, hb⟩ : ∃ b, a ^ q = b := ⟨_, rfl⟩
  rw [hb] at hf ⊢
  have hb0 : 0 < b := by rw [← hb]; exact Nat.pow_pos h0
  have h2 : p ∣ b ^ 2 - 1 := (mod_eq_iff_dvd_sub (Nat.pow_pos hb0)).1 hf
  have h3 : b ^ 2 - 1 = (b - 1) * (b + 1) := by
    obtain ⟨c, rfl⟩ : ∃ c, b = c + 1 := ⟨b - 1, by omega⟩
    rw [Nat.add_sub_cancel, Nat.pow_two]
    have : (c + 1) * (c + 1) = c * (c + 1 + 1) + 1 := by grind
    omega
  rw [h3] at h2
  rcases hpp.dvd_mul h2 with ⟨c, h⟩ | ⟨c, h⟩
  · refine Or.inl ⟨c, ?_⟩
    have : ((b - 1 : Nat) : Int) = p * c := by rw [h]; simp
    omega
  · refine Or.inr ⟨c, ?_⟩
    have : ((b + 1 : Nat) : Int) = p * c := by rw [h]; simp
    omega

theorem under_low {q p a : Nat} (hpp : IsPrime p) (hp : p = 2 * q + 1) (hq : 0 < q) (h0 : 0 < a) (ha : a ≤ q) : lowR q p (a ^ (p - 2) % p) = lowR q p (a ^ (q - 1) % p) := by
  refine low_eq hq hp ?_
  rw [show p - 2 = q + (q - 1) by omega, Nat.pow_add]
  have h := PM.mul (pm_euler hpp hp h0 (by omega)) (PM.refl p (a ^ (q - 1)))
  rwa [Nat.one_mul] at h

theorem low_mul {q p : Nat} (hq : 0 < q) (hp : p = 2 * q + 1) (x y : Nat) : lowR q p (lowR q p (x % p) * lowR q p (y % p) % p) = lowR q p (x * y % p) :=
  low_eq hq hp (PM.mul (pm_low (by omega) x) (pm_low (by omega) y))

end Go.Proofs.Ytipgjookfdkciaa

/- Numbers in so many bytes, there and back; the group's faces on such texts. No condition. -/
namespace Go.Proofs.Ytipgjookfdkciaa
open Go.RowKit

theorem numL_inj : ∀ l m : List UInt8, l.length = m.length → numL l = numL m → l = m
  | [], [], _, _ => rfl
  | [], _ :: _, h, _ => by simp at h
  | _ :: _, [], h, _ => by simp at h
  | a :: l, b :: m, h, e => by
    have hl : l.length = m.length := by simpa using h
    have h1 := numL_lt l
    have h2 := numL_lt m
    simp only [numL] at e
    rw [hl] at e h1
    have hP : 0 < 256 ^ m.length := Nat.pow_pos (by decide)
    have hd := congrArg (· / 256 ^ m.length) e
    have hm := congrArg (· % 256 ^ m.length) e
    simp only [Nat.mul_comm _ (256 ^ m.length), Nat.mul_add_div hP, Nat.mul_add_mod, Nat.div_eq_of_lt h1, Nat.div_eq_of_lt h2, Nat.mod_eq_of_lt h1, Nat.mod_eq_of_lt h2, Nat.add_zero] at hd hm
    rw [numL_inj l m hl hm, UInt8.toNat_inj.1 hd]

theorem numOf_inj {s t : ByteArray} (h : s.size = t.size) (e : numOf s = numOf t) : s = t := by
  have h1 := numL_inj s.data.toList t.data.toList (by simpa using h) e
  cases s; cases t
  simp at h1
  rw [h1]

theorem text_numOf (s : ByteArray) : textS (numOf s) s.size = s := by
  refine numOf_inj (textS_size _ _) ?_
  rw [numOf_textS]
  exact Nat.mod_eq_of_lt (by have := numL_lt s.data.toList; simpa [numOf] using this)

/-- A number as a text of the group. -/
def T (G : GP) (n : Nat) : ByteArray := textS n G.size

theorem T_size (G : GP) (n : Nat) : (T G n).size = G.size := textS_size _ _
theorem T_num {G : GP} (_ok : G.Ok) {n : Nat} (h : n ≤ G.q.m) (hne : G.q.m < 256 ^ G.size) : numOf (T G n) = n := by
  unfold T
  rw [numOf_textS]
  exact Nat.mod_eq_of_lt (by omega)

theorem T_of {G : GP} {s : ByteArray} (h : s.size = G.size) : s = T G (numOf s) := by
  unfold T
  rw [← h]
  exact (text_numOf s).symm

theorem T_sc {G : GP} (ok : G.Ok) (hne : G.q.m < 256 ^ G.size) {n : Nat} (h : n < G.q.m) : isSc G.q.m G.size (T G n) = true := by
  unfold isSc
  rw [T_size, T_num ok (Nat.le_of_lt h) hne]
  simp [h]
theorem T_el {G : GP} (ok : G.Ok) (hne : G.q.m < 256 ^ G.size) {n : Nat} (h0 : 0 < n) (h : n ≤ G.q.m) : isEl G.q.m G.size (T G n) = true := by
  unfold isEl
  rw [T_size, T_num ok h hne]
  simp [h, h0]

theorem grp_fits (k : Nat) (h1 : 1 ≤ k) (h3 : k ≤ 3) : (grp k).q.m < 256 ^ (grp k).size := by
  obtain rfl | rfl | rfl : k = 1 ∨ k = 2 ∨ k = 3 := by omega
  all_goals decide


theorem recV_t {k : Nat} (h1 : 1 ≤ k) (h3 : k ≤ 3) {x y z r : Nat} (hx : x < (grp k).q.m) (hy : y < (grp k).q.m) (hr : z % (grp k).q.m = r) : recV (grp k) (T (grp k) x) (T (grp k) y) z = T (grp k) r := by
  unfold recV
  rw [T_sc (grp_ok k h1 h3) (grp_fits k h1 h3) hx, T_sc (grp_ok k h1 h3) (grp_fits k h1 h3) hy, hr]
  rfl
theorem recE_t {k : Nat} (h1 : 1 ≤ k) (h3 : k ≤ 3) {x y : Nat} (hx : x < (grp k).q.m) (hy : y < (grp k).q.m) : recE (grp k) (T (grp k) x) (T (grp k) y) = 0 := by
  unfold recE
  rw [T_sc (grp_ok k h1 h3) (grp_fits k h1 h3) hx, T_sc (grp_ok k h1 h3) (grp_fits k h1 h3) hy]
  rfl

theorem sub_t (k : Nat) (h1 : 1 ≤ k) (h3 : k ≤ 3) (x y r : Nat) (hx : x < (grp k).q.m) (hy : y < (grp k).q.m) (hr : (x + ((grp k).q.m - y)) % (grp k).q.m = r) (w : World) :
    Calls Try.prog 35 #[.int .i64 (k : Int), .string (T (grp k) x), .string (T (grp k) y)] w (Ans (.string (T (grp k) r)) 0 w) := by
  have hA := Sub_some k h1 h3 (T (grp k) x) (T (grp k) y) w
  rwa [recV_t (r := r) h1 h3 hx hy (by rw [T_num (grp_ok k h1 h3) (Nat.le_of_lt hx) (grp_fits k h1 h3), T_num (grp_ok k h1 h3) (Nat.le_of_lt hy) (grp_fits k h1 h3)]; exact hr), recE_t h1 h3 hx hy] at hA

theorem inv_zero_t (k : Nat) (h1 : 1 ≤ k) (h3 : k ≤ 3) (w : World) : Calls Try.prog 31 #[.int .i64 (k : Int), .string (T (grp k) 0)] w (Ans (.string ⟨#[]⟩) 5 w) := by
  have hq : 0 < (grp k).q.m := (grp_ok k h1 h3).q.pos
  have hA := Inv_some k h1 h3 (T (grp k) 0) w
  have e1 : numOf (T (grp k) 0) = 0 := T_num (grp_ok k h1 h3) (Nat.zero_le _) (grp_fits k h1 h3)
  have e2 := T_sc (grp_ok k h1 h3) (grp_fits k h1 h3) hq
  rwa [show invV (grp k) (T (grp k) 0) = ⟨#[]⟩ by unfold invV; rw [if_neg (by simp [e1])], show invE (grp k) (T (grp k) 0) = 5 by unfold invE; rw [if_pos e2, if_pos e1]] at hA

theorem inv_t (k : Nat) (h1 : 1 ≤ k) (h3 : k ≤ 3) (x r : Nat) (h0 : 0 < x) (hx : x < (grp k).q.m) (hr : x ^ ((grp k).q.m - 2) % (grp k).q.m = r) (w : World) : Calls Try.prog 31 #[.int .i64 (k : Int), .string (T (grp k) x)] w (Ans (.string (T (grp k) r)) 0 w) := by
  have hA := Inv_some k h1 h3 (T (grp k) x) w
  have e1 : numOf (T (grp k) x) = x := T_num (grp_ok k h1 h3) (Nat.le_of_lt hx) (grp_fits k h1 h3)
  have e2 := T_sc (grp_ok k h1 h3) (grp_fits k h1 h3) hx
  rwa [show invV (grp k) (T (grp k) x) = T (grp k) r by unfold invV; rw [if_pos ⟨e2, by omega⟩, e1, hr]; rfl, show invE (grp k) (T (grp k) x) = 0 by unfold invE; rw [if_pos e2, if_neg (by omega)]] at hA

theorem number_t (k : Nat) (h1 : 1 ≤ k) (h3 : k ≤ 3) (n : Int) (r : Nat) (hn1 : -9223372036854775808 ≤ n) (hn2 : n ≤ 9223372036854775807) (hr : modI (grp k).q.m n = r) (w : World) : Calls Try.prog 53 #[.int .i64 (k : Int), .int .i64 n] w (Ans (.string (T (grp k) r)) 0 w) := by
  subst hr
  exact Number_some k h1 h3 n hn1 hn2 w

theorem scal_t (k : Nat) (h1 : 1 ≤ k) (h3 : k ≤ 3) (x : Nat) (hx : x < (grp k).q.m) (w : World) : Calls Try.prog 32 #[.int .i64 (k : Int), .string (T (grp k) x)] w fun e w' => e = .returned (.bool true) ∧ Below w.heap.size w w' := by
  have h9 := Scalar_some k h1 h3 (T (grp k) x) w
  rwa [T_sc (grp_ok k h1 h3) (grp_fits k h1 h3) hx] at h9

end Go.Proofs.Ytipgjookfdkciaa

/- The group's faces on texts of elements; what powers of elements are. No condition. -/
namespace Go.Proofs.Ytipgjookfdkciaa
open Go.RowKit

/-- The element that a number stands for. -/
def Lw (q p v : Nat) : Nat := lowR q p (v % p)

section
variable {q p : Nat} (hq : 0 < q) (hp : p = 2 * q + 1)
include hq hp
theorem Lw_eq {x y : Nat} (h : PM p x y) : Lw q p x = Lw q p y := low_eq hq hp h
omit hq in
theorem Lw_pm (x : Nat) : PM p (Lw q p x) x := pm_low (by omega) x
omit hq in
theorem Lw_le (x : Nat) : Lw q p x ≤ q := lowR_leq hp (Nat.mod_lt _ (by omega))
omit hq in
theorem Lw_fix {x : Nat} (h : x ≤ q) : Lw q p x = x := by
  unfold Lw
  rw [Nat.mod_eq_of_lt (by omega), lowR_fix h]
omit hq in
theorem Lw_pos {x : Nat} (h : ¬ p ∣ x) : 0 < Lw q p x := by
  unfold Lw
  refine lowR_pos (Nat.mod_lt _ (by omega)) ?_
  rcases Nat.eq_zero_or_pos (x % p) with h0 | h0
  · exact absurd (Nat.dvd_of_mod_eq_zero h0) h
  · exact h0
end

theorem IsPrime.not_dvd_mul {p a b : Nat} (hp : IsPrime p) (ha : ¬ p ∣ a) (hb : ¬ p ∣ b) : ¬ p ∣ a * b := fun h => (hp.dvd_mul h).elim ha hb
theorem IsPrime.not_dvd_pow {p a : Nat} (hp : IsPrime p) (ha : ¬ p ∣ a) : ∀ n, ¬ p ∣ a ^ n
  | 0 => fun h => by rw [Nat.pow_zero] at h; have := Nat.le_of_dvd (by decide) h; have := hp.1; omega
  | n + 1 => by rw [Nat.pow_succ]; exact hp.not_dvd_mul (IsPrime.not_dvd_pow hp ha n) ha
theorem not_dvd_small {p a : Nat} (h0 : 0 < a) (h : a < p) : ¬ p ∣ a := fun hd => by have := Nat.le_of_dvd h0 hd; omega

/-- Powers of an element go by the order. -/
theorem pm_pow_mod {q p a : Nat} (hpp : IsPrime p) (hp : p = 2 * q + 1) (h0 : 0 < a) (ha : a < p) (n : Nat) : PM p (a ^ (n % q)) (a ^ n) := by
  have h1 : a ^ n = a ^ (n % q) * (a ^ q) ^ (n / q) := by
    rw [← Nat.pow_mul, ← Nat.pow_add, Nat.mod_add_div]
  rw [h1]
  have h2 := PM.mul (PM.refl p (a ^ (n % q))) ((pm_euler hpp hp h0 ha).pow (n / q))
  rw [Nat.one_pow, Nat.mul_one] at h2
  exact h2.symm

theorem memb_t (k : Nat) (h1 : 1 ≤ k) (h3 : k ≤ 3) (x : Nat) (h0 : 0 < x) (hx : x ≤ (grp k).q.m) (w : World) : Calls Try.prog 122 #[.int .i64 (k : Int), .string (T (grp k) x)] w fun e w' => e = .returned (.bool true) ∧ Below w.heap.size w w' := by
  have h9 := Member_some k h1 h3 (T (grp k) x) w
  rwa [T_el (grp_ok k h1 h3) (grp_fits k h1 h3) h0 hx] at h9

theorem timV_t {k : Nat} (h1 : 1 ≤ k) (h3 : k ≤ 3) {x y r : Nat} (h0 : 0 < x) (hx : x ≤ (grp k).q.m) (g0 : 0 < y) (hy : y ≤ (grp k).q.m) (hr : Lw (grp k).q.m (grp k).p.m (x * y) = r) : timV (grp k) (T (grp k) x) (T (grp k) y) = T (grp k) r ∧ timE (grp k) (T (grp k) x) (T (grp k) y) = 0 := by
  unfold timV timE
  rw [T_el (grp_ok k h1 h3) (grp_fits k h1 h3) h0 hx, T_el (grp_ok k h1 h3) (grp_fits k h1 h3) g0 hy, T_num (grp_ok k h1 h3) hx (grp_fits k h1 h3), T_num (grp_ok k h1 h3) hy (grp_fits k h1 h3)]
  exact ⟨congrArg (textS · _) hr, rfl⟩
theorem powV_t {k : Nat} (h1 : 1 ≤ k) (h3 : k ≤ 3) {x n r : Nat} (h0 : 0 < x) (hx : x ≤ (grp k).q.m) (hn : n < (grp k).q.m) (hr : Lw (grp k).q.m (grp k).p.m (x ^ n) = r) : powV (grp k) (T (grp k) x) (T (grp k) n) = T (grp k) r ∧ powE (grp k) (T (grp k) x) (T (grp k) n) = 0 := by
  unfold powV powE
  rw [T_el (grp_ok k h1 h3) (grp_fits k h1 h3) h0 hx, T_sc (grp_ok k h1 h3) (grp_fits k h1 h3) hn, T_num (grp_ok k h1 h3) hx (grp_fits k h1 h3), T_num (grp_ok k h1 h3) (Nat.le_of_lt hn) (grp_fits k h1 h3)]
  exact ⟨congrArg (textS · _) hr, rfl⟩

theorem power_t (k : Nat) (h1 : 1 ≤ k) (h3 : k ≤ 3) (x n r : Nat) (h0 : 0 < x) (hx : x ≤ (grp k).q.m) (hn : n < (grp k).q.m) (hr : Lw (grp k).q.m (grp k).p.m (x ^ n) = r) (w : World) : Calls Try.prog 37 #[.int .i64 (k : Int), .string (T (grp k) x), .string (T (grp k) n)] w (Ans (.string (T (grp k) r)) 0 w) := by
  have h9 := Power_some k h1 h3 (T (grp k) x) (T (grp k) n) w
  obtain ⟨e1, e2⟩ := powV_t h1 h3 h0 hx hn hr
  rwa [e1, e2] at h9
theorem addF_t (k : Nat) (h1 : 1 ≤ k) (h3 : k ≤ 3) (x y r : Nat) (hx : x < (grp k).q.m) (hy : y < (grp k).q.m) (hr : (x + y) % (grp k).q.m = r) (w : World) :
    Calls Try.prog 34 #[.int .i64 (k : Int), .string (T (grp k) x), .string (T (grp k) y)] w (Ans (.string (T (grp k) r)) 0 w) := by
  have hA := Add_some k h1 h3 (T (grp k) x) (T (grp k) y) w
  rwa [recV_t (r := r) h1 h3 hx hy (by rw [T_num (grp_ok k h1 h3) (Nat.le_of_lt hx) (grp_fits k h1 h3), T_num (grp_ok k h1 h3) (Nat.le_of_lt hy) (grp_fits k h1 h3)]; exact hr), recE_t h1 h3 hx hy] at hA
theorem mulF_t (k : Nat) (h1 : 1 ≤ k) (h3 : k ≤ 3) (x y r : Nat) (hx : x < (grp k).q.m) (hy : y < (grp k).q.m) (hr : x * y % (grp k).q.m = r) (w : World) :
    Calls Try.prog 33 #[.int .i64 (k : Int), .string (T (grp k) x), .string (T (grp k) y)] w (Ans (.string (T (grp k) r)) 0 w) := by
  have hA := Mul_some k h1 h3 (T (grp k) x) (T (grp k) y) w
  rwa [recV_t (r := r) h1 h3 hx hy (by rw [T_num (grp_ok k h1 h3) (Nat.le_of_lt hx) (grp_fits k h1 h3), T_num (grp_ok k h1 h3) (Nat.le_of_lt hy) (grp_fits k h1 h3)]; exact hr), recE_t h1 h3 hx hy] at hA


end Go.Proofs.Ytipgjookfdkciaa

/- The document's group as a value: its contracts in short; what low numbers do. No condition. -/
namespace Go.Proofs.Ytipgjookfdkciaa
open Go.RowKit

section
variable {G : GP}
theorem lowN_eq (ok : G.Ok) {x y : Nat} (h : PM G.p.m x y) : lowN G x = lowN G y := low_eq ok.q.pos ok.twice h
theorem lowN_pm (ok : G.Ok) (x : Nat) : PM G.p.m (lowN G x) x := Lw_pm ok.twice x
theorem lowN_le (ok : G.Ok) (x : Nat) : lowN G x ≤ G.q.m := Lw_le ok.twice x
theorem lowN_16 (ok : G.Ok) (x : Nat) : lowN G x < DD ^ 16 := Nat.lt_of_le_of_lt (lowN_le ok x) ok.q.lt4
theorem lowN_mul (ok : G.Ok) (x y : Nat) : lowN G (lowN G x * lowN G y) = lowN G (x * y) := lowN_eq ok (PM.mul (lowN_pm ok x) (lowN_pm ok y))
theorem lowN_mulL (ok : G.Ok) (x y : Nat) : lowN G (lowN G x * y) = lowN G (x * y) := lowN_eq ok (PM.mul (lowN_pm ok x) (PM.refl _ y))
theorem lowN_mulR (ok : G.Ok) (x y : Nat) : lowN G (x * lowN G y) = lowN G (x * y) := lowN_eq ok (PM.mul (PM.refl _ x) (lowN_pm ok y))
theorem lowN_pow (ok : G.Ok) (x n : Nat) : lowN G (lowN G x ^ n) = lowN G (x ^ n) := lowN_eq ok (PM.pow (lowN_pm ok x) n)
theorem lowN_fix (ok : G.Ok) {x : Nat} (h : x ≤ G.q.m) : lowN G x = x := Lw_fix ok.twice h

/-- The document's group lies in memory. -/
structure RG (W : World) (G : GP) (aq ap : Option Addr) : Prop where
  q : NumAt W aq G.q.m
  p : NumAt W ap G.p.m
theorem RG.up {W W' : World} {aq ap : Option Addr} (h : RG W G aq ap) (hb : Below W.heap.size W W') : RG W' G aq ap := ⟨h.q.up hb, h.p.up hb⟩

theorem q_dl (ok : G.Ok) {n : Nat} (h : n ≤ G.q.m) : dl n ≤ 65536 := Nat.le_trans (dl_of_lt n 16 (Nat.lt_of_le_of_lt h ok.q.lt4)) (by decide)

variable {aq ap : Option Addr} {cq cp : Nat}

theorem rProd (ok : G.Ok) {a b : Nat} {aa ab : Option Addr} {ca cb : Nat} (ha : a < DD ^ 16) (hb : b < DD ^ 16) (w : World) (hG : RG w G aq ap) (hA : NumAt w aa a) (hB : NumAt w ab b) :
    Calls Try.prog 110 #[.agg #[.int .i64 (G.size : Int), .slice aq (dl G.q.m) cq, .slice ap (dl G.p.m) cp], .slice aa (dl a) ca, .slice ab (dl b) cb] w fun e w' => NumR w e w' (lowN G (a * b)) :=
  refProduct_any a b G.size G.q.m G.p.m aa ab aq ap ca cb cq cp ha hb ok.p.pos ok.p.lt4 w hA hB hG.q hG.p
theorem rPow (ok : G.Ok) {a n : Nat} {aa an : Option Addr} {ca cn : Nat} (ha : a < DD ^ 16) (hn : dl n ≤ 65536) (w : World) (hG : RG w G aq ap) (hA : NumAt w aa a) (hN : NumAt w an n) :
    Calls Try.prog 111 #[.agg #[.int .i64 (G.size : Int), .slice aq (dl G.q.m) cq, .slice ap (dl G.p.m) cp], .slice aa (dl a) ca, .slice an (dl n) cn] w fun e w' => NumR w e w' (lowN G (a ^ n)) :=
  refPow_any a n G.size G.q.m G.p.m aa an aq ap ca cn cq cp ha hn (by have := ok.twice; have := ok.q.pos; omega) ok.p.lt4 w hA hN hG.q hG.p
theorem rUnder (ok : G.Ok) {a : Nat} {aa : Option Addr} {ca : Nat} (ha : a < DD ^ 16) (w : World) (hG : RG w G aq ap) (hA : NumAt w aa a) :
    Calls Try.prog 148 #[.agg #[.int .i64 (G.size : Int), .slice aq (dl G.q.m) cq, .slice ap (dl G.p.m) cp], .slice aa (dl a) ca] w fun e w' => NumR w e w' (lowN G (a ^ (G.q.m - 1))) :=
  refUnder_any a G.size G.q.m G.p.m aa aq ap ca cq cp ha ok.q.pos ok.q.lt4 (by have := ok.twice; have := ok.q.pos; omega) ok.p.lt4 w hA hG.q hG.p
theorem rIsSc (ok : G.Ok) (s : ByteArray) (w : World) (hG : RG w G aq ap) :
    Calls Try.prog 66 #[.agg #[.int .i64 (G.size : Int), .slice aq (dl G.q.m) cq, .slice ap (dl G.p.m) cp], .string s] w fun e w' => e = .returned (.bool (isSc G.q.m G.size s)) ∧ Below w.heap.size w w' :=
  refIsScalar_any s G.size G.q.m G.p.m aq ap cq cp ok.size_le w hG.q
theorem rIsEl (ok : G.Ok) (s : ByteArray) (w : World) (hG : RG w G aq ap) :
    Calls Try.prog 79 #[.agg #[.int .i64 (G.size : Int), .slice aq (dl G.q.m) cq, .slice ap (dl G.p.m) cp], .string s] w fun e w' => e = .returned (.bool (isEl G.q.m G.size s)) ∧ Below w.heap.size w w' :=
  refIsElem_any s G.size G.q.m G.p.m aq ap cq cp ok.size_le w hG.q
theorem rAdd (ok : G.Ok) {a b : Nat} {aa ab : Option Addr} {ca cb : Nat} (ha : a < DD ^ 16) (hb : b < DD ^ 16) (w : World) (hG : RG w G aq ap) (hA : NumAt w aa a) (hB : NumAt w ab b) :
    Calls Try.prog 152 #[.agg #[.int .i64 (G.size : Int), .slice aq (dl G.q.m) cq, .slice ap (dl G.p.m) cp], .slice aa (dl a) ca, .slice ab (dl b) cb] w fun e w' => NumR w e w' ((a + b) % G.q.m) :=
  refAdd_any a b G.size G.q.m G.p.m aa ab aq ap ca cb cq cp ha hb ok.q.pos w hA hB hG.q
theorem rMul (ok : G.Ok) {a b : Nat} {aa ab : Option Addr} {ca cb : Nat} (ha : a < DD ^ 16) (hb : b < DD ^ 16) (w : World) (hG : RG w G aq ap) (hA : NumAt w aa a) (hB : NumAt w ab b) :
    Calls Try.prog 71 #[.agg #[.int .i64 (G.size : Int), .slice aq (dl G.q.m) cq, .slice ap (dl G.p.m) cp], .slice aa (dl a) ca, .slice ab (dl b) cb] w fun e w' => NumR w e w' (a * b % G.q.m) :=
  refMul_any a b G.size G.q.m G.p.m aa ab aq ap ca cb cq cp ha hb ok.q.pos w hA hB hG.q
theorem rSub (ok : G.Ok) {a b : Nat} {aa ab : Option Addr} {ca cb : Nat} (ha : a < DD ^ 16) (hb : b ≤ G.q.m) (w : World) (hG : RG w G aq ap) (hA : NumAt w aa a) (hB : NumAt w ab b) :
    Calls Try.prog 68 #[.agg #[.int .i64 (G.size : Int), .slice aq (dl G.q.m) cq, .slice ap (dl G.p.m) cp], .slice aa (dl a) ca, .slice ab (dl b) cb] w fun e w' => NumR w e w' ((a + (G.q.m - b)) % G.q.m) :=
  by have h := refSub_any a b G.size G.q.m G.p.m aa ab aq ap ca cb cq cp ha hb ok.q.pos ok.q.lt4 w hA hB hG.q
     rwa [Nat.add_sub_assoc hb] at h
theorem rInv (ok : G.Ok) (h2 : 2 ≤ G.q.m) {a : Nat} {aa : Option Addr} {ca : Nat} (ha : a < DD ^ 16) (w : World) (hG : RG w G aq ap) (hA : NumAt w aa a) :
    Calls Try.prog 67 #[.agg #[.int .i64 (G.size : Int), .slice aq (dl G.q.m) cq, .slice ap (dl G.p.m) cp], .slice aa (dl a) ca] w fun e w' => NumR w e w' (a ^ (G.q.m - 2) % G.q.m) :=
  refInv_any a G.size G.q.m G.p.m aa aq ap ca cq cp ha h2 ok.q.lt4 w hA hG.q
theorem rText (ok : G.Ok) {n : Nat} {an : Option Addr} {cn : Nat} (hn : n < DD ^ 16) (w : World) (hN : NumAt w an n) :
    Calls Try.prog 70 #[.slice an (dl n) cn, .int .i64 (G.size : Int)] w fun e w' => e = .returned (.string (textS n G.size)) ∧ Below w.heap.size w w' :=
  refText_any n G.size an cn (small_dl n hn) (by have := ok.size_le; omega) w hN
end

end Go.Proofs.Ytipgjookfdkciaa

/- Scalars' values compared; lists that are read, with their Bool. Condition: the lists that memory can hold. -/
namespace Go.Proofs.Ytipgjookfdkciaa
open Go.RowKit

theorem scalField : ∃ f, (Try.prog.fieldsOf 91).toList = [f] ∧ f.name = "n" ∧ f.type = 89 ∧ f.offset = 0 := by
  have h : ((Try.prog.fieldsOf 91).toList.map fun f => (f.name, f.type, f.offset)) = [("n", 89, 0)] := by kernel_rfl
  generalize (Try.prog.fieldsOf 91).toList = fs at *
  obtain ⟨f, rfl⟩ : ∃ f, fs = [f] := List.length_eq_one_iff.1 (by have := congrArg List.length h; simpa using this)
  simp only [List.map_cons, List.map_nil, List.cons.injEq, Prod.mk.injEq, and_true] at h
  exact ⟨f, rfl, h.1, h.2.1, h.2.2⟩
theorem cellsLimbs : Try.prog.cellsOf 89 = 4 := by kernel_rfl
theorem infoLimbs : (Try.prog.info? 89).isSome = true := by kernel_rfl
theorem partLimbs (a b c d : Value) (w : World) : (part 89 #[a, b, c, d] 0).run Try.prog w = .ok (.agg #[a, b, c, d]) w := by
  simp [part, isAgg, run_underlying Try.underlying89]
theorem eqScal (x y : Nat) (hx : x < BB ^ 4) (hy : y < BB ^ 4) (w : World) (b : Bool) (hb : b = decide (x = y)) :
    (Op.equalIn 10000 91 (.agg #[.int .u64 (dig x 0 : Int), .int .u64 (dig x 1 : Int), .int .u64 (dig x 2 : Int), .int .u64 (dig x 3 : Int)]) (.agg #[.int .u64 (dig y 0 : Int), .int .u64 (dig y 1 : Int), .int .u64 (dig y 2 : Int), .int .u64 (dig y 3 : Int)])).run Try.prog w = .ok b w := by
  obtain ⟨f, hf, hn, ht, ho⟩ := scalField
  rw [run_equalIn_struct w 9999 _ _ _ (by kernel_rfl) (by kernel_rfl), hf]
  obtain ⟨i, hi⟩ := Option.isSome_iff_exists.1 infoU64
  have h4 := run_equalIn_four w 9997 _ _ Try.underlying89 Try.underlying87 i hi cellsU64 plainU64 (dig x 0 : Int) (dig x 1 : Int) (dig x 2 : Int) (dig x 3 : Int) (dig y 0 : Int) (dig y 1 : Int) (dig y 2 : Int) (dig y 3 : Int)
  have he : ((dig x 0 : Int) == (dig y 0 : Int) && ((dig x 1 : Int) == (dig y 1 : Int) && ((dig x 2 : Int) == (dig y 2 : Int) && (dig x 3 : Int) == (dig y 3 : Int)))) = b := by
    rw [hb, Bool.eq_iff_iff]
    simp only [Bool.and_eq_true, beq_iff_eq, Int.natCast_inj, decide_eq_true_eq]
    exact ⟨fun ⟨h0, h1, h2, h3⟩ => lim_eq x y hx hy h0 h1 h2 h3, fun e => by rw [e]; exact ⟨rfl, rfl, rfl, rfl⟩⟩
  rw [he] at h4
  simp only [Op.eqFields, hn, ht, ho]
  rw [if_pos (by decide), Sem.run_bind, partLimbs, Result.andThen_ok, Sem.run_bind, partLimbs, Result.andThen_ok, Sem.run_bind]
  erw [h4]
  cases b <;> rfl
theorem guardScal (op : BinOp) (x y : Operand) (xs ys : Array Value) (w : World) : (eqGuard op 91 x y (.agg xs) (.agg ys)).run Try.prog w = .ok () w := run_eqGuard_agg w op _ x y xs ys (by kernel_rfl)
theorem binScal {xs ys : Array Value} {b : Bool} {w : World} (h : (Op.equalIn 10000 91 (.agg xs) (.agg ys)).run Try.prog w = .ok b w) : (binOp .eql 91 (.agg xs) (.agg ys)).run Try.prog w = .ok (.bool b) w := by
  rw [run_eql_struct, h]
  rfl

set_option maxHeartbeats 400000 in
theorem allSc_v (G : GP) (ok : G.Ok) (gb : Nat) (l : List ByteArray) (b : Bool) (hb : l.all (isSc G.q.m G.size) = b) (n : Nat) (hn : l.length = n) (al : Option Addr) (cl : Nat) (hl : n ≤ 8796093022207) (w : World) (hG : GroupAt w gb G) (hS : Sl w w.heap.size al (l.map Value.string)) :
    Calls Try.prog 58 #[.slice al n cl, .func (.func 59) #[.pointer (some ⟨gb, 0, none⟩)] #[]] w fun e w' => ∃ v, e = .returned (.tuple #[v, .bool b]) ∧ Below w.heap.size w w' ∧ (b = true → ∃ a c, v = .slice a n c ∧ Sl w' w'.heap.size a (l.flatMap (limC G.q.m)) ∧ (∀ x, a = some x → w.heap.size ≤ x.block)) := by
  subst hb
  subst hn
  refine (allSc_any G ok gb l al cl hl w hG hS).mono ?_
  rintro e w' ⟨h1, h2⟩
  cases hb : l.all (isSc G.q.m G.size) with
  | true =>
    rw [if_pos hb] at h2
    obtain ⟨a, c, rfl, h3⟩ := h2
    exact ⟨_, rfl, h1, fun _ => ⟨a, c, rfl, h3⟩⟩
  | false =>
    rw [if_neg (by rw [hb]; decide)] at h2
    exact ⟨_, h2, h1, fun h => by cases h⟩

set_option maxHeartbeats 400000 in
theorem allEl_v (G : GP) (ok : G.Ok) (gb : Nat) (l : List ByteArray) (b : Bool) (hb : l.all (isEl G.q.m G.size) = b) (n : Nat) (hn : l.length = n) (al : Option Addr) (cl : Nat) (hl : n ≤ 8796093022207) (w : World) (hG : GroupAt w gb G) (hS : Sl w w.heap.size al (l.map Value.string)) :
    Calls Try.prog 185 #[.slice al n cl, .func (.func 106) #[.pointer (some ⟨gb, 0, none⟩)] #[]] w fun e w' => ∃ v, e = .returned (.tuple #[v, .bool b]) ∧ Below w.heap.size w w' ∧ (b = true → ∃ a c, v = .slice a n c ∧ Sl w' w'.heap.size a (l.flatMap (limC G.p.m)) ∧ (∀ x, a = some x → w.heap.size ≤ x.block)) := by
  subst hb
  subst hn
  refine (allEl_any G ok gb l al cl hl w hG hS).mono ?_
  rintro e w' ⟨h1, h2⟩
  cases hb : l.all (isEl G.q.m G.size) with
  | true =>
    rw [if_pos hb] at h2
    obtain ⟨a, c, rfl, h3⟩ := h2
    exact ⟨_, rfl, h1, fun _ => ⟨a, c, rfl, h3⟩⟩
  | false =>
    rw [if_neg (by rw [hb]; decide)] at h2
    exact ⟨_, h2, h1, fun h => by cases h⟩

theorem infoStr : (Try.prog.info? 9).map (fun i => (i.zero, i.size, i.bytes)) = some (some (.string ⟨#[]⟩), 1, 16) := by kernel_rfl


/-- The cells of a slice whose address is known. -/
theorem Sl.adr {w : World} {B : Nat} {a : Option Addr} {cs : List Value} (h : Sl w B a cs) (h0 : cs ≠ []) : ∃ b o, a = some ⟨b, o, none⟩ ∧ b < B := by
  rcases h with h | ⟨b, off, rfl, hb, _⟩
  · exact absurd h h0
  · exact ⟨b, off, rfl, hb⟩
theorem Sl.elemS {w : World} {B b o : Nat} {α : Type} {f : α → List Value} {k : Nat} {l : List α} (h : Sl w B (some ⟨b, o, none⟩) (l.flatMap f)) (hk : ∀ x, (f x).length = k) (h0 : 0 < k) (i : Nat) (hi : i < l.length) :
    b < B ∧ ∀ j v, (f l[i])[j]? = some v → w.cell? ⟨b, o + i * k + j, none⟩ = some v := by
  obtain ⟨b', o', he, hb, hc⟩ := h.elem hk h0 i hi
  simp only [Option.some.injEq, Addr.mk.injEq, and_true] at he
  obtain ⟨rfl, rfl⟩ := he
  exact ⟨hb, hc⟩
theorem Sl.atUp {w0 w : World} {a : Option Addr} {cs : List Value} (h : Sl w0 w0.heap.size a cs) (hb : Below w0.heap.size w0 w) (i : Nat) (hi : i < cs.length) :
    ∃ b off, a = some ⟨b, off, none⟩ ∧ b < w0.heap.size ∧ b < w.heap.size ∧ w.cell? ⟨b, off + i, none⟩ = some cs[i] := by
  obtain ⟨b, off, he, h1, h2⟩ := h.at i hi
  exact ⟨b, off, he, h1, Nat.lt_of_lt_of_le h1 hb.size, by rw [hb.cell (p := ⟨b, off + i, none⟩) h1]; exact h2⟩
theorem Sl.elemUp {w0 w : World} {a : Option Addr} {α : Type} {f : α → List Value} {k : Nat} {l : List α} (h : Sl w0 w0.heap.size a (l.flatMap f)) (hb : Below w0.heap.size w0 w) (hk : ∀ x, (f x).length = k) (h0 : 0 < k) (i : Nat) (hi : i < l.length) :
    ∃ b off, a = some ⟨b, off, none⟩ ∧ b < w0.heap.size ∧ b < w.heap.size ∧ ∀ j v, (f l[i])[j]? = some v → w.cell? ⟨b, off + i * k + j, none⟩ = some v := by
  obtain ⟨b, off, he, h1, h2⟩ := h.elem hk h0 i hi
  exact ⟨b, off, he, h1, Nat.lt_of_lt_of_le h1 hb.size, fun j v hv => by rw [hb.cell (p := ⟨b, off + i * k + j, none⟩) h1]; exact h2 j v hv⟩
theorem flat_ne {α : Type} {f : α → List Value} {k : Nat} {l : List α} (hk : ∀ x, (f x).length = k) (h0 : 0 < k) (hl : l ≠ []) : l.flatMap f ≠ [] := by
  intro e
  have := flat_len f k hk l
  rw [e, List.length_nil] at this
  have : 0 < l.length * k := Nat.mul_pos (List.length_pos_iff.2 hl) h0
  omega
theorem isSc_le {G : GP} {s : ByteArray} (h : isSc G.q.m G.size s = true) : numOf s ≤ G.q.m := by
  unfold isSc at h
  simp only [Bool.and_eq_true, decide_eq_true_eq] at h
  omega

end Go.Proofs.Ytipgjookfdkciaa

/- A region that draws its order, walked along a tree, where the last that acts stores into what others of the region read ahead of it: 'x.f = append(x.f, ..)'. No condition beyond those that each law names. -/
namespace Go.Proofs.Ytipgjookfdkciaa
open Go.RowKit

section
variable {P : Program} {ops : Array Oper} {S : World → Prop} {Q : Exit → Act → World → Prop} {k : Nat} {md : Region.Mode}

/-- Whatever order is picked: till operation k has been carried out, S holds behind every step. -/
def wpAnyK (P : Program) (md : Region.Mode) (ops : Array Oper) (Q : Exit → Act → World → Prop) (S : World → Prop) (k : Nat) : Nat → Array Bool → Act → World → Prop
  | 0, listed, a, w => Region.ready md ops listed = [] ∧ Q .normal a w
  | fuel + 1, listed, a, w =>
    (Region.ready md ops listed = [] → Q .normal a w) ∧
    ∀ i ∈ Region.ready md ops listed, wpOp P ops Q i (fun a' w' => ((listed.setIfInBounds i true).getD k false = false → S w') ∧ wpAnyK P md ops Q S k fuel (listed.setIfInBounds i true) a' w') a w

theorem any_of_K : ∀ (fuel : Nat) (listed : Array Bool) (a : Act) (w : World), wpAnyK P md ops Q S k fuel listed a w → wpAny P md ops Q fuel listed a w
  | 0, _, _, _, h => h
  | fuel + 1, _, _, _, h => ⟨h.1, fun i hi => wpOp_mono (fun a' w' h' => any_of_K fuel _ a' w' h'.2) (h.2 i hi)⟩

theorem anyK_first {SS : World → Prop} (C : Array Bool → Prop) {i : Nat} {oi : Oper} {v : Value} (hi : ops[i]? = some oi) (hik : i ≠ k) (hsel : ∀ (j : Nat) (o : Oper) cs b, ops[j]? = some o → o.op ≠ .select cs b)
    (hQ : ∀ c a w, Q (.panic c) (a.put oi.dst v) w → Q (.panic c) a w)
    (hstep : ∀ listed j, C listed → i ∈ Region.ready md ops listed → j ∈ Region.ready md ops listed → j ≠ i → C (listed.setIfInBounds j true))
    (hSS : ∀ listed w, C listed → (listed.getD k false = false → S w) → SS w) :
    ∀ (fuel : Nat) (listed : Array Bool) (a : Act) (w : World),
      (∀ j oj, ops[j]? = some oj → j ≠ i → listed.getD j true = false → (∀ e ∈ oj.after, Region.binds md e = true → e.on ≠ i) → oi.apart ops oj = true) →
      i ∈ Region.ready md ops listed → C listed → YieldsIf P ops SS oi v a → (listed.getD k false = false → S w) →
      wpAnyK P md ops Q S k fuel (listed.setIfInBounds i true) (a.put oi.dst v) w → wpAnyK P md ops Q S k (fuel + 1) listed a w := by
  intro fuel
  induction fuel with
  | zero =>
    intro listed a w _ hr hC hy hS H
    refine ⟨fun h => (by rw [h] at hr; cases hr), fun j hj => ?_⟩
    by_cases hji : j = i
    · subst hji; exact hy.wpOp hi (hSS listed w hC hS) ⟨fun h => hS (by rwa [getD_set_ne false hik] at h), H⟩
    · have := ready_mono hj hji
      rw [H.1] at this
      cases this
  | succ fuel ih =>
    intro listed a w hfree hr hC hy hS H
    refine ⟨fun h => (by rw [h] at hr; cases hr), fun j hj => ?_⟩
    by_cases hji : j = i
    · subst hji; exact hy.wpOp hi (hSS listed w hC hS) ⟨fun h => hS (by rwa [getD_set_ne false hik] at h), H⟩
    · have h1 := H.2 j (ready_mono hj hji)
      obtain ⟨hjun, oj, hoj, hall⟩ := mem_ready.1 hj
      have hnot : ∀ e ∈ oj.after, Region.binds md e = true → e.on ≠ i := fun e he hb heq => by
        have h1 := hall e he hb
        have h0 := (mem_ready.1 hr).1
        rw [heq] at h1
        rcases Nat.lt_or_ge i listed.size with h' | h'
        · simp [h'] at h0 h1; rw [h0] at h1; cases h1
        · simp [Array.getElem?_eq_none h'] at h1
      have h2 := wpOp_putIf hoj (hfree j oj hoj hji hjun hnot) (fun cs b => hsel i oi cs b hi) (fun cs b => hsel j oj cs b hoj) hQ hy h1
      have hfree' : ∀ m om, ops[m]? = some om → m ≠ i → (listed.setIfInBounds j true).getD m true = false →
          (∀ e ∈ om.after, Region.binds md e = true → e.on ≠ i) → oi.apart ops om = true := fun m om hm hmi hun hno => by
        refine hfree m om hm hmi ?_ hno
        by_cases hjm : j = m
        · subst hjm; exact hjun
        · rw [getD_set_ne true hjm] at hun; exact hun
      have hkk : ((listed.setIfInBounds i true).setIfInBounds j true).getD k false = (listed.setIfInBounds j true).getD k false := by
        rw [Array.setIfInBounds_comm _ _ (Ne.symm hji), getD_set_ne false hik]
      have hr' := ready_mono hr (Ne.symm hji)
      refine wpOp_mono (fun a' w' h3 => ?_) h2
      have hS' : (listed.setIfInBounds j true).getD k false = false → S w' := fun h => h3.2.1 (by rw [hkk]; exact h)
      refine ⟨hS', ih (listed.setIfInBounds j true) a' w' hfree' hr' (hstep listed j hC hr hj hji) h3.1 hS' ?_⟩
      rw [Array.setIfInBounds_comm _ _ hji]
      exact h3.2.2

/-- Each of a chain waits for the one ahead of it. -/
def chainB (md : Region.Mode) (ops : Array Oper) : Nat → List Nat → Bool
  | _, [] => true
  | i, j :: l => (match ops[j]? with | some o => o.after.any (fun e => Region.binds md e && e.on == i) | none => false) && chainB md ops j l

theorem chain_step {i j : Nat} {l : List Nat} {listed : Array Bool} : ∀ (i : Nat) (l : List Nat), chainB md ops i l = true → listed.getD i true = false → (∀ c ∈ l, listed.getD c true = false) → j ∈ Region.ready md ops listed → j ∉ l
  | _, [], _, _, _, _ => by simp
  | i, c :: l, hB, h0, hl, hj => by
    simp only [chainB, Bool.and_eq_true] at hB
    have ih := chain_step (listed := listed) (j := j) (i := i) (l := l) c l hB.2 (hl c (by simp)) (fun d hd => hl d (by simp [hd])) hj
    intro hm
    rcases List.mem_cons.1 hm with rfl | hm
    · obtain ⟨_, o, ho, hall⟩ := mem_ready.1 hj
      have hB1 := hB.1
      rw [ho] at hB1
      simp only [Array.any_eq_true', Bool.and_eq_true, beq_iff_eq] at hB1
      obtain ⟨e, he, hb, hon⟩ := hB1
      have h1 := hall e he hb
      rw [hon] at h1
      rcases Nat.lt_or_ge i listed.size with h' | h'
      · simp [h'] at h0 h1; rw [h0] at h1; cases h1
      · simp [Array.getElem?_eq_none h'] at h1
    · exact ih hm

/-- The orders: q reads nothing; e reads what operation k may change (the chain from it to k is named); a acts. -/
inductive TreeK where
  | done : TreeK
  | q : Nat → TreeK → TreeK
  | e : Nat → List Nat → TreeK → TreeK
  | a : Nat → TreeK → TreeK
  | two : Nat → TreeK → Nat → TreeK → TreeK

def TreeK.qs : List Nat → TreeK → TreeK
  | [], t => t
  | i :: l, t => .q i (TreeK.qs l t)

def TreeK.size : TreeK → Nat
  | .done => 0
  | .q _ r => r.size + 1
  | .e _ _ r => r.size + 1
  | .a _ r => r.size + 1
  | .two _ r _ _ => r.size + 1

def wpTreeK (P : Program) (ops : Array Oper) (S : World → Prop) (Q : Exit → Act → World → Prop) (k : Nat) : TreeK → Act → World → Prop
  | .done, a, w => Q .normal a w
  | .q i r, a, w => match ops[i]? with
    | none => False
    | some o => easyOp o = true ∧ wpQuiet P ops (fun _ => True) (fun a' => wpTreeK P ops S Q k r a' w) [o] a
  | .e i _ r, a, w => match ops[i]? with
    | none => False
    | some o => easyOp o = true ∧ wpQuiet P ops S (fun a' => wpTreeK P ops S Q k r a' w) [o] a
  | .a i r, a, w => wpOp P ops Q i (fun a' w' => (i ≠ k → S w') ∧ wpTreeK P ops S Q k r a' w') a w
  | .two i r j s, a, w => wpOp P ops Q i (fun a' w' => (i ≠ k → S w') ∧ wpTreeK P ops S Q k r a' w') a w ∧ wpOp P ops Q j (fun a' w' => (j ≠ k → S w') ∧ wpTreeK P ops S Q k s a' w') a w

def treeKB (md : Region.Mode) (ops : Array Oper) (k : Nat) : TreeK → Array Bool → Bool
  | .done, listed => (Region.ready md ops listed).isEmpty
  | .q i r, listed => (Region.ready md ops listed).contains i && Region.free md ops listed i && !(i == k) && treeKB md ops k r (listed.setIfInBounds i true)
  | .e i ch r, listed => (Region.ready md ops listed).contains i && Region.free md ops listed i && !(i == k) && chainB md ops i (ch ++ [k]) && (ch ++ [k]).all (fun c => !listed.getD c true) && !(i ∈ ch ++ [k]) && treeKB md ops k r (listed.setIfInBounds i true)
  | .a i r, listed => decide (Region.ready md ops listed = [i]) && treeKB md ops k r (listed.setIfInBounds i true)
  | .two i r j s, listed => decide (Region.ready md ops listed = [i, j]) && decide (r.size = s.size) && treeKB md ops k r (listed.setIfInBounds i true) && treeKB md ops k s (listed.setIfInBounds j true)

theorem listed_k {listed : Array Bool} {i : Nat} (hi : i ∈ Region.ready md ops listed) {w' : World} (h : i ≠ k → S w') : (listed.setIfInBounds i true).getD k false = false → S w' := by
  intro h9
  refine h (fun e => ?_)
  subst e
  have h0 := (mem_ready.1 hi).1
  rcases Nat.lt_or_ge i listed.size with h' | h'
  · simp [h'] at h9
  · simp [h'] at h0

theorem K_of_tree (hsel : Region.noSelect ops = true) (hQ : ∀ c a d v w, Q (.panic c) (a.put d v) w → Q (.panic c) a w) :
    ∀ (t : TreeK) (listed : Array Bool) (a : Act) (w : World), (listed.getD k false = false → S w) → treeKB md ops k t listed = true → wpTreeK P ops S Q k t a w → wpAnyK P md ops Q S k t.size listed a w
  | .done, listed, a, w, _, hB, h => ⟨by simpa [treeKB] using hB, h⟩
  | .q i r, listed, a, w, hS, hB, h => by
    unfold wpTreeK at h
    split at h
    · cases h
    · rename_i o ho
      obtain ⟨hp, hq⟩ := h
      obtain ⟨v, hy, hK⟩ := yieldsIf_easy hp hq
      simp only [treeKB, Bool.and_eq_true, Bool.not_eq_true', beq_eq_false_iff_ne] at hB
      exact anyK_first (fun _ => True) ho hB.1.2 (Region.noSelect_spec hsel) (fun c a w hq => hQ c a _ _ w hq) (fun _ _ _ _ _ _ => trivial) (fun _ _ _ _ => trivial) _ listed a w (Region.free_spec ho hB.1.1.2) (by simpa using hB.1.1.1) trivial hy hS
        (K_of_tree hsel hQ r _ _ w (fun h9 => hS (by rwa [getD_set_ne false hB.1.2] at h9)) hB.2 hK)
  | .e i ch r, listed, a, w, hS, hB, h => by
    unfold wpTreeK at h
    split at h
    · cases h
    · rename_i o ho
      obtain ⟨hp, hq⟩ := h
      obtain ⟨v, hy, hK⟩ := yieldsIf_easy hp hq
      simp only [treeKB, Bool.and_eq_true, Bool.not_eq_true', beq_eq_false_iff_ne, List.all_eq_true, decide_eq_false_iff_not] at hB
      obtain ⟨⟨⟨⟨⟨⟨h1, h2⟩, h3⟩, h4⟩, h5⟩, h6⟩, h7⟩ := hB
      refine anyK_first (SS := S) (fun l => ∀ c ∈ ch ++ [k], l.getD c true = false) ho h3 (Region.noSelect_spec hsel) (fun c a w hq => hQ c a _ _ w hq) ?_ ?_ _ listed a w (Region.free_spec ho h2) (by simpa using h1) h5 hy hS
        (K_of_tree hsel hQ r _ _ w (fun h9 => hS (by rwa [getD_set_ne false h3] at h9)) h7 hK)
      · intro l j hC hr hj hji c hc
        have hn := chain_step (i := i) (l := ch) (j := j) i (ch ++ [k]) h4 (mem_ready.1 hr).1 hC hj
        rw [getD_set_ne true (fun e => hn (by rw [e]; exact hc))]
        exact hC c hc
      · intro l w' hC h9
        refine h9 ?_
        have := hC k (by simp)
        rcases Nat.lt_or_ge k l.size with h' | h'
        · simp [h'] at this ⊢; exact this
        · simp [h'] at this
  | .a i r, listed, a, w, hS, hB, h => by
    simp only [treeKB, Bool.and_eq_true, decide_eq_true_eq] at hB
    unfold wpTreeK at h
    refine ⟨fun h9 => (by rw [hB.1] at h9; cases h9), fun j hj => ?_⟩
    have hj' : j = i := by rw [hB.1] at hj; simpa using hj
    subst hj'
    exact wpOp_mono (fun a' w' ⟨hS', h'⟩ => ⟨listed_k hj hS', K_of_tree hsel hQ r _ a' w' (listed_k hj hS') hB.2 h'⟩) h
  | .two i r j s, listed, a, w, hS, hB, h => by
    simp only [treeKB, Bool.and_eq_true, decide_eq_true_eq] at hB
    obtain ⟨⟨⟨h1, h2⟩, h3⟩, h4⟩ := hB
    unfold wpTreeK at h
    refine ⟨fun h9 => (by rw [h1] at h9; cases h9), fun m hm => ?_⟩
    rcases (by rw [h1] at hm; simpa using hm : m = i ∨ m = j) with rfl | rfl
    · exact wpOp_mono (fun a' w' ⟨hS', h'⟩ => ⟨listed_k hm hS', K_of_tree hsel hQ r _ a' w' (listed_k hm hS') h3 h'⟩) h.1
    · exact wpOp_mono (fun a' w' ⟨hS', h'⟩ => ⟨listed_k hm hS', by rw [h2]; exact K_of_tree hsel hQ s _ a' w' (listed_k hm hS') h4 h'⟩) h.2

theorem wp_region_treek {id : Nat} {a : Act} {w : World} {l : List Oper} (S : World → Prop) (k : Nat) (t : TreeK) (hm : P.follows .mixedOrders = true)
    (hB : (Region.noSelect l.toArray && decide (t.size = l.toArray.size) && treeKB .any l.toArray k t (Array.replicate l.toArray.size false)) = true)
    (hQ : ∀ c a d v w, Q (.panic c) (a.put d v) w → Q (.panic c) a w) (hS : S w.drew) (h : wpTreeK P l.toArray S Q k t a w.drew) : (Code.region id l.toArray true).wp P Q a w := by
  simp only [Bool.and_eq_true, decide_eq_true_eq] at hB
  refine wp_region_any hm (any_of_K (S := S) (k := k) _ _ _ _ ?_)
  have := K_of_tree hB.1.1 hQ t _ a _ (fun _ => hS) hB.2 h
  rw [hB.1.2] at this
  exact this

theorem treek_q {l : List Oper} {i : Nat} {r : TreeK} {o : Oper} {a : Act} {w : World} (ho : l[i]? = some o) (hp : easyOp o = true) (h : wpQuiet P l.toArray (fun _ => True) (fun a' => wpTreeK P l.toArray S Q k r a' w) [o] a) :
    wpTreeK P l.toArray S Q k (.q i r) a w := by
  unfold wpTreeK
  rw [List.getElem?_toArray, ho]
  exact ⟨hp, h⟩

theorem treek_e {l ch : List _} {i : Nat} {r : TreeK} {o : Oper} {a : Act} {w : World} (ho : l[i]? = some o) (hp : easyOp o = true) (h : wpQuiet P l.toArray S (fun a' => wpTreeK P l.toArray S Q k r a' w) [o] a) :
    wpTreeK P l.toArray S Q k (.e i ch r) a w := by
  unfold wpTreeK
  rw [List.getElem?_toArray, ho]
  exact ⟨hp, h⟩

theorem treek_a {l : List Oper} {i : Nat} {r : TreeK} {o : Oper} {a : Act} {w : World} (ho : l[i]? = some o)
    (h : ∀ K : Act → World → Prop, (∀ a w, (i ≠ k → S w) ∧ wpTreeK P l.toArray S Q k r a w → K a w) → if Region.wanted o (yielded l.toArray a.tmps) = true then Oper.wp P o a w K Q else K (a.put o.dst undef) w) :
    wpTreeK P l.toArray S Q k (.a i r) a w := by
  unfold wpTreeK
  exact wpOp_step (by rw [List.getElem?_toArray, ho]) h

theorem treek_end {a : Act} {w : World} (h : Q .normal a w) : wpTreeK P ops S Q k .done a w := h
end

end Go.Proofs.Ytipgjookfdkciaa

/- Extract of the package sigma: the secrets out of two answers. Condition: the lists that memory can hold. -/
namespace Go.Proofs.Ytipgjookfdkciaa
open Go.RowKit

/-- A proof that came in: a challenge, and where its answers lie. -/
structure PrfA where
  c : ByteArray
  aa : Option Addr
  ca : Nat
  l : List ByteArray
def PrfA.cells (p : PrfA) : List Value := [.string p.c, .slice p.aa p.l.length p.ca]
def PrfA.val (p : PrfA) : Value := .agg #[.string p.c, .slice p.aa p.l.length p.ca]
structure PrfA.At (p : PrfA) (w : World) : Prop where
  s : Sl w w.heap.size p.aa (p.l.map Value.string)
  n : p.aa = none → p.ca = 0
theorem PrfA.At.up {p : PrfA} {w w' : World} (h : p.At w) (hb : Below w.heap.size w w') : p.At w' := ⟨h.s.up hb, h.n⟩

/-- What Extract answers. -/
def exI (G : GP) (c d : ByteArray) : Nat := ((numOf c + (G.q.m - numOf d)) % G.q.m) ^ (G.q.m - 2) % G.q.m
def exF (G : GP) (d : Nat) (x y : ByteArray) : ByteArray := textS (d * ((numOf x + (G.q.m - numOf y)) % G.q.m) % G.q.m) G.size
def exE (G : GP) (p q : PrfA) : Int := if p.l.length = q.l.length ∧ p.l.length ≠ 0 then (if ((p.c :: p.l).all (isSc G.q.m G.size) && (q.c :: q.l).all (isSc G.q.m G.size)) = true then (if p.c = q.c then 9 else 0) else 6) else 2
def exL (G : GP) (p q : PrfA) : List ByteArray := if exE G p q = 0 then List.zipWith (exF G (exI G p.c q.c)) p.l q.l else []
def ExtR (er : Int) (L : List ByteArray) (w : World) (e : Ending) (w' : World) : Prop :=
  Below w.heap.size w w' ∧ ∃ a c, e = .returned (.tuple #[.slice a L.length c, .int .i64 er]) ∧ Sl w' w'.heap.size a (L.map Value.string) ∧ (a = none ↔ L.length = 0) ∧ (a = none → c = 0)

theorem extR_none (er : Int) {w w' : World} (h : Below w.heap.size w w') : ExtR er [] w (.returned (.tuple #[.slice none 0 0, .int .i64 er])) w' :=
  ⟨h, none, 0, rfl, Or.inl rfl, by simp, fun _ => rfl⟩

theorem zip_snoc (f : ByteArray → ByteArray → ByteArray) (l m : List ByteArray) (j : Nat) (hl : j < l.length) (hm : j < m.length) : ((List.zipWith f l m).take (j + 1)).map Value.string = ((List.zipWith f l m).take j).map Value.string ++ [.string (f l[j] m[j])] := by
  rw [List.take_succ_eq_append_getElem (by rw [List.length_zipWith]; omega), List.map_append, List.getElem_zipWith]
  rfl
theorem zip_len (f : ByteArray → ByteArray → ByteArray) (l m : List ByteArray) (n : Nat) (hl : l.length = n) (hm : m.length = n) : (List.zipWith f l m).length = n := by
  rw [List.length_zipWith, hl, hm, Nat.min_self]
theorem zip_take (f : ByteArray → ByteArray → ByteArray) (l m : List ByteArray) (n : Nat) (hl : l.length = n) (hm : m.length = n) : (List.zipWith f l m).take n = List.zipWith f l m := List.take_of_length_le (by rw [zip_len f l m n hl hm]; exact Nat.le_refl _)
theorem RowO.some {N n c : Nat} {w : World} {e : TypeId} {size k : Nat} {a : Option Addr} {xs : List Value} (h : RowO N w e size (.slice a k c) n xs) (h0 : n ≠ 0) : ∃ g, a = Option.some ⟨g, 0, none⟩ := by
  rcases h.2 with ⟨_, h1⟩ | ⟨g, cap, cur, hv, _⟩
  · exact absurd h1 h0
  · simp only [Value.slice.injEq] at hv
    exact ⟨g, hv.1⟩
theorem ex_eq (G : GP) (c d a b : ByteArray) : textS ((numOf c + (G.q.m - numOf d)) ^ (G.q.m - 2) * (numOf a + (G.q.m - numOf b)) % G.q.m) G.size = exF G (exI G c d) a b := by
  have h1 := Nat.mul_mod ((numOf c + (G.q.m - numOf d)) ^ (G.q.m - 2)) (numOf a + (G.q.m - numOf b)) G.q.m
  rw [Nat.pow_mod (numOf c + (G.q.m - numOf d)) (G.q.m - 2) G.q.m] at h1
  rw [h1]
  rfl

set_option maxRecDepth 100000 in
set_option maxHeartbeats 2000000 in
theorem ext_none (k : Int) (hk : ¬ (1 ≤ k ∧ k ≤ 3)) (p q : PrfA) (w : World) : Calls Try.prog 15 #[.int .i64 k, p.val, q.val] w (ExtR 1 [] w) := by
  unfold PrfA.val
  go_enter Try.func15, Try.ntmps15
  go_wp2_with fail
  have hb9 : Below w.heap.size w ((w.alloc (Obj.cells #[.string p.c, .slice p.aa p.l.length p.ca] 24)).alloc (Obj.cells #[.string q.c, .slice q.aa q.l.length q.ca] 24)) := (((Below.refl _ _).alloc (Nat.le_refl _) _).alloc (by simp) _)
  have hx90 : Bx ((w.alloc (Obj.cells #[.string p.c, .slice p.aa p.l.length p.ca] 24)).alloc (Obj.cells #[.string q.c, .slice q.aa q.l.length q.ca] 24)) (w.heap.size) 24 [.string p.c, .slice p.aa p.l.length p.ca] := by
    have h := ((Bx.new w 24 [.string p.c, .slice p.aa p.l.length p.ca] _ rfl).alloc (Obj.cells #[.string q.c, .slice q.aa q.l.length q.ca] 24))
    exact h
  have hx91 : Bx ((w.alloc (Obj.cells #[.string p.c, .slice p.aa p.l.length p.ca] 24)).alloc (Obj.cells #[.string q.c, .slice q.aa q.l.length q.ca] 24)) (w.heap.size + 1) 24 [.string q.c, .slice q.aa q.l.length q.ca] := by
    have h := (Bx.new (w.alloc (Obj.cells #[.string p.c, .slice p.aa p.l.length p.ca] 24)) 24 [.string q.c, .slice q.aa q.l.length q.ca] _ rfl)
    rw [World.size_alloc] at h
    exact h
  have hz9 : ((w.alloc (Obj.cells #[.string p.c, .slice p.aa p.l.length p.ca] 24)).alloc (Obj.cells #[.string q.c, .slice q.aa q.l.length q.ca] 24)).heap.size = w.heap.size + 2 := by simp
  obtain ⟨w1, hq1⟩ : ∃ W9 : World, ((w.alloc (Obj.cells #[.string p.c, .slice p.aa p.l.length p.ca] 24)).alloc (Obj.cells #[.string q.c, .slice q.aa q.l.length q.ca] 24)) = W9 := ⟨_, rfl⟩
  rw [hq1] at hb9 hz9 hx90 hx91
  rw [hq1]
  clear hq1
  have HB := Lib.hid hb9
  have Hs1 := Lib.hid hz9
  have Hbp := Lib.hid hx90
  have Hbq := Lib.hid hx91
  clear hb9 hz9 hx90 hx91
  have bp_0 := Hbp.out.cell (i := 0) rfl
  have bp_1 := Hbp.out.cell (i := 1) rfl
  have bq_0 := Hbq.out.cell (i := 0) rfl
  have bq_1 := Hbq.out.cell (i := 1) rfl
  go_wp2_with fail
  refine (of_none k hk _).mono ?_
  rintro e w2 ⟨rfl, rfl⟩
  go_wp2_with fail
  go_ret2
  exact extR_none 1 HB.out

set_option maxRecDepth 100000 in
set_option maxHeartbeats 2000000 in
theorem ext_form (k : Nat) (h1 : 1 ≤ k) (h3 : k ≤ 3) (p q : PrfA) (hno : ¬ (p.l.length = q.l.length ∧ p.l.length ≠ 0)) (w : World) : Calls Try.prog 15 #[.int .i64 (k : Int), p.val, q.val] w (ExtR 2 [] w) := by
  unfold PrfA.val
  generalize p.l.length = n at *
  generalize q.l.length = m at *
  by_cases hnm : n = m
  · have hd1 : ((n : Int) != (m : Int)) = false := by simp; omega
    have hd2 : ((n : Int) == 0) = true := by simp; omega
    clear hno hnm
    go_enter Try.func15, Try.ntmps15
    go_wp2_with fail
    have hb9 : Below w.heap.size w ((w.alloc (Obj.cells #[.string p.c, .slice p.aa n p.ca] 24)).alloc (Obj.cells #[.string q.c, .slice q.aa m q.ca] 24)) := (((Below.refl _ _).alloc (Nat.le_refl _) _).alloc (by simp) _)
    have hx90 : Bx ((w.alloc (Obj.cells #[.string p.c, .slice p.aa n p.ca] 24)).alloc (Obj.cells #[.string q.c, .slice q.aa m q.ca] 24)) (w.heap.size) 24 [.string p.c, .slice p.aa n p.ca] := by
      have h := ((Bx.new w 24 [.string p.c, .slice p.aa n p.ca] _ rfl).alloc (Obj.cells #[.string q.c, .slice q.aa m q.ca] 24))
      exact h
    have hx91 : Bx ((w.alloc (Obj.cells #[.string p.c, .slice p.aa n p.ca] 24)).alloc (Obj.cells #[.string q.c, .slice q.aa m q.ca] 24)) (w.heap.size + 1) 24 [.string q.c, .slice q.aa m q.ca] := by
      have h := (Bx.new (w.alloc (Obj.cells #[.string p.c, .slice p.aa n p.ca] 24)) 24 [.string q.c, .slice q.aa m q.ca] _ rfl)
      rw [World.size_alloc] at h
      exact h
    have hz9 : ((w.alloc (Obj.cells #[.string p.c, .slice p.aa n p.ca] 24)).alloc (Obj.cells #[.string q.c, .slice q.aa m q.ca] 24)).heap.size = w.heap.size + 2 := by simp
    obtain ⟨w1, hq1⟩ : ∃ W9 : World, ((w.alloc (Obj.cells #[.string p.c, .slice p.aa n p.ca] 24)).alloc (Obj.cells #[.string q.c, .slice q.aa m q.ca] 24)) = W9 := ⟨_, rfl⟩
    rw [hq1] at hb9 hz9 hx90 hx91
    rw [hq1]
    clear hq1
    have HB := Lib.hid hb9
    have Hs1 := Lib.hid hz9
    have Hbp := Lib.hid hx90
    have Hbq := Lib.hid hx91
    clear hb9 hz9 hx90 hx91
    have bp_0 := Hbp.out.cell (i := 0) rfl
    have bp_1 := Hbp.out.cell (i := 1) rfl
    have bq_0 := Hbq.out.cell (i := 0) rfl
    have bq_1 := Hbq.out.cell (i := 1) rfl
    go_wp2_with fail
    refine (of_some k h1 h3 w1).mono ?_
    rintro e w2 ⟨rfl, hg9, hb9⟩
    clear bp_0 bp_1
    replace Hbp := Lib.hid (Hbp.out.up hb9)
    clear bq_0 bq_1
    replace Hbq := Lib.hid (Hbq.out.up hb9)
    replace HB := Lib.hid (below_up HB.out hb9)
    have Hs2 := Lib.hid (show w1.heap.size ≤ w2.heap.size from hb9.size)
    have HG := Lib.hid hg9
    clear hg9
    clear hb9
    have bp_0 := Hbp.out.cell (i := 0) rfl
    have bp_1 := Hbp.out.cell (i := 1) rfl
    have bq_0 := Hbq.out.cell (i := 0) rfl
    have bq_1 := Hbq.out.cell (i := 1) rfl
    go_wp2_with fail
    go_ret2
    exact extR_none 2 HB.out
  · have hd1 : ((n : Int) != (m : Int)) = true := by simp; omega
    clear hno hnm
    go_enter Try.func15, Try.ntmps15
    go_wp2_with fail
    have hb9 : Below w.heap.size w ((w.alloc (Obj.cells #[.string p.c, .slice p.aa n p.ca] 24)).alloc (Obj.cells #[.string q.c, .slice q.aa m q.ca] 24)) := (((Below.refl _ _).alloc (Nat.le_refl _) _).alloc (by simp) _)
    have hx90 : Bx ((w.alloc (Obj.cells #[.string p.c, .slice p.aa n p.ca] 24)).alloc (Obj.cells #[.string q.c, .slice q.aa m q.ca] 24)) (w.heap.size) 24 [.string p.c, .slice p.aa n p.ca] := by
      have h := ((Bx.new w 24 [.string p.c, .slice p.aa n p.ca] _ rfl).alloc (Obj.cells #[.string q.c, .slice q.aa m q.ca] 24))
      exact h
    have hx91 : Bx ((w.alloc (Obj.cells #[.string p.c, .slice p.aa n p.ca] 24)).alloc (Obj.cells #[.string q.c, .slice q.aa m q.ca] 24)) (w.heap.size + 1) 24 [.string q.c, .slice q.aa m q.ca] := by
      have h := (Bx.new (w.alloc (Obj.cells #[.string p.c, .slice p.aa n p.ca] 24)) 24 [.string q.c, .slice q.aa m q.ca] _ rfl)
      rw [World.size_alloc] at h
      exact h
    have hz9 : ((w.alloc (Obj.cells #[.string p.c, .slice p.aa n p.ca] 24)).alloc (Obj.cells #[.string q.c, .slice q.aa m q.ca] 24)).heap.size = w.heap.size + 2 := by simp
    obtain ⟨w1, hq1⟩ : ∃ W9 : World, ((w.alloc (Obj.cells #[.string p.c, .slice p.aa n p.ca] 24)).alloc (Obj.cells #[.string q.c, .slice q.aa m q.ca] 24)) = W9 := ⟨_, rfl⟩
    rw [hq1] at hb9 hz9 hx90 hx91
    rw [hq1]
    clear hq1
    have HB := Lib.hid hb9
    have Hs1 := Lib.hid hz9
    have Hbp := Lib.hid hx90
    have Hbq := Lib.hid hx91
    clear hb9 hz9 hx90 hx91
    have bp_0 := Hbp.out.cell (i := 0) rfl
    have bp_1 := Hbp.out.cell (i := 1) rfl
    have bq_0 := Hbq.out.cell (i := 0) rfl
    have bq_1 := Hbq.out.cell (i := 1) rfl
    go_wp2_with fail
    refine (of_some k h1 h3 w1).mono ?_
    rintro e w2 ⟨rfl, hg9, hb9⟩
    clear bp_0 bp_1
    replace Hbp := Lib.hid (Hbp.out.up hb9)
    clear bq_0 bq_1
    replace Hbq := Lib.hid (Hbq.out.up hb9)
    replace HB := Lib.hid (below_up HB.out hb9)
    have Hs2 := Lib.hid (show w1.heap.size ≤ w2.heap.size from hb9.size)
    have HG := Lib.hid hg9
    clear hg9
    clear hb9
    have bp_0 := Hbp.out.cell (i := 0) rfl
    have bp_1 := Hbp.out.cell (i := 1) rfl
    have bq_0 := Hbq.out.cell (i := 0) rfl
    have bq_1 := Hbq.out.cell (i := 1) rfl
    go_wp2_with fail
    go_ret2
    exact extR_none 2 HB.out

set_option maxRecDepth 100000 in
set_option maxHeartbeats 4000000 in
theorem ext_body (k : Nat) (h1 : 1 ≤ k) (h3 : k ≤ 3) (c d : ByteArray) (l m : List ByteArray) (n : Nat) (hl : l.length = n) (hm : m.length = n) (hn0 : n ≠ 0) (hn : n ≤ 8796093022206) (aa ab : Option Addr) (ca cb : Nat) (b1 b2 be : Bool) (hb1 : (c :: l).all (isSc (grp k).q.m (grp k).size) = b1) (hb2 : (d :: m).all (isSc (grp k).q.m (grp k).size) = b2)
    (er : Int) (L : List ByteArray) (hbe : b1 = true → b2 = true → be = decide (mont (grp k).q.m (numOf c) = mont (grp k).q.m (numOf d))) (hr6 : (b1 && b2) = false → er = 6 ∧ L = []) (hr9 : (b1 && b2) = true → be = true → er = 9 ∧ L = []) (hr0 : (b1 && b2) = true → be = false → er = 0 ∧ L = List.zipWith (exF (grp k) (exI (grp k) c d)) l m)
    (w : World) (hA : Sl w w.heap.size aa (l.map Value.string)) (hA0 : aa = none → ca = 0) (hB : Sl w w.heap.size ab (m.map Value.string)) (hB0 : ab = none → cb = 0) :
    Calls Try.prog 15 #[.int .i64 (k : Int), .agg #[.string c, .slice aa n ca], .agg #[.string d, .slice ab n cb]] w (ExtR er L w) := by
  have OK := Lib.hid (grp_ok k h1 h3)
  have HA := Lib.hid hA
  have HA0 := Lib.hid hA0
  have HBB := Lib.hid hB
  have HB0 := Lib.hid hB0
  have HL := Lib.hid hl
  have HM := Lib.hid hm
  have HB1 := Lib.hid hb1
  have HB2 := Lib.hid hb2
  have HR6 := Lib.hid hr6
  have HR9 := Lib.hid hr9
  have HR0 := Lib.hid hr0
  have HBE := Lib.hid hbe
  have hd1 : ((n : Int) != (n : Int)) = false := by simp
  have hd2 : ((n : Int) == 0) = false := by simp; omega
  clear hA hA0 hB hB0 hl hm hb1 hb2 hr6 hr9 hr0 hbe
  go_enter Try.func15, Try.ntmps15
  go_wp2_with fail
  have hb9 : Below w.heap.size w ((w.alloc (Obj.cells #[.string c, .slice aa n ca] 24)).alloc (Obj.cells #[.string d, .slice ab n cb] 24)) := (((Below.refl _ _).alloc (Nat.le_refl _) _).alloc (by simp) _)
  have hx90 : Bx ((w.alloc (Obj.cells #[.string c, .slice aa n ca] 24)).alloc (Obj.cells #[.string d, .slice ab n cb] 24)) (w.heap.size) 24 [.string c, .slice aa n ca] := by
    have h := ((Bx.new w 24 [.string c, .slice aa n ca] _ rfl).alloc (Obj.cells #[.string d, .slice ab n cb] 24))
    exact h
  have hx91 : Bx ((w.alloc (Obj.cells #[.string c, .slice aa n ca] 24)).alloc (Obj.cells #[.string d, .slice ab n cb] 24)) (w.heap.size + 1) 24 [.string d, .slice ab n cb] := by
    have h := (Bx.new (w.alloc (Obj.cells #[.string c, .slice aa n ca] 24)) 24 [.string d, .slice ab n cb] _ rfl)
    rw [World.size_alloc] at h
    exact h
  have hz9 : ((w.alloc (Obj.cells #[.string c, .slice aa n ca] 24)).alloc (Obj.cells #[.string d, .slice ab n cb] 24)).heap.size = w.heap.size + 2 := by simp
  obtain ⟨w1, hq1⟩ : ∃ W9 : World, ((w.alloc (Obj.cells #[.string c, .slice aa n ca] 24)).alloc (Obj.cells #[.string d, .slice ab n cb] 24)) = W9 := ⟨_, rfl⟩
  rw [hq1] at hb9 hz9 hx90 hx91
  rw [hq1]
  clear hq1
  have HB := Lib.hid hb9
  have Hs1 := Lib.hid hz9
  have Hbp := Lib.hid hx90
  have Hbq := Lib.hid hx91
  clear hb9 hz9 hx90 hx91
  have bp_0 := Hbp.out.cell (i := 0) rfl
  have bp_1 := Hbp.out.cell (i := 1) rfl
  have bq_0 := Hbq.out.cell (i := 0) rfl
  have bq_1 := Hbq.out.cell (i := 1) rfl
  go_wp2_with fail
  refine (of_some k h1 h3 w1).mono ?_
  rintro e w2 ⟨rfl, hg9, hb9⟩
  clear bp_0 bp_1
  replace Hbp := Lib.hid (Hbp.out.up hb9)
  clear bq_0 bq_1
  replace Hbq := Lib.hid (Hbq.out.up hb9)
  replace HB := Lib.hid (below_up HB.out hb9)
  have Hs2 := Lib.hid (show w1.heap.size ≤ w2.heap.size from hb9.size)
  have HG := Lib.hid hg9
  clear hg9
  clear hb9
  have bp_0 := Hbp.out.cell (i := 0) rfl
  have bp_1 := Hbp.out.cell (i := 1) rfl
  have bq_0 := Hbq.out.cell (i := 0) rfl
  have bq_1 := Hbq.out.cell (i := 1) rfl
  have HsG := Lib.hid HG.out.lt
  have o3_bp_0 := bp_0; clear bp_0
  have o3_bp_1 := bp_1; clear bp_1
  have o3_bq_0 := bq_0; clear bq_0
  have o3_bq_1 := bq_1; clear bq_1
  have hb9 : Below w2.heap.size w2 (w2.alloc (Obj.cells #[.string c] 9)) := ((Below.refl _ _).alloc (Nat.le_refl _) _)
  have hx90 : Bx (w2.alloc (Obj.cells #[.string c] 9)) (w2.heap.size) 9 [.string c] := by
    have h := (Bx.new w2 9 [.string c] _ rfl)
    exact h
  have hz9 : (w2.alloc (Obj.cells #[.string c] 9)).heap.size = w2.heap.size + 1 := by simp
  obtain ⟨w3, hq3⟩ : ∃ W9 : World, (w2.alloc (Obj.cells #[.string c] 9)) = W9 := ⟨_, rfl⟩
  rw [hq3] at hb9 hz9 hx90
  replace Hbp := Lib.hid (Hbp.out.up hb9)
  replace Hbq := Lib.hid (Hbq.out.up hb9)
  replace HG := Lib.hid (HG.out.up hb9)
  replace HB := Lib.hid (below_up HB.out hb9)
  have Hs3 := Lib.hid hz9
  have Hbs := Lib.hid hx90
  clear hb9 hz9 hx90
  have bp_0 := Hbp.out.cell (i := 0) rfl
  have bp_1 := Hbp.out.cell (i := 1) rfl
  have bq_0 := Hbq.out.cell (i := 0) rfl
  have bq_1 := Hbq.out.cell (i := 1) rfl
  have bs_0 := Hbs.out.cell (i := 0) rfl
  have Hr := Lib.hid (RowO.of_bx (n := 1) (size := 1) Hbs.out (Nat.le_refl _) rfl (by decide))
  clear bs_0
  clear Hbs
  obtain ⟨i9, hi9, hz90, hz91, hz92⟩ := info_parts infoStr
  go_wp2_with (at_builtin; refine wpList_joinR (w2.heap.size) w3 (by have g0 := Hs1.out; have g1 := Hs2.out; have g2 := HsG.out; have g3 := Hs3.out; omega) rfl _ _ 22 rfl 9 i9 _ 1 16 Try.underlying22 hi9 hz90 hz91 hz92 rfl (by omega) ((.slice (some ⟨w2.heap.size, 0, none⟩) 1 1)) (1) ([.string c]) rfl Hr.out (aa) (n) (ca) (l.map Value.string) rfl (by rw [List.length_map, HL.out, Nat.mul_one]) ((HA.out.up HB.out)) (HA0.out) (by simp [Value.oneCell']) (by omega) (by unfold maxLen; omega) ?_)
  intro a4 c4 w4 hown9 hg9
  clear hq3 o3_bq_1 o3_bq_0 o3_bp_1 o3_bp_0
  clear bp_0 bp_1
  clear bq_0 bq_1
  have hb9 := Below.grown HB.out hg9 (by have g0 := Hs1.out; have g1 := Hs2.out; have g2 := HsG.out; have g3 := Hs3.out; omega) (fun q hq => Nat.le_trans (show w.heap.size ≤ w2.heap.size by have g0 := Hs1.out; have g1 := Hs2.out; have g2 := HsG.out; have g3 := Hs3.out; omega) (Hr.out.lt q hq).1)
  replace Hbp := Lib.hid (Hbp.out.grown hg9 (fun e9 => by have a1 := Hr.out.lt _ e9; have g0 := Hs1.out; have g1 := Hs2.out; have g2 := HsG.out; have g3 := Hs3.out; omega))
  replace Hbq := Lib.hid (Hbq.out.grown hg9 (fun e9 => by have a1 := Hr.out.lt _ e9; have g0 := Hs1.out; have g1 := Hs2.out; have g2 := HsG.out; have g3 := Hs3.out; omega))
  replace HG := Lib.hid (HG.out.grown hg9 (fun e9 => by have a1 := Hr.out.lt _ e9; have g0 := Hs1.out; have g1 := Hs2.out; have g2 := HsG.out; have g3 := Hs3.out; omega))
  have Hs4 := Lib.hid hg9.size
  clear Hr HB
  have Hr := Lib.hid hown9
  have HB := Lib.hid hb9
  clear hb9 hown9 hg9 hi9 hz90 hz91 hz92
  have bp_0 := Hbp.out.cell (i := 0) rfl
  have bp_1 := Hbp.out.cell (i := 1) rfl
  have bq_0 := Hbq.out.cell (i := 0) rfl
  have bq_1 := Hbq.out.cell (i := 1) rfl
  go_wp2_with fail
  refine (allSc_v (grp k) OK.out _ (c :: l) b1 HB1.out (1 + n) (by rw [List.length_cons, HL.out, Nat.add_comm]) _ _ (by omega) w4 HG.out Hr.out.sl).mono ?_
  rintro e w5 ⟨vx, rfl, hb9, hx9⟩
  clear bp_0 bp_1
  replace Hbp := Lib.hid (Hbp.out.up hb9)
  clear bq_0 bq_1
  replace Hbq := Lib.hid (Hbq.out.up hb9)
  replace HG := Lib.hid (HG.out.up hb9)
  replace Hr := Lib.hid (Hr.out.up hb9)
  replace HB := Lib.hid (below_up HB.out hb9)
  have Hs5 := Lib.hid (show w4.heap.size ≤ w5.heap.size from hb9.size)
  have HX := Lib.hid hx9
  clear hx9
  clear hb9
  have bp_0 := Hbp.out.cell (i := 0) rfl
  have bp_1 := Hbp.out.cell (i := 1) rfl
  have bq_0 := Hbq.out.cell (i := 0) rfl
  have bq_1 := Hbq.out.cell (i := 1) rfl
  clear Hr
  have BX := Lib.hid (Below.refl w5.heap.size w5)
  have o6_bp_0 := bp_0; clear bp_0
  have o6_bp_1 := bp_1; clear bp_1
  have o6_bq_0 := bq_0; clear bq_0
  have o6_bq_1 := bq_1; clear bq_1
  have hb9 : Below w5.heap.size w5 (w5.alloc (Obj.cells #[.string d] 9)) := ((Below.refl _ _).alloc (Nat.le_refl _) _)
  have hx90 : Bx (w5.alloc (Obj.cells #[.string d] 9)) (w5.heap.size) 9 [.string d] := by
    have h := (Bx.new w5 9 [.string d] _ rfl)
    exact h
  have hz9 : (w5.alloc (Obj.cells #[.string d] 9)).heap.size = w5.heap.size + 1 := by simp
  obtain ⟨w6, hq6⟩ : ∃ W9 : World, (w5.alloc (Obj.cells #[.string d] 9)) = W9 := ⟨_, rfl⟩
  rw [hq6] at hb9 hz9 hx90
  replace Hbp := Lib.hid (Hbp.out.up hb9)
  replace Hbq := Lib.hid (Hbq.out.up hb9)
  replace HG := Lib.hid (HG.out.up hb9)
  replace BX := Lib.hid (below_up BX.out hb9)
  replace HB := Lib.hid (below_up HB.out hb9)
  have Hs6 := Lib.hid hz9
  have Hbt := Lib.hid hx90
  clear hb9 hz9 hx90
  have bp_0 := Hbp.out.cell (i := 0) rfl
  have bp_1 := Hbp.out.cell (i := 1) rfl
  have bq_0 := Hbq.out.cell (i := 0) rfl
  have bq_1 := Hbq.out.cell (i := 1) rfl
  have bt_0 := Hbt.out.cell (i := 0) rfl
  have Hs := Lib.hid (RowO.of_bx (n := 1) (size := 1) Hbt.out (Nat.le_refl _) rfl (by decide))
  clear bt_0
  clear Hbt
  obtain ⟨i9, hi9, hz90, hz91, hz92⟩ := info_parts infoStr
  go_wp2_with (at_builtin; refine wpList_joinR (w5.heap.size) w6 (by have g0 := Hs1.out; have g1 := Hs2.out; have g2 := HsG.out; have g3 := Hs3.out; have g4 := Hs4.out; have g5 := Hs5.out; have g6 := Hs6.out; omega) rfl _ _ 22 rfl 9 i9 _ 1 16 Try.underlying22 hi9 hz90 hz91 hz92 rfl (by omega) ((.slice (some ⟨w5.heap.size, 0, none⟩) 1 1)) (1) ([.string d]) rfl Hs.out (ab) (n) (cb) (m.map Value.string) rfl (by rw [List.length_map, HM.out, Nat.mul_one]) ((HBB.out.up HB.out)) (HB0.out) (by simp [Value.oneCell']) (by omega) (by unfold maxLen; omega) ?_)
  intro a7 c7 w7 hown9 hg9
  clear hq6 o6_bq_1 o6_bq_0 o6_bp_1 o6_bp_0
  clear bp_0 bp_1
  clear bq_0 bq_1
  have hb9 := Below.grown HB.out hg9 (by have g0 := Hs1.out; have g1 := Hs2.out; have g2 := HsG.out; have g3 := Hs3.out; have g4 := Hs4.out; have g5 := Hs5.out; have g6 := Hs6.out; omega) (fun q hq => Nat.le_trans (show w.heap.size ≤ w5.heap.size by have g0 := Hs1.out; have g1 := Hs2.out; have g2 := HsG.out; have g3 := Hs3.out; have g4 := Hs4.out; have g5 := Hs5.out; have g6 := Hs6.out; omega) (Hs.out.lt q hq).1)
  replace Hbp := Lib.hid (Hbp.out.grown hg9 (fun e9 => by have a1 := Hs.out.lt _ e9; have g0 := Hs1.out; have g1 := Hs2.out; have g2 := HsG.out; have g3 := Hs3.out; have g4 := Hs4.out; have g5 := Hs5.out; have g6 := Hs6.out; omega))
  replace Hbq := Lib.hid (Hbq.out.grown hg9 (fun e9 => by have a1 := Hs.out.lt _ e9; have g0 := Hs1.out; have g1 := Hs2.out; have g2 := HsG.out; have g3 := Hs3.out; have g4 := Hs4.out; have g5 := Hs5.out; have g6 := Hs6.out; omega))
  replace HG := Lib.hid (HG.out.grown hg9 (fun e9 => by have a1 := Hs.out.lt _ e9; have g0 := Hs1.out; have g1 := Hs2.out; have g2 := HsG.out; have g3 := Hs3.out; have g4 := Hs4.out; have g5 := Hs5.out; have g6 := Hs6.out; omega))
  replace BX := Lib.hid (Below.grown BX.out hg9 (by have g0 := Hs1.out; have g1 := Hs2.out; have g2 := HsG.out; have g3 := Hs3.out; have g4 := Hs4.out; have g5 := Hs5.out; have g6 := Hs6.out; omega) (fun q hq => Nat.le_trans (show w5.heap.size ≤ w5.heap.size by have g0 := Hs1.out; have g1 := Hs2.out; have g2 := HsG.out; have g3 := Hs3.out; have g4 := Hs4.out; have g5 := Hs5.out; have g6 := Hs6.out; omega) (Hs.out.lt q hq).1))
  have Hs7 := Lib.hid hg9.size
  clear Hs HB
  have Hs := Lib.hid hown9
  have HB := Lib.hid hb9
  clear hb9 hown9 hg9 hi9 hz90 hz91 hz92
  have bp_0 := Hbp.out.cell (i := 0) rfl
  have bp_1 := Hbp.out.cell (i := 1) rfl
  have bq_0 := Hbq.out.cell (i := 0) rfl
  have bq_1 := Hbq.out.cell (i := 1) rfl
  go_wp2_with fail
  refine (allSc_v (grp k) OK.out _ (d :: m) b2 HB2.out (1 + n) (by rw [List.length_cons, HM.out, Nat.add_comm]) _ _ (by omega) w7 HG.out Hs.out.sl).mono ?_
  rintro e w8 ⟨vy, rfl, hb9, hy9⟩
  clear bp_0 bp_1
  replace Hbp := Lib.hid (Hbp.out.up hb9)
  clear bq_0 bq_1
  replace Hbq := Lib.hid (Hbq.out.up hb9)
  replace HG := Lib.hid (HG.out.up hb9)
  replace Hs := Lib.hid (Hs.out.up hb9)
  replace BX := Lib.hid (below_up BX.out hb9)
  replace HB := Lib.hid (below_up HB.out hb9)
  have Hs8 := Lib.hid (show w7.heap.size ≤ w8.heap.size from hb9.size)
  have HY := Lib.hid hy9
  clear hy9
  clear hb9
  have bp_0 := Hbp.out.cell (i := 0) rfl
  have bp_1 := Hbp.out.cell (i := 1) rfl
  have bq_0 := Hbq.out.cell (i := 0) rfl
  have bq_1 := Hbq.out.cell (i := 1) rfl
  clear Hs
  cases b1
  · obtain ⟨rfl, rfl⟩ := HR6.out rfl
    go_wp2_with fail
    go_ret2
    exact extR_none 6 HB.out
  · cases b2
    · obtain ⟨rfl, rfl⟩ := HR6.out rfl
      go_wp2_with fail
      go_ret2
      exact extR_none 6 HB.out
    · obtain ⟨ax, cx, rfl, hsx⟩ := HX.out rfl
      obtain ⟨ay, cy, rfl, hsy⟩ := HY.out rfl
      have HSX := Lib.hid (hsx.1.up BX.out)
      have HSY := Lib.hid hsy.1
      clear hsx hsy HX HY
      have hbe9 : be = decide (mont (grp k).q.m (numOf c) = mont (grp k).q.m (numOf d)) := HBE.out (by simp) (by simp)
      have HDL := Lib.hid (isSc_le (List.all_eq_true.1 HB2.out d (by simp)))
      have HML := Lib.hid (fun s (hs : s ∈ m) => isSc_le (List.all_eq_true.1 HB2.out s (by simp [hs])))
      obtain ⟨bx, ox, rfl, hbx⟩ := HSX.out.adr (flat_ne (limC_len _) (by omega) (by simp))
      obtain ⟨by_, oy, rfl, hby⟩ := HSY.out.adr (flat_ne (limC_len _) (by omega) (by simp))
      have HBXL := Lib.hid hbx
      have HBYL := Lib.hid hby
      have BK := Lib.hid (Below.refl w8.heap.size w8)
      go_upto_region 10 with fail
      have hcx := (HSX.out.elemS (limC_len _) (by omega) 0 (by simp)).2
      have hcy := (HSY.out.elemS (limC_len _) (by omega) 0 (by simp)).2
      have hcx_0 := hcx 0 _ rfl
      rw [Nat.add_zero] at hcx_0
      have hcx_1 := hcx 1 _ rfl
      have hcx_2 := hcx 2 _ rfl
      have hcx_3 := hcx 3 _ rfl
      clear hcx
      have hcy_0 := hcy 0 _ rfl
      rw [Nat.add_zero] at hcy_0
      have hcy_1 := hcy 1 _ rfl
      have hcy_2 := hcy 2 _ rfl
      have hcy_3 := hcy 3 _ rfl
      clear hcy
      simp only [Nat.zero_mul, Nat.add_zero, List.getElem_cons_zero] at hcx_0 hcx_1 hcx_2 hcx_3 hcy_0 hcy_1 hcy_2 hcy_3
      have HEQ := Lib.hid fun W => binScal (w := W) (eqScal (mont (grp k).q.m (numOf c)) (mont (grp k).q.m (numOf d)) (OK.out.q.mont _) (OK.out.q.mont _) W be hbe9)
      clear hbe9
      have hl_bp := Hbp.out.lt
      have hl_bq := Hbq.out.lt
      refine wp_region_over (by kernel_rfl) (by kernel_rfl) ?_
      have hov_bp := fun (E : Over w8) o => E.cell (b := w.heap.size) o hl_bp
      have hov_bq := fun (E : Over w8) o => E.cell (b := w.heap.size + 1) o hl_bq
      have hov_bx := fun (E : Over w8) o => E.cell (b := bx) o hbx
      have hov_by_ := fun (E : Over w8) o => E.cell (b := by_) o hby
      repeat (first | (refine wpQuiet_bin rfl .eql _ _ 91 _ rfl _ _ (.bool be) rfl rfl (fun _ => guardScal _ _ _ _ _ _) (fun _ => HEQ.out _) ?_; simp only [Act.put, List.setIfInBounds_toArray, List.set_cons_succ, List.set_cons_zero]) | go_big_quiet_step (first | fail))
      all_goals (try unfold elV limbV)
      repeat (first | (refine wpQuiet_bin rfl .eql _ _ 91 _ rfl _ _ (.bool be) rfl rfl (fun _ => guardScal _ _ _ _ _ _) (fun _ => HEQ.out _) ?_; simp only [Act.put, List.setIfInBounds_toArray, List.set_cons_succ, List.set_cons_zero]) | go_big_quiet_step (first | fail))
      all_goals (try unfold elV limbV)
      repeat (first | (refine wpQuiet_bin rfl .eql _ _ 91 _ rfl _ _ (.bool be) rfl rfl (fun _ => guardScal _ _ _ _ _ _) (fun _ => HEQ.out _) ?_; simp only [Act.put, List.setIfInBounds_toArray, List.set_cons_succ, List.set_cons_zero]) | go_big_quiet_step (first | fail))
      all_goals (try unfold ciphV)
      refine wpQuiet_nil ?_
      rintro _ ⟨E, rfl⟩
      clear hov_bp hl_bp hov_bq hl_bq hov_bx hov_by_
      clear bp_0 bp_1
      replace Hbp := Lib.hid (Hbp.out.up E.h)
      clear bq_0 bq_1
      replace Hbq := Lib.hid (Hbq.out.up E.h)
      replace HG := Lib.hid (HG.out.up E.h)
      replace BX := Lib.hid (below_up BX.out E.h)
      replace BK := Lib.hid (below_up BK.out E.h)
      replace HB := Lib.hid (below_up HB.out E.h)
      have Hs9 := Lib.hid (show w8.heap.size ≤ E.w.heap.size from E.h.size)
      obtain ⟨w9, hq9⟩ : ∃ W9 : World, E.w = W9 := ⟨_, rfl⟩
      rw [hq9] at Hbp Hbq HG BX BK HB Hs9 ⊢
      clear hq9 E
      have bp_0 := Hbp.out.cell (i := 0) rfl
      have bp_1 := Hbp.out.cell (i := 1) rfl
      have bq_0 := Hbq.out.cell (i := 0) rfl
      have bq_1 := Hbq.out.cell (i := 1) rfl
      clear hcx_0 hcx_1 hcx_2 hcx_3 hcy_0 hcy_1 hcy_2 hcy_3 HEQ hbx hby
      cases be
      · obtain ⟨rfl, rfl⟩ := HR0.out rfl rfl
        clear HR0 HR6 HR9
        go_upto_region 12 with fail
        have hcx := ((HSX.out.up BK.out).elemS (limC_len _) (by omega) 0 (by simp)).2
        have hcy := ((HSY.out.up BK.out).elemS (limC_len _) (by omega) 0 (by simp)).2
        have hcx_0 := hcx 0 _ rfl
        rw [Nat.add_zero] at hcx_0
        have hcx_1 := hcx 1 _ rfl
        have hcx_2 := hcx 2 _ rfl
        have hcx_3 := hcx 3 _ rfl
        clear hcx
        have hcy_0 := hcy 0 _ rfl
        rw [Nat.add_zero] at hcy_0
        have hcy_1 := hcy 1 _ rfl
        have hcy_2 := hcy 2 _ rfl
        have hcy_3 := hcy 3 _ rfl
        clear hcy
        simp only [Nat.zero_mul, Nat.add_zero, List.getElem_cons_zero] at hcx_0 hcx_1 hcx_2 hcx_3 hcy_0 hcy_1 hcy_2 hcy_3
        have hbx := Nat.lt_of_lt_of_le HBXL.out BK.out.size
        have hby := Nat.lt_of_lt_of_le HBYL.out BK.out.size
        go_cut [13] from 14 to 111 (fun v9 wq9 => ∃ b9, v9 = .pointer (some ⟨b9, 0, none⟩) ∧ Hid (w9.heap.size ≤ b9) ∧ Hid (Bx wq9 b9 91 [.int .u64 (dig (mont (grp k).q.m ((numOf c + ((grp k).q.m - numOf d)) ^ ((grp k).q.m - 2))) 0 : Int), .int .u64 (dig (mont (grp k).q.m ((numOf c + ((grp k).q.m - numOf d)) ^ ((grp k).q.m - 2))) 1 : Int), .int .u64 (dig (mont (grp k).q.m ((numOf c + ((grp k).q.m - numOf d)) ^ ((grp k).q.m - 2))) 2 : Int), .int .u64 (dig (mont (grp k).q.m ((numOf c + ((grp k).q.m - numOf d)) ^ ((grp k).q.m - 2))) 3 : Int)]) ∧ Hid (Below w9.heap.size w9 wq9))
        case first =>
          have HT := Lib.hid (show Below w9.heap.size w9 w9.drew from (Below.refl _ _).drew)
          have hl_bp := Hbp.out.lt
          have hl_bq := Hbq.out.lt
          refine wp_region_tree (fun wq9 => ∃ E : Over w9, wq9 = E.w) ((.qs [0, 1, 2, 3, 4, 5, 6, 7] (.two 8 (.two 9 (.a 10 (.a 11 .done)) 10 (.a 9 (.a 11 .done))) 10 (.a 8 (.a 9 (.a 11 .done)))))) (by kernel_rfl) (by kernel_rfl) (fun _ _ d _ _ h => by cases d <;> exact h) ⟨⟨_, HT.out⟩, rfl⟩ ?_
          have hov_bp := fun (E : Over w9) o => E.cell (b := w.heap.size) o hl_bp
          have hov_bq := fun (E : Over w9) o => E.cell (b := w.heap.size + 1) o hl_bq
          have hov_bx := fun (E : Over w9) o => E.cell (b := bx) o hbx
          have hov_by_ := fun (E : Over w9) o => E.cell (b := by_) o hby
          obtain ⟨wd, hwd⟩ : ∃ W9 : World, w9.drew = W9 := ⟨_, rfl⟩
          rw [hwd] at HT ⊢
          clear hwd
          simp only [Tree.qs]
          repeat (refine tree_q rfl rfl ?_; go_big_quiet_step (fail); refine wpQuiet_nil ?_)
          refine tree_two rfl rfl ?ta1 ?ta2
          case ta1 =>
            intro K hK
            go_simp
            refine (gSub_any (grp k) OK.out _ (numOf c) (numOf d) HDL.out _ (HG.out.up HT.out)).mono ?_
            rintro e wz3 ⟨rfl, hb9⟩
            replace HT := Lib.hid (below_up HT.out hb9)
            clear hb9
            refine hK _ _ ⟨⟨⟨wz3, HT.out⟩, rfl⟩, ?_⟩
            clear hK K
            refine tree_two rfl rfl ?ta4 ?ta5
            case ta4 =>
              intro K hK
              go_simp
              refine (gInv_any (grp k) OK.out _ (numOf c + ((grp k).q.m - numOf d)) _ (HG.out.up HT.out)).mono ?_
              rintro e wz6 ⟨rfl, hb9⟩
              replace HT := Lib.hid (below_up HT.out hb9)
              unfold scV limbV
              clear hb9
              refine hK _ _ ⟨⟨⟨wz6, HT.out⟩, rfl⟩, ?_⟩
              clear hK K
              refine tree_a rfl (fun K hK => ?_)
              go_simp
              have hb9 : Below wz6.heap.size wz6 (wz6.alloc (Obj.cells #[.int .u64 0, .int .u64 0, .int .u64 0, .int .u64 0] 91)) := (Below.refl _ _).alloc (Nat.le_refl _) _
              have hx9 : Bx (wz6.alloc (Obj.cells #[.int .u64 0, .int .u64 0, .int .u64 0, .int .u64 0] 91)) wz6.heap.size 91 [.int .u64 0, .int .u64 0, .int .u64 0, .int .u64 0] := Bx.new _ _ _ _ rfl
              obtain ⟨wz7, hq9⟩ : ∃ W9 : World, (wz6.alloc (Obj.cells #[.int .u64 0, .int .u64 0, .int .u64 0, .int .u64 0] 91)) = W9 := ⟨_, rfl⟩
              rw [hq9] at hb9 hx9
              try rw [hq9]
              clear hq9
              have HLE := Lib.hid HT.out.size
              replace HT := Lib.hid (below_up HT.out hb9)
              have HX := Lib.hid hx9
              clear hb9 hx9
              refine hK _ _ ⟨⟨⟨wz7, HT.out⟩, rfl⟩, ?_⟩
              clear hK K
              refine tree_a rfl (fun K hK => ?_)
              have fz_0 := HX.out.frozen 0
              have cz_0 := HX.out.cell (i := 0) rfl
              have fz_1 := HX.out.frozen 1
              have cz_1 := HX.out.cell (i := 1) rfl
              have fz_2 := HX.out.frozen 2
              have cz_2 := HX.out.cell (i := 2) rfl
              have fz_3 := HX.out.frozen 3
              have cz_3 := HX.out.cell (i := 3) rfl
              go_simp
              have hx9 : Bx ((((wz7.setCell ⟨wz6.heap.size, 0, none⟩ (.int .u64 (dig (mont (grp k).q.m ((numOf c + ((grp k).q.m - numOf d)) ^ ((grp k).q.m - 2))) 0 : Int))).setCell ⟨wz6.heap.size, 1, none⟩ (.int .u64 (dig (mont (grp k).q.m ((numOf c + ((grp k).q.m - numOf d)) ^ ((grp k).q.m - 2))) 1 : Int))).setCell ⟨wz6.heap.size, 2, none⟩ (.int .u64 (dig (mont (grp k).q.m ((numOf c + ((grp k).q.m - numOf d)) ^ ((grp k).q.m - 2))) 2 : Int))).setCell ⟨wz6.heap.size, 3, none⟩ (.int .u64 (dig (mont (grp k).q.m ((numOf c + ((grp k).q.m - numOf d)) ^ ((grp k).q.m - 2))) 3 : Int))) wz6.heap.size 91 [.int .u64 (dig (mont (grp k).q.m ((numOf c + ((grp k).q.m - numOf d)) ^ ((grp k).q.m - 2))) 0 : Int), .int .u64 (dig (mont (grp k).q.m ((numOf c + ((grp k).q.m - numOf d)) ^ ((grp k).q.m - 2))) 1 : Int), .int .u64 (dig (mont (grp k).q.m ((numOf c + ((grp k).q.m - numOf d)) ^ ((grp k).q.m - 2))) 2 : Int), .int .u64 (dig (mont (grp k).q.m ((numOf c + ((grp k).q.m - numOf d)) ^ ((grp k).q.m - 2))) 3 : Int)] := ((((HX.out.set 0 (.int .u64 (dig (mont (grp k).q.m ((numOf c + ((grp k).q.m - numOf d)) ^ ((grp k).q.m - 2))) 0 : Int))).set 1 (.int .u64 (dig (mont (grp k).q.m ((numOf c + ((grp k).q.m - numOf d)) ^ ((grp k).q.m - 2))) 1 : Int))).set 2 (.int .u64 (dig (mont (grp k).q.m ((numOf c + ((grp k).q.m - numOf d)) ^ ((grp k).q.m - 2))) 2 : Int))).set 3 (.int .u64 (dig (mont (grp k).q.m ((numOf c + ((grp k).q.m - numOf d)) ^ ((grp k).q.m - 2))) 3 : Int)))
              have hb9 : Below w9.heap.size w9 ((((wz7.setCell ⟨wz6.heap.size, 0, none⟩ (.int .u64 (dig (mont (grp k).q.m ((numOf c + ((grp k).q.m - numOf d)) ^ ((grp k).q.m - 2))) 0 : Int))).setCell ⟨wz6.heap.size, 1, none⟩ (.int .u64 (dig (mont (grp k).q.m ((numOf c + ((grp k).q.m - numOf d)) ^ ((grp k).q.m - 2))) 1 : Int))).setCell ⟨wz6.heap.size, 2, none⟩ (.int .u64 (dig (mont (grp k).q.m ((numOf c + ((grp k).q.m - numOf d)) ^ ((grp k).q.m - 2))) 2 : Int))).setCell ⟨wz6.heap.size, 3, none⟩ (.int .u64 (dig (mont (grp k).q.m ((numOf c + ((grp k).q.m - numOf d)) ^ ((grp k).q.m - 2))) 3 : Int))) := ((((HT.out.setCell (show w9.heap.size ≤ wz6.heap.size from HLE.out) _).setCell (show w9.heap.size ≤ wz6.heap.size from HLE.out) _).setCell (show w9.heap.size ≤ wz6.heap.size from HLE.out) _).setCell (show w9.heap.size ≤ wz6.heap.size from HLE.out) _)
              obtain ⟨wy, hq9⟩ : ∃ W9 : World, ((((wz7.setCell ⟨wz6.heap.size, 0, none⟩ (.int .u64 (dig (mont (grp k).q.m ((numOf c + ((grp k).q.m - numOf d)) ^ ((grp k).q.m - 2))) 0 : Int))).setCell ⟨wz6.heap.size, 1, none⟩ (.int .u64 (dig (mont (grp k).q.m ((numOf c + ((grp k).q.m - numOf d)) ^ ((grp k).q.m - 2))) 1 : Int))).setCell ⟨wz6.heap.size, 2, none⟩ (.int .u64 (dig (mont (grp k).q.m ((numOf c + ((grp k).q.m - numOf d)) ^ ((grp k).q.m - 2))) 2 : Int))).setCell ⟨wz6.heap.size, 3, none⟩ (.int .u64 (dig (mont (grp k).q.m ((numOf c + ((grp k).q.m - numOf d)) ^ ((grp k).q.m - 2))) 3 : Int))) = W9 := ⟨_, rfl⟩
              rw [hq9] at hx9 hb9
              try rw [hq9]
              clear hq9
              refine hK _ _ ⟨⟨⟨wy, hb9⟩, rfl⟩, ?_⟩
              refine tree_end ?_
              clear hK K
              go_wp2_with fail
              go_meet
              case rel => exact ⟨_, rfl, HLE.out, hx9, hb9⟩
            case ta5 =>
              intro K hK
              go_simp
              have hb9 : Below wz3.heap.size wz3 (wz3.alloc (Obj.cells #[.int .u64 0, .int .u64 0, .int .u64 0, .int .u64 0] 91)) := (Below.refl _ _).alloc (Nat.le_refl _) _
              have hx9 : Bx (wz3.alloc (Obj.cells #[.int .u64 0, .int .u64 0, .int .u64 0, .int .u64 0] 91)) wz3.heap.size 91 [.int .u64 0, .int .u64 0, .int .u64 0, .int .u64 0] := Bx.new _ _ _ _ rfl
              obtain ⟨wz9, hq9⟩ : ∃ W9 : World, (wz3.alloc (Obj.cells #[.int .u64 0, .int .u64 0, .int .u64 0, .int .u64 0] 91)) = W9 := ⟨_, rfl⟩
              rw [hq9] at hb9 hx9
              try rw [hq9]
              clear hq9
              have HLE := Lib.hid HT.out.size
              replace HT := Lib.hid (below_up HT.out hb9)
              have HX := Lib.hid hx9
              clear hb9 hx9
              refine hK _ _ ⟨⟨⟨wz9, HT.out⟩, rfl⟩, ?_⟩
              clear hK K
              refine tree_a rfl (fun K hK => ?_)
              go_simp
              refine (gInv_any (grp k) OK.out _ (numOf c + ((grp k).q.m - numOf d)) _ (HG.out.up HT.out)).mono ?_
              rintro e wz10 ⟨rfl, hb9⟩
              replace HX := Lib.hid (HX.out.up hb9)
              replace HT := Lib.hid (below_up HT.out hb9)
              unfold scV limbV
              clear hb9
              refine hK _ _ ⟨⟨⟨wz10, HT.out⟩, rfl⟩, ?_⟩
              clear hK K
              refine tree_a rfl (fun K hK => ?_)
              have fz_0 := HX.out.frozen 0
              have cz_0 := HX.out.cell (i := 0) rfl
              have fz_1 := HX.out.frozen 1
              have cz_1 := HX.out.cell (i := 1) rfl
              have fz_2 := HX.out.frozen 2
              have cz_2 := HX.out.cell (i := 2) rfl
              have fz_3 := HX.out.frozen 3
              have cz_3 := HX.out.cell (i := 3) rfl
              go_simp
              have hx9 : Bx ((((wz10.setCell ⟨wz3.heap.size, 0, none⟩ (.int .u64 (dig (mont (grp k).q.m ((numOf c + ((grp k).q.m - numOf d)) ^ ((grp k).q.m - 2))) 0 : Int))).setCell ⟨wz3.heap.size, 1, none⟩ (.int .u64 (dig (mont (grp k).q.m ((numOf c + ((grp k).q.m - numOf d)) ^ ((grp k).q.m - 2))) 1 : Int))).setCell ⟨wz3.heap.size, 2, none⟩ (.int .u64 (dig (mont (grp k).q.m ((numOf c + ((grp k).q.m - numOf d)) ^ ((grp k).q.m - 2))) 2 : Int))).setCell ⟨wz3.heap.size, 3, none⟩ (.int .u64 (dig (mont (grp k).q.m ((numOf c + ((grp k).q.m - numOf d)) ^ ((grp k).q.m - 2))) 3 : Int))) wz3.heap.size 91 [.int .u64 (dig (mont (grp k).q.m ((numOf c + ((grp k).q.m - numOf d)) ^ ((grp k).q.m - 2))) 0 : Int), .int .u64 (dig (mont (grp k).q.m ((numOf c + ((grp k).q.m - numOf d)) ^ ((grp k).q.m - 2))) 1 : Int), .int .u64 (dig (mont (grp k).q.m ((numOf c + ((grp k).q.m - numOf d)) ^ ((grp k).q.m - 2))) 2 : Int), .int .u64 (dig (mont (grp k).q.m ((numOf c + ((grp k).q.m - numOf d)) ^ ((grp k).q.m - 2))) 3 : Int)] := ((((HX.out.set 0 (.int .u64 (dig (mont (grp k).q.m ((numOf c + ((grp k).q.m - numOf d)) ^ ((grp k).q.m - 2))) 0 : Int))).set 1 (.int .u64 (dig (mont (grp k).q.m ((numOf c + ((grp k).q.m - numOf d)) ^ ((grp k).q.m - 2))) 1 : Int))).set 2 (.int .u64 (dig (mont (grp k).q.m ((numOf c + ((grp k).q.m - numOf d)) ^ ((grp k).q.m - 2))) 2 : Int))).set 3 (.int .u64 (dig (mont (grp k).q.m ((numOf c + ((grp k).q.m - numOf d)) ^ ((grp k).q.m - 2))) 3 : Int)))
              have hb9 : Below w9.heap.size w9 ((((wz10.setCell ⟨wz3.heap.size, 0, none⟩ (.int .u64 (dig (mont (grp k).q.m ((numOf c + ((grp k).q.m - numOf d)) ^ ((grp k).q.m - 2))) 0 : Int))).setCell ⟨wz3.heap.size, 1, none⟩ (.int .u64 (dig (mont (grp k).q.m ((numOf c + ((grp k).q.m - numOf d)) ^ ((grp k).q.m - 2))) 1 : Int))).setCell ⟨wz3.heap.size, 2, none⟩ (.int .u64 (dig (mont (grp k).q.m ((numOf c + ((grp k).q.m - numOf d)) ^ ((grp k).q.m - 2))) 2 : Int))).setCell ⟨wz3.heap.size, 3, none⟩ (.int .u64 (dig (mont (grp k).q.m ((numOf c + ((grp k).q.m - numOf d)) ^ ((grp k).q.m - 2))) 3 : Int))) := ((((HT.out.setCell (show w9.heap.size ≤ wz3.heap.size from HLE.out) _).setCell (show w9.heap.size ≤ wz3.heap.size from HLE.out) _).setCell (show w9.heap.size ≤ wz3.heap.size from HLE.out) _).setCell (show w9.heap.size ≤ wz3.heap.size from HLE.out) _)
              obtain ⟨wy, hq9⟩ : ∃ W9 : World, ((((wz10.setCell ⟨wz3.heap.size, 0, none⟩ (.int .u64 (dig (mont (grp k).q.m ((numOf c + ((grp k).q.m - numOf d)) ^ ((grp k).q.m - 2))) 0 : Int))).setCell ⟨wz3.heap.size, 1, none⟩ (.int .u64 (dig (mont (grp k).q.m ((numOf c + ((grp k).q.m - numOf d)) ^ ((grp k).q.m - 2))) 1 : Int))).setCell ⟨wz3.heap.size, 2, none⟩ (.int .u64 (dig (mont (grp k).q.m ((numOf c + ((grp k).q.m - numOf d)) ^ ((grp k).q.m - 2))) 2 : Int))).setCell ⟨wz3.heap.size, 3, none⟩ (.int .u64 (dig (mont (grp k).q.m ((numOf c + ((grp k).q.m - numOf d)) ^ ((grp k).q.m - 2))) 3 : Int))) = W9 := ⟨_, rfl⟩
              rw [hq9] at hx9 hb9
              try rw [hq9]
              clear hq9
              refine hK _ _ ⟨⟨⟨wy, hb9⟩, rfl⟩, ?_⟩
              refine tree_end ?_
              clear hK K
              go_wp2_with fail
              go_meet
              case rel => exact ⟨_, rfl, HLE.out, hx9, hb9⟩
          case ta2 =>
            intro K hK
            go_simp
            have hb9 : Below wd.heap.size wd (wd.alloc (Obj.cells #[.int .u64 0, .int .u64 0, .int .u64 0, .int .u64 0] 91)) := (Below.refl _ _).alloc (Nat.le_refl _) _
            have hx9 : Bx (wd.alloc (Obj.cells #[.int .u64 0, .int .u64 0, .int .u64 0, .int .u64 0] 91)) wd.heap.size 91 [.int .u64 0, .int .u64 0, .int .u64 0, .int .u64 0] := Bx.new _ _ _ _ rfl
            obtain ⟨wz12, hq9⟩ : ∃ W9 : World, (wd.alloc (Obj.cells #[.int .u64 0, .int .u64 0, .int .u64 0, .int .u64 0] 91)) = W9 := ⟨_, rfl⟩
            rw [hq9] at hb9 hx9
            try rw [hq9]
            clear hq9
            have HLE := Lib.hid HT.out.size
            replace HT := Lib.hid (below_up HT.out hb9)
            have HX := Lib.hid hx9
            clear hb9 hx9
            refine hK _ _ ⟨⟨⟨wz12, HT.out⟩, rfl⟩, ?_⟩
            clear hK K
            refine tree_a rfl (fun K hK => ?_)
            go_simp
            refine (gSub_any (grp k) OK.out _ (numOf c) (numOf d) HDL.out _ (HG.out.up HT.out)).mono ?_
            rintro e wz13 ⟨rfl, hb9⟩
            replace HX := Lib.hid (HX.out.up hb9)
            replace HT := Lib.hid (below_up HT.out hb9)
            clear hb9
            refine hK _ _ ⟨⟨⟨wz13, HT.out⟩, rfl⟩, ?_⟩
            clear hK K
            refine tree_a rfl (fun K hK => ?_)
            go_simp
            refine (gInv_any (grp k) OK.out _ (numOf c + ((grp k).q.m - numOf d)) _ (HG.out.up HT.out)).mono ?_
            rintro e wz14 ⟨rfl, hb9⟩
            replace HX := Lib.hid (HX.out.up hb9)
            replace HT := Lib.hid (below_up HT.out hb9)
            unfold scV limbV
            clear hb9
            refine hK _ _ ⟨⟨⟨wz14, HT.out⟩, rfl⟩, ?_⟩
            clear hK K
            refine tree_a rfl (fun K hK => ?_)
            have fz_0 := HX.out.frozen 0
            have cz_0 := HX.out.cell (i := 0) rfl
            have fz_1 := HX.out.frozen 1
            have cz_1 := HX.out.cell (i := 1) rfl
            have fz_2 := HX.out.frozen 2
            have cz_2 := HX.out.cell (i := 2) rfl
            have fz_3 := HX.out.frozen 3
            have cz_3 := HX.out.cell (i := 3) rfl
            go_simp
            have hx9 : Bx ((((wz14.setCell ⟨wd.heap.size, 0, none⟩ (.int .u64 (dig (mont (grp k).q.m ((numOf c + ((grp k).q.m - numOf d)) ^ ((grp k).q.m - 2))) 0 : Int))).setCell ⟨wd.heap.size, 1, none⟩ (.int .u64 (dig (mont (grp k).q.m ((numOf c + ((grp k).q.m - numOf d)) ^ ((grp k).q.m - 2))) 1 : Int))).setCell ⟨wd.heap.size, 2, none⟩ (.int .u64 (dig (mont (grp k).q.m ((numOf c + ((grp k).q.m - numOf d)) ^ ((grp k).q.m - 2))) 2 : Int))).setCell ⟨wd.heap.size, 3, none⟩ (.int .u64 (dig (mont (grp k).q.m ((numOf c + ((grp k).q.m - numOf d)) ^ ((grp k).q.m - 2))) 3 : Int))) wd.heap.size 91 [.int .u64 (dig (mont (grp k).q.m ((numOf c + ((grp k).q.m - numOf d)) ^ ((grp k).q.m - 2))) 0 : Int), .int .u64 (dig (mont (grp k).q.m ((numOf c + ((grp k).q.m - numOf d)) ^ ((grp k).q.m - 2))) 1 : Int), .int .u64 (dig (mont (grp k).q.m ((numOf c + ((grp k).q.m - numOf d)) ^ ((grp k).q.m - 2))) 2 : Int), .int .u64 (dig (mont (grp k).q.m ((numOf c + ((grp k).q.m - numOf d)) ^ ((grp k).q.m - 2))) 3 : Int)] := ((((HX.out.set 0 (.int .u64 (dig (mont (grp k).q.m ((numOf c + ((grp k).q.m - numOf d)) ^ ((grp k).q.m - 2))) 0 : Int))).set 1 (.int .u64 (dig (mont (grp k).q.m ((numOf c + ((grp k).q.m - numOf d)) ^ ((grp k).q.m - 2))) 1 : Int))).set 2 (.int .u64 (dig (mont (grp k).q.m ((numOf c + ((grp k).q.m - numOf d)) ^ ((grp k).q.m - 2))) 2 : Int))).set 3 (.int .u64 (dig (mont (grp k).q.m ((numOf c + ((grp k).q.m - numOf d)) ^ ((grp k).q.m - 2))) 3 : Int)))
            have hb9 : Below w9.heap.size w9 ((((wz14.setCell ⟨wd.heap.size, 0, none⟩ (.int .u64 (dig (mont (grp k).q.m ((numOf c + ((grp k).q.m - numOf d)) ^ ((grp k).q.m - 2))) 0 : Int))).setCell ⟨wd.heap.size, 1, none⟩ (.int .u64 (dig (mont (grp k).q.m ((numOf c + ((grp k).q.m - numOf d)) ^ ((grp k).q.m - 2))) 1 : Int))).setCell ⟨wd.heap.size, 2, none⟩ (.int .u64 (dig (mont (grp k).q.m ((numOf c + ((grp k).q.m - numOf d)) ^ ((grp k).q.m - 2))) 2 : Int))).setCell ⟨wd.heap.size, 3, none⟩ (.int .u64 (dig (mont (grp k).q.m ((numOf c + ((grp k).q.m - numOf d)) ^ ((grp k).q.m - 2))) 3 : Int))) := ((((HT.out.setCell (show w9.heap.size ≤ wd.heap.size from HLE.out) _).setCell (show w9.heap.size ≤ wd.heap.size from HLE.out) _).setCell (show w9.heap.size ≤ wd.heap.size from HLE.out) _).setCell (show w9.heap.size ≤ wd.heap.size from HLE.out) _)
            obtain ⟨wy, hq9⟩ : ∃ W9 : World, ((((wz14.setCell ⟨wd.heap.size, 0, none⟩ (.int .u64 (dig (mont (grp k).q.m ((numOf c + ((grp k).q.m - numOf d)) ^ ((grp k).q.m - 2))) 0 : Int))).setCell ⟨wd.heap.size, 1, none⟩ (.int .u64 (dig (mont (grp k).q.m ((numOf c + ((grp k).q.m - numOf d)) ^ ((grp k).q.m - 2))) 1 : Int))).setCell ⟨wd.heap.size, 2, none⟩ (.int .u64 (dig (mont (grp k).q.m ((numOf c + ((grp k).q.m - numOf d)) ^ ((grp k).q.m - 2))) 2 : Int))).setCell ⟨wd.heap.size, 3, none⟩ (.int .u64 (dig (mont (grp k).q.m ((numOf c + ((grp k).q.m - numOf d)) ^ ((grp k).q.m - 2))) 3 : Int))) = W9 := ⟨_, rfl⟩
            rw [hq9] at hx9 hb9
            try rw [hq9]
            clear hq9
            refine hK _ _ ⟨⟨⟨wy, hb9⟩, rfl⟩, ?_⟩
            refine tree_end ?_
            clear hK K
            go_wp2_with fail
            go_meet
            case rel => exact ⟨_, rfl, HLE.out, hx9, hb9⟩
        case rest =>
          clear hcx_0 hcx_1 hcx_2 hcx_3 hcy_0 hcy_1 hcy_2 hcy_3 hbx hby
          obtain ⟨bper, rfl, Hzper, hx9, hb9⟩ := hcut
          replace hb9 := hb9.out
          clear bp_0 bp_1
          replace Hbp := Lib.hid (Hbp.out.up hb9)
          clear bq_0 bq_1
          replace Hbq := Lib.hid (Hbq.out.up hb9)
          replace HG := Lib.hid (HG.out.up hb9)
          replace BX := Lib.hid (below_up BX.out hb9)
          replace BK := Lib.hid (below_up BK.out hb9)
          replace HB := Lib.hid (below_up HB.out hb9)
          have Hs9' := Lib.hid (show w9.heap.size ≤ wc.heap.size from hb9.size)
          clear hb9
          have Hper := hx9
          clear hx9
          have Hyper := Lib.hid (Hper.out.lt)
          have bp_0 := Hbp.out.cell (i := 0) rfl
          have bp_1 := Hbp.out.cell (i := 1) rfl
          have bq_0 := Hbq.out.cell (i := 0) rfl
          have bq_1 := Hbq.out.cell (i := 1) rfl
          have per_0 := Hper.out.cell (i := 0) rfl
          have per_1 := Hper.out.cell (i := 1) rfl
          have per_2 := Hper.out.cell (i := 2) rfl
          have per_3 := Hper.out.cell (i := 3) rfl
          have BL := Lib.hid (Below.refl wc.heap.size wc)
          go_wp2_with fail
          go_loopw [87, 14] (fun i v wr => ∃ (j : Nat) (g : Option Addr) (c9 : Nat), j ≤ n ∧ i = .int .i64 j ∧ v = .slice g j c9 ∧ Hid (Below wc.heap.size wc wr) ∧ Hid (RowO wc.heap.size wr 9 1 (.slice g j c9) j (((List.zipWith (exF (grp k) (exI (grp k) c d)) l m).take j).map Value.string))) (fun i _ _ => n - (intOf i).toNat)
          case atStart => exact ⟨0, none, 0, Nat.zero_le _, rfl, rfl, BL, RowO.nil⟩
          case round =>
            obtain ⟨j, g, c9, hj, rfl, rfl, HL9, Hr⟩ := hrel
            have hb9 := HL9.out
            clear HL9
            clear bp_0 bp_1
            replace Hbp := Lib.hid (Hbp.out.up hb9)
            clear bq_0 bq_1
            replace Hbq := Lib.hid (Hbq.out.up hb9)
            clear per_0 per_1 per_2 per_3
            replace Hper := Lib.hid (Hper.out.up hb9)
            replace HG := Lib.hid (HG.out.up hb9)
            replace BX := Lib.hid (below_up BX.out hb9)
            replace BK := Lib.hid (below_up BK.out hb9)
            replace BL := Lib.hid (below_up BL.out hb9)
            replace HB := Lib.hid (below_up HB.out hb9)
            have Hs9'' := Lib.hid (show wc.heap.size ≤ wr.heap.size from hb9.size)
            clear hb9
            have bp_0 := Hbp.out.cell (i := 0) rfl
            have bp_1 := Hbp.out.cell (i := 1) rfl
            have bq_0 := Hbq.out.cell (i := 0) rfl
            have bq_1 := Hbq.out.cell (i := 1) rfl
            have per_0 := Hper.out.cell (i := 0) rfl
            have per_1 := Hper.out.cell (i := 1) rfl
            have per_2 := Hper.out.cell (i := 2) rfl
            have per_3 := Hper.out.cell (i := 3) rfl
            by_cases hjn : j < n
            · have hjl : j < l.length := by rw [HL.out]; exact hjn
              have hjm : j < m.length := by rw [HM.out]; exact hjn
              have hcx := ((HSX.out.up BK.out).elemS (limC_len _) (by omega) (j + 1) (by simpa using hjl)).2
              have hcy := ((HSY.out.up BK.out).elemS (limC_len _) (by omega) (j + 1) (by simpa using hjm)).2
              have hcx_0 := hcx 0 _ rfl
              rw [Nat.add_zero] at hcx_0
              have hcx_1 := hcx 1 _ rfl
              have hcx_2 := hcx 2 _ rfl
              have hcx_3 := hcx 3 _ rfl
              clear hcx
              have hcy_0 := hcy 0 _ rfl
              rw [Nat.add_zero] at hcy_0
              have hcy_1 := hcy 1 _ rfl
              have hcy_2 := hcy 2 _ rfl
              have hcy_3 := hcy 3 _ rfl
              clear hcy
              simp only [List.getElem_cons_succ] at hcx_0 hcx_1 hcx_2 hcx_3 hcy_0 hcy_1 hcy_2 hcy_3
              have hbx := Nat.lt_of_lt_of_le HBXL.out BK.out.size
              have hby := Nat.lt_of_lt_of_le HBYL.out BK.out.size
              have HBN := Lib.hid (HML.out m[j] (List.getElem_mem hjm))
              have HSN := Lib.hid (zip_snoc (exF (grp k) (exI (grp k) c d)) l m j hjl hjm)
              generalize l[j] = a at *
              generalize m[j] = b at *
              go_wp2_with fail
              have HT := Lib.hid (show Below wr.heap.size wr wr.drew from (Below.refl _ _).drew)
              have hl_bp := Hbp.out.lt
              have hl_bq := Hbq.out.lt
              have hl_per := Hper.out.lt
              refine wp_region_tree (fun wq9 => ∃ E : But wr (Value.ownBlock (.slice g j c9)), wq9 = E.w) ((.qs [0, 1, 2, 3, 4, 5, 6, 7, 8, 9, 10, 11, 12, 13, 14] (.a 15 (.a 16 (.a 17 (.a 18 (.a 19 (.qs [20] .done)))))))) (by kernel_rfl) (by kernel_rfl) (fun _ _ d _ _ h => by cases d <;> exact h) ⟨⟨_, ((below_grown HT.out).but _)⟩, rfl⟩ ?_
              have hov_bp := fun (E : But wr (Value.ownBlock (.slice g j c9))) o => E.cell (b := w.heap.size) o hl_bp (by intro e9; have a1 := Hr.out.lt _ e9; have g0 := Hs1.out; have g1 := Hs2.out; have g2 := HsG.out; have g3 := Hs3.out; have g4 := Hs4.out; have g5 := Hs5.out; have g6 := Hs6.out; have g7 := Hs7.out; have g8 := Hs8.out; have g9 := HBXL.out; have g10 := HBYL.out; have g11 := Hs9.out; have g12 := Hs9'.out; have g13 := Hzper.out; have g14 := Hyper.out; have g15 := Hs9''.out; omega)
              have hov_bq := fun (E : But wr (Value.ownBlock (.slice g j c9))) o => E.cell (b := w.heap.size + 1) o hl_bq (by intro e9; have a1 := Hr.out.lt _ e9; have g0 := Hs1.out; have g1 := Hs2.out; have g2 := HsG.out; have g3 := Hs3.out; have g4 := Hs4.out; have g5 := Hs5.out; have g6 := Hs6.out; have g7 := Hs7.out; have g8 := Hs8.out; have g9 := HBXL.out; have g10 := HBYL.out; have g11 := Hs9.out; have g12 := Hs9'.out; have g13 := Hzper.out; have g14 := Hyper.out; have g15 := Hs9''.out; omega)
              have hov_per := fun (E : But wr (Value.ownBlock (.slice g j c9))) o => E.cell (b := bper) o hl_per (by intro e9; have a1 := Hr.out.lt _ e9; have g0 := Hs1.out; have g1 := Hs2.out; have g2 := HsG.out; have g3 := Hs3.out; have g4 := Hs4.out; have g5 := Hs5.out; have g6 := Hs6.out; have g7 := Hs7.out; have g8 := Hs8.out; have g9 := HBXL.out; have g10 := HBYL.out; have g11 := Hs9.out; have g12 := Hs9'.out; have g13 := Hzper.out; have g14 := Hyper.out; have g15 := Hs9''.out; omega)
              have hov_bx := fun (E : But wr (Value.ownBlock (.slice g j c9))) o => E.cell (b := bx) o hbx (by intro e9; have a1 := Hr.out.lt _ e9; have g0 := Hs1.out; have g1 := Hs2.out; have g2 := HsG.out; have g3 := Hs3.out; have g4 := Hs4.out; have g5 := Hs5.out; have g6 := Hs6.out; have g7 := Hs7.out; have g8 := Hs8.out; have g9 := HBXL.out; have g10 := HBYL.out; have g11 := Hs9.out; have g12 := Hs9'.out; have g13 := Hzper.out; have g14 := Hyper.out; have g15 := Hs9''.out; omega)
              have hov_by_ := fun (E : But wr (Value.ownBlock (.slice g j c9))) o => E.cell (b := by_) o hby (by intro e9; have a1 := Hr.out.lt _ e9; have g0 := Hs1.out; have g1 := Hs2.out; have g2 := HsG.out; have g3 := Hs3.out; have g4 := Hs4.out; have g5 := Hs5.out; have g6 := Hs6.out; have g7 := Hs7.out; have g8 := Hs8.out; have g9 := HBXL.out; have g10 := HBYL.out; have g11 := Hs9.out; have g12 := Hs9'.out; have g13 := Hzper.out; have g14 := Hyper.out; have g15 := Hs9''.out; omega)
              simp only [Tree.qs]
              repeat (refine tree_q rfl rfl ?_; go_big_quiet_step (fail); refine wpQuiet_nil ?_)
              refine tree_a rfl (fun K hK => ?_)
              go_simp
              refine (gSub_any (grp k) OK.out _ (numOf a) (numOf b) HBN.out _ (HG.out.up HT.out)).mono ?_
              rintro e w10 ⟨rfl, hb9⟩
              replace HT := Lib.hid (below_up HT.out hb9)
              have Hs10 := Lib.hid (show wr.heap.size ≤ w10.heap.size from HT.out.size)
              clear hb9
              refine hK _ _ ⟨⟨⟨w10, ((below_grown HT.out).but _)⟩, rfl⟩, ?_⟩
              clear hK K
              repeat (refine tree_q rfl rfl ?_; go_big_quiet_step (fail); refine wpQuiet_nil ?_)
              refine tree_a rfl (fun K hK => ?_)
              go_simp
              refine (gMul_any (grp k) OK.out _ ((numOf c + ((grp k).q.m - numOf d)) ^ ((grp k).q.m - 2)) (numOf a + ((grp k).q.m - numOf b)) _ (HG.out.up HT.out)).mono ?_
              rintro e w11 ⟨rfl, hb9⟩
              replace HT := Lib.hid (below_up HT.out hb9)
              have Hs11 := Lib.hid (show wr.heap.size ≤ w11.heap.size from HT.out.size)
              clear hb9
              refine hK _ _ ⟨⟨⟨w11, ((below_grown HT.out).but _)⟩, rfl⟩, ?_⟩
              clear hK K
              repeat (refine tree_q rfl rfl ?_; go_big_quiet_step (fail); refine wpQuiet_nil ?_)
              refine tree_a rfl (fun K hK => ?_)
              go_simp
              refine (gPut_any (grp k) OK.out _ _ _ (HG.out.up HT.out)).mono ?_
              rintro e w12 ⟨rfl, hb9⟩
              replace HT := Lib.hid (below_up HT.out hb9)
              have Hs12 := Lib.hid (show wr.heap.size ≤ w12.heap.size from HT.out.size)
              clear hb9
              rw [ex_eq]
              refine hK _ _ ⟨⟨⟨w12, ((below_grown HT.out).but _)⟩, rfl⟩, ?_⟩
              clear hK K
              repeat (refine tree_q rfl rfl ?_; go_big_quiet_step (fail); refine wpQuiet_nil ?_)
              clear hov_bp hl_bp hov_bq hl_bq hov_per hl_per hov_bx hov_by_
              refine tree_a rfl (fun K hK => ?_)
              go_simp
              refine hK _ _ ⟨⟨⟨_, (below_grown (HT.out.alloc HT.out.size _)).but _⟩, rfl⟩, ?_⟩
              clear hK K
              obtain ⟨i9, hi9, hz90, hz91, hz92⟩ := info_parts infoStr
              have HG1 := Lib.hid ((below_grown HT.out).but (Value.ownBlock (.slice g j c9)))
              clear bp_0 bp_1
              replace Hbp := Lib.hid (Hbp.out.up HT.out)
              clear bq_0 bq_1
              replace Hbq := Lib.hid (Hbq.out.up HT.out)
              clear per_0 per_1 per_2 per_3
              replace Hper := Lib.hid (Hper.out.up HT.out)
              replace HG := Lib.hid (HG.out.up HT.out)
              replace Hr := Lib.hid (Hr.out.up HT.out)
              replace BX := Lib.hid (below_up BX.out HT.out)
              replace BK := Lib.hid (below_up BK.out HT.out)
              replace BL := Lib.hid (below_up BL.out HT.out)
              replace HB := Lib.hid (below_up HB.out HT.out)
              have Hs12' := Lib.hid (show wr.heap.size ≤ w12.heap.size from HT.out.size)
              refine tree_a rfl (fun K hK => ?_)
              refine step_pushR (wc.heap.size) w12 (by have g0 := Hs1.out; have g1 := Hs2.out; have g2 := HsG.out; have g3 := Hs3.out; have g4 := Hs4.out; have g5 := Hs5.out; have g6 := Hs6.out; have g7 := Hs7.out; have g8 := Hs8.out; have g9 := HBXL.out; have g10 := HBYL.out; have g11 := Hs9.out; have g12 := Hs9'.out; have g13 := Hzper.out; have g14 := Hyper.out; have g15 := Hs9''.out; have g16 := Hs10.out; have g17 := Hs11.out; have g18 := Hs12.out; have g19 := Hs12'.out; omega) rfl _ _ 22 rfl 9 i9 _ 1 16 Try.underlying22 hi9 hz90 hz91 hz92 rfl (by omega) ((.slice g j c9)) (j) ((((List.zipWith (exF (grp k) (exI (grp k) c d)) l m).take j).map Value.string)) rfl Hr.out _ _ _ rfl rfl rfl (by simp [Value.oneCell']) (by omega) (by unfold maxLen; omega) ?_
              intro g13 c13 w13 hown9 hg9
              have HGR := Lib.hid (HG1.out.trans hg9)
              have hb9 := Below.grown HB.out hg9 (by have g0 := Hs1.out; have g1 := Hs2.out; have g2 := HsG.out; have g3 := Hs3.out; have g4 := Hs4.out; have g5 := Hs5.out; have g6 := Hs6.out; have g7 := Hs7.out; have g8 := Hs8.out; have g9 := HBXL.out; have g10 := HBYL.out; have g11 := Hs9.out; have g12 := Hs9'.out; have g13 := Hzper.out; have g14 := Hyper.out; have g15 := Hs9''.out; have g16 := Hs10.out; have g17 := Hs11.out; have g18 := Hs12.out; have g19 := Hs12'.out; omega) (fun q hq => Nat.le_trans (show w.heap.size ≤ wc.heap.size by have g0 := Hs1.out; have g1 := Hs2.out; have g2 := HsG.out; have g3 := Hs3.out; have g4 := Hs4.out; have g5 := Hs5.out; have g6 := Hs6.out; have g7 := Hs7.out; have g8 := Hs8.out; have g9 := HBXL.out; have g10 := HBYL.out; have g11 := Hs9.out; have g12 := Hs9'.out; have g13 := Hzper.out; have g14 := Hyper.out; have g15 := Hs9''.out; have g16 := Hs10.out; have g17 := Hs11.out; have g18 := Hs12.out; have g19 := Hs12'.out; omega) (Hr.out.lt q hq).1)
              replace Hbp := Lib.hid (Hbp.out.grown hg9 (fun e9 => by have a1 := Hr.out.lt _ e9; have g0 := Hs1.out; have g1 := Hs2.out; have g2 := HsG.out; have g3 := Hs3.out; have g4 := Hs4.out; have g5 := Hs5.out; have g6 := Hs6.out; have g7 := Hs7.out; have g8 := Hs8.out; have g9 := HBXL.out; have g10 := HBYL.out; have g11 := Hs9.out; have g12 := Hs9'.out; have g13 := Hzper.out; have g14 := Hyper.out; have g15 := Hs9''.out; have g16 := Hs10.out; have g17 := Hs11.out; have g18 := Hs12.out; have g19 := Hs12'.out; omega))
              replace Hbq := Lib.hid (Hbq.out.grown hg9 (fun e9 => by have a1 := Hr.out.lt _ e9; have g0 := Hs1.out; have g1 := Hs2.out; have g2 := HsG.out; have g3 := Hs3.out; have g4 := Hs4.out; have g5 := Hs5.out; have g6 := Hs6.out; have g7 := Hs7.out; have g8 := Hs8.out; have g9 := HBXL.out; have g10 := HBYL.out; have g11 := Hs9.out; have g12 := Hs9'.out; have g13 := Hzper.out; have g14 := Hyper.out; have g15 := Hs9''.out; have g16 := Hs10.out; have g17 := Hs11.out; have g18 := Hs12.out; have g19 := Hs12'.out; omega))
              replace Hper := Lib.hid (Hper.out.grown hg9 (fun e9 => by have a1 := Hr.out.lt _ e9; have g0 := Hs1.out; have g1 := Hs2.out; have g2 := HsG.out; have g3 := Hs3.out; have g4 := Hs4.out; have g5 := Hs5.out; have g6 := Hs6.out; have g7 := Hs7.out; have g8 := Hs8.out; have g9 := HBXL.out; have g10 := HBYL.out; have g11 := Hs9.out; have g12 := Hs9'.out; have g13 := Hzper.out; have g14 := Hyper.out; have g15 := Hs9''.out; have g16 := Hs10.out; have g17 := Hs11.out; have g18 := Hs12.out; have g19 := Hs12'.out; omega))
              replace HG := Lib.hid (HG.out.grown hg9 (fun e9 => by have a1 := Hr.out.lt _ e9; have g0 := Hs1.out; have g1 := Hs2.out; have g2 := HsG.out; have g3 := Hs3.out; have g4 := Hs4.out; have g5 := Hs5.out; have g6 := Hs6.out; have g7 := Hs7.out; have g8 := Hs8.out; have g9 := HBXL.out; have g10 := HBYL.out; have g11 := Hs9.out; have g12 := Hs9'.out; have g13 := Hzper.out; have g14 := Hyper.out; have g15 := Hs9''.out; have g16 := Hs10.out; have g17 := Hs11.out; have g18 := Hs12.out; have g19 := Hs12'.out; omega))
              replace BX := Lib.hid (Below.grown BX.out hg9 (by have g0 := Hs1.out; have g1 := Hs2.out; have g2 := HsG.out; have g3 := Hs3.out; have g4 := Hs4.out; have g5 := Hs5.out; have g6 := Hs6.out; have g7 := Hs7.out; have g8 := Hs8.out; have g9 := HBXL.out; have g10 := HBYL.out; have g11 := Hs9.out; have g12 := Hs9'.out; have g13 := Hzper.out; have g14 := Hyper.out; have g15 := Hs9''.out; have g16 := Hs10.out; have g17 := Hs11.out; have g18 := Hs12.out; have g19 := Hs12'.out; omega) (fun q hq => Nat.le_trans (show w5.heap.size ≤ wc.heap.size by have g0 := Hs1.out; have g1 := Hs2.out; have g2 := HsG.out; have g3 := Hs3.out; have g4 := Hs4.out; have g5 := Hs5.out; have g6 := Hs6.out; have g7 := Hs7.out; have g8 := Hs8.out; have g9 := HBXL.out; have g10 := HBYL.out; have g11 := Hs9.out; have g12 := Hs9'.out; have g13 := Hzper.out; have g14 := Hyper.out; have g15 := Hs9''.out; have g16 := Hs10.out; have g17 := Hs11.out; have g18 := Hs12.out; have g19 := Hs12'.out; omega) (Hr.out.lt q hq).1))
              replace BK := Lib.hid (Below.grown BK.out hg9 (by have g0 := Hs1.out; have g1 := Hs2.out; have g2 := HsG.out; have g3 := Hs3.out; have g4 := Hs4.out; have g5 := Hs5.out; have g6 := Hs6.out; have g7 := Hs7.out; have g8 := Hs8.out; have g9 := HBXL.out; have g10 := HBYL.out; have g11 := Hs9.out; have g12 := Hs9'.out; have g13 := Hzper.out; have g14 := Hyper.out; have g15 := Hs9''.out; have g16 := Hs10.out; have g17 := Hs11.out; have g18 := Hs12.out; have g19 := Hs12'.out; omega) (fun q hq => Nat.le_trans (show w8.heap.size ≤ wc.heap.size by have g0 := Hs1.out; have g1 := Hs2.out; have g2 := HsG.out; have g3 := Hs3.out; have g4 := Hs4.out; have g5 := Hs5.out; have g6 := Hs6.out; have g7 := Hs7.out; have g8 := Hs8.out; have g9 := HBXL.out; have g10 := HBYL.out; have g11 := Hs9.out; have g12 := Hs9'.out; have g13 := Hzper.out; have g14 := Hyper.out; have g15 := Hs9''.out; have g16 := Hs10.out; have g17 := Hs11.out; have g18 := Hs12.out; have g19 := Hs12'.out; omega) (Hr.out.lt q hq).1))
              replace BL := Lib.hid (Below.grown BL.out hg9 (by have g0 := Hs1.out; have g1 := Hs2.out; have g2 := HsG.out; have g3 := Hs3.out; have g4 := Hs4.out; have g5 := Hs5.out; have g6 := Hs6.out; have g7 := Hs7.out; have g8 := Hs8.out; have g9 := HBXL.out; have g10 := HBYL.out; have g11 := Hs9.out; have g12 := Hs9'.out; have g13 := Hzper.out; have g14 := Hyper.out; have g15 := Hs9''.out; have g16 := Hs10.out; have g17 := Hs11.out; have g18 := Hs12.out; have g19 := Hs12'.out; omega) (fun q hq => Nat.le_trans (show wc.heap.size ≤ wc.heap.size by have g0 := Hs1.out; have g1 := Hs2.out; have g2 := HsG.out; have g3 := Hs3.out; have g4 := Hs4.out; have g5 := Hs5.out; have g6 := Hs6.out; have g7 := Hs7.out; have g8 := Hs8.out; have g9 := HBXL.out; have g10 := HBYL.out; have g11 := Hs9.out; have g12 := Hs9'.out; have g13 := Hzper.out; have g14 := Hyper.out; have g15 := Hs9''.out; have g16 := Hs10.out; have g17 := Hs11.out; have g18 := Hs12.out; have g19 := Hs12'.out; omega) (Hr.out.lt q hq).1))
              have Hs13 := Lib.hid hg9.size
              clear Hr HB HT HG1
              have Hr := Lib.hid hown9
              have HB := Lib.hid hb9
              clear hb9 hown9 hg9 hi9 hz90 hz91 hz92
              refine hK _ _ ⟨⟨⟨w13, HGR.out⟩, rfl⟩, ?_⟩
              clear hK K HGR
              have bp_0 := Hbp.out.cell (i := 0) rfl
              have bp_1 := Hbp.out.cell (i := 1) rfl
              have bq_0 := Hbq.out.cell (i := 0) rfl
              have bq_1 := Hbq.out.cell (i := 1) rfl
              have per_0 := Hper.out.cell (i := 0) rfl
              have per_1 := Hper.out.cell (i := 1) rfl
              have per_2 := Hper.out.cell (i := 2) rfl
              have per_3 := Hper.out.cell (i := 3) rfl
              try simp only [Act.put, List.setIfInBounds_toArray, List.set_cons_succ, List.set_cons_zero]
              repeat (refine tree_q rfl rfl ?_; go_big_quiet_step (fail); refine wpQuiet_nil ?_)
              refine tree_end ?_
              go_wp2_with fail
              go_roundw
              case rel => exact ⟨j + 1, _, _, by omega, by go_num, rfl, BL, Hr.out.eq HSN.out.symm rfl⟩
              case measure => simp [intOf]; omega
            · have hjn' : j = n := by omega
              subst hjn'
              have HLN := Lib.hid (zip_len (exF (grp k) (exI (grp k) c d)) l m j HL.out HM.out)
              have HT := Lib.hid (zip_take (exF (grp k) (exI (grp k) c d)) l m j HL.out HM.out)
              rw [HT.out] at Hr
              obtain ⟨g0, rfl⟩ := RowO.some Hr.out hn0
              go_wp2_with fail
              go_ret2
              exact ⟨HB.out, _, c9, by rw [HLN.out]; rfl, Hr.out.sl, by rw [HLN.out]; simp [hn0], by simp⟩
      · obtain ⟨rfl, rfl⟩ := HR9.out rfl rfl
        clear HR0 HR6 HR9
        go_wp2_with fail
        go_ret2
        exact extR_none 9 HB.out

end Go.Proofs.Ytipgjookfdkciaa

/- What every law's row wants: two closed facts, and small words for opening arguments. -/
namespace Go.Proofs.Ytipgjookfdkciaa
open Go.ChangeShapes Go.WideShapes Go.ChangeAt Go.RowKit

theorem law_own : ownKnob Try.prog.godebug = none := by kernel_rfl
theorem law_laidOut : laidOutB Try.prog = true := by kernel_rfl

section
variable {H : Type} {enc : TypeId × Value → H} {P : Program} {w : World}

theorem add_plain (b off i : Nat) : (⟨b, off, none⟩ : Addr).add i = ⟨b, off + i, none⟩ := by unfold Addr.add; split <;> simp_all

/-- An argument that is a slice of integers: its numbers, and that it reads. -/
theorem open_Sl_ints {k : IntKind} {t e : TypeId} {a : Option Addr} {len cap : Nat} {d : DataW H} {p : List MemPlace} (ht : P.underlying t = some (.slice e)) (he : P.underlying e = some (.int k)) (hc : P.cellsOf e = 1)
    (h : DataW.Trod enc P w 0 (fun _ => true) true t (.slice a len cap) d p) (hlt : ∀ x ∈ p, x.block < w.heap.size) :
    ∃ xs : List Int, len = xs.length ∧ Sl w w.heap.size a (xs.map (Value.int k)) ∧ (∀ x ∈ xs, (Lit.int k x).wf = true) ∧ ((len = 0) ∨ ∃ zs : List Int, len ≤ zs.length ∧ d = .slice (lits k (zs.take len)) (lits k (zs.drop len))) := by
  obtain ⟨fuel, hf⟩ := h
  rcases open_ints ht he hc hf with ⟨hcs, _⟩ | ⟨x, l, c, zs, hcs, _, hl, hm, hz, hx, hcell, hwz⟩
  · simp [Value.cells] at hcs
    obtain ⟨rfl, rfl, rfl⟩ := hcs
    exact ⟨[], rfl, Or.inl rfl, by simp, Or.inl rfl⟩
  · simp [Value.cells] at hcs
    obtain ⟨rfl, rfl, rfl⟩ := hcs
    simp only [Prod.mk.injEq] at hx
    obtain ⟨hd, rfl⟩ := hx
    simp only [if_true] at hz
    by_cases h0 : len = 0
    · subst h0
      exact ⟨[], rfl, Or.inl rfl, by simp, Or.inl rfl⟩
    · obtain ⟨b, off, spot⟩ := x
      have hspot : spot = none := by simpa [Addr.add] using World.cell?_spot (hcell 0 (by omega))
      subst hspot
      have hbW : b < w.heap.size := hlt (.cell b off) (MemPlace.mem_row.2 ⟨0, by omega, by simp⟩)
      refine ⟨zs.take len, by rw [List.length_take]; omega, Or.inr ⟨b, off, rfl, hbW, ?_⟩, fun x hx => hwz x (List.mem_of_mem_take hx), Or.inr ⟨zs, by omega, hd⟩⟩
      intro i v hv
      have hi : i < len := by
        have := (List.getElem?_eq_some_iff.1 hv).1
        simp at this; omega
      have := hcell i (by omega)
      rw [add_plain] at this
      rw [this, ← hv]
      simp [List.getD, hi, List.getElem?_eq_getElem (show i < zs.length by omega)]

/-- An argument that is a slice of one-cell elements of any kind: its cells, each with its own reading. -/
theorem open_Sl_any {t e : TypeId} {a : Option Addr} {len cap : Nat} {d : DataW H} {p : List MemPlace} (ht : P.underlying t = some (.slice e)) (hc : P.cellsOf e = 1)
    (h : DataW.Trod enc P w 0 (fun _ => true) true t (.slice a len cap) d p) (hlt : ∀ x ∈ p, x.block < w.heap.size) :
    ∃ cs : List Value, len = cs.length ∧ Sl w w.heap.size a cs ∧
      ((len = 0) ∨ ∃ (n : Nat) (ys rest : List (DataW H × List MemPlace)), d = .slice (ys.map (·.1)) (rest.map (·.1)) ∧ ys.length = len ∧ (∀ y ∈ ys, ∀ q ∈ y.2, q ∈ p) ∧
        ∀ (i : Nat) (c : Value), cs[i]? = some c → ∃ y, ys[i]? = some y ∧ DataW.trod enc P w 0 (fun _ => true) true n e [c] = some y) := by
  obtain ⟨fuel, hf⟩ := h
  rcases DataW.trod_slice ht hf with ⟨hcs, _⟩ | ⟨x, l, c, elems, rest, n, _, hcs, hx, hb, hl, hm, hlen, hel, _, _⟩
  · simp [Value.cells] at hcs
    obtain ⟨rfl, rfl, rfl⟩ := hcs
    exact ⟨[], rfl, Or.inl rfl, Or.inl rfl⟩
  · simp [Value.cells] at hcs
    obtain ⟨rfl, rfl, rfl⟩ := hcs
    simp only [Prod.mk.injEq] at hx
    obtain ⟨hd, rfl⟩ := hx
    by_cases h0 : len = 0
    · subst h0
      exact ⟨[], rfl, Or.inl rfl, Or.inl rfl⟩
    have each : ∀ i, i < len → ∃ c y, w.cell? (x.add i) = some c ∧ elems[i]? = some y ∧ DataW.trod enc P w 0 (fun _ => true) true n e [c] = some y := by
      intro i hi
      have h1 := hel i hi
      rw [hc, Nat.mul_one] at h1
      have h2 : elems[i]? = some (elems[i]'(by omega)) := List.getElem?_eq_getElem (by omega)
      rw [h2, Option.bind_eq_some_iff] at h1
      obtain ⟨cs', hcs', hy⟩ := h1
      obtain ⟨h3, h4, h5⟩ := World.cells?_some hcs'
      obtain ⟨c, rfl⟩ : ∃ c, cs' = [c] := by
        match cs', h3 with
        | [c], _ => exact ⟨c, rfl⟩
      exact ⟨c, _, cell_of_cells?_one hcs', h2, hy⟩
    obtain ⟨b, off, spot⟩ := x
    obtain ⟨c0, y0, hc0, _⟩ := each 0 (by omega)
    have hspot : spot = none := by simpa [Addr.add] using World.cell?_spot hc0
    subst hspot
    have hbW : b < w.heap.size := hlt (.cell b off) (List.mem_append_left _ (MemPlace.mem_row.2 ⟨0, by rw [hc]; omega, by simp⟩))
    have hget : ∀ i c, ((List.range len).map (fun i => (w.cell? ⟨b, off + i, none⟩).getD (.bool false)))[i]? = some c → i < len ∧ w.cell? ⟨b, off + i, none⟩ = some c := by
      intro i c hi
      have hil : i < len := by
        have := (List.getElem?_eq_some_iff.1 hi).1
        simpa using this
      obtain ⟨c', y, h1, _⟩ := each i hil
      rw [add_plain] at h1
      simp [hil, h1] at hi
      exact ⟨hil, by rw [h1, hi]⟩
    refine ⟨(List.range len).map (fun i => (w.cell? ⟨b, off + i, none⟩).getD (.bool false)), by simp, Or.inr ⟨b, off, rfl, hbW, fun i v hv => (hget i v hv).2⟩, Or.inr ⟨n, elems, rest, hd, hlen, ?_, ?_⟩⟩
    · intro y hy q hq
      exact List.mem_append_right _ (List.mem_flatMap.2 ⟨y, List.mem_append_left _ hy, hq⟩)
    · intro i c hi
      obtain ⟨hil, hcell⟩ := hget i c hi
      obtain ⟨c', y, h1, h2, h3⟩ := each i hil
      rw [add_plain, hcell] at h1
      simp only [Option.some.injEq] at h1
      exact ⟨y, h2, by rw [h1]; exact h3⟩

/-- A list of values each of which is of one shape. -/
theorem list_shape {α : Type} (mk : α → Value) : ∀ cs : List Value, (∀ c ∈ cs, ∃ a, c = mk a) → ∃ xs : List α, cs = xs.map mk
  | [], _ => ⟨[], rfl⟩
  | c :: cs, h => by
    obtain ⟨a, rfl⟩ := h c (by simp)
    obtain ⟨xs, rfl⟩ := list_shape mk cs (fun c hc => h c (by simp [hc]))
    exact ⟨a :: xs, rfl⟩

/-- An argument that is a slice of booleans. -/
theorem open_Sl_bools {t e : TypeId} {a : Option Addr} {len cap : Nat} {d : DataW H} {p : List MemPlace} (ht : P.underlying t = some (.slice e)) (he : P.underlying e = some .bool) (hc : P.cellsOf e = 1)
    (h : DataW.Trod enc P w 0 (fun _ => true) true t (.slice a len cap) d p) (hlt : ∀ x ∈ p, x.block < w.heap.size) :
    ∃ bs : List Bool, len = bs.length ∧ Sl w w.heap.size a (bs.map Value.bool) := by
  obtain ⟨cs, hl, hs, hk⟩ := open_Sl_any ht hc h hlt
  obtain ⟨bs, rfl⟩ := list_shape Value.bool cs (by
    intro c hcm
    obtain ⟨i, hi⟩ := List.getElem?_of_mem hcm
    rcases hk with h0 | ⟨n, ys, rest, _, _, _, hy⟩
    · rw [h0] at hl
      have := List.eq_nil_of_length_eq_zero hl.symm
      subst this
      simp at hcm
    · obtain ⟨y, _, ht2⟩ := hy i c hi
      obtain ⟨b, hb, _⟩ := DataW.trod_bool he ht2
      exact ⟨b, by simpa using hb⟩)
  exact ⟨bs, by simpa using hl, hs⟩

/-- A struct of one-cell fields, by value: its cells, each with its own reading. -/
theorem open_fields {r : Reach} {b0 base : Nat} {spare : Nat → Bool} {held : Bool} {t : TypeId} {fs : Array Go.Field} {v : Value} {d : DataW H} {p : List MemPlace} (hs : P.underlying t = some (.struct fs)) (hone : Go.Deep.oneCellFields P fs = true) (hC : P.cellsOf t = fs.size)
    (hv : Value.okWide P w r b0 t v) (h : DataW.Trod enc P w base spare held t v d p) :
    ∃ (cs : Array Value) (ys : List (DataW H × List MemPlace)) (n : Nat), v = .agg cs ∧ cs.size = fs.size ∧ d = .agg (ys.map (·.1)) ∧ p = ys.flatMap (·.2) ∧ ys.length = fs.size ∧
      ∀ (j : Nat) (f : Go.Field), fs[j]? = some f → ∃ c y, cs[j]? = some c ∧ ys[j]? = some y ∧ DataW.trod enc P w base spare held n f.type [c] = some y := by
  obtain ⟨cs, rfl, hsz⟩ := okWide_struct hs hv
  obtain ⟨fuel, hf⟩ := h
  obtain ⟨ys, n, _, hx, hcl, hlen, hg⟩ := DataW.trod_struct hs hf
  simp only [Prod.mk.injEq] at hx
  refine ⟨cs, ys, n, rfl, by omega, hx.1, hx.2, hlen, fun j f hj => ?_⟩
  obtain ⟨ho, hk⟩ := Go.Deep.hone_of hone j f hj
  have hjf : j < fs.size := (Array.getElem?_eq_some_iff.1 hj).1
  have hjc : j < cs.size := by omega
  have h1 := hg j f hj
  have e : ((Value.agg cs).cells.toList.drop f.offset).take (P.cellsOf f.type) = [cs[j]] := by
    rw [ho, hk]
    show (cs.toList.drop j).take 1 = _
    rw [List.drop_eq_getElem_cons (by simpa using hjc)]
    simp
  rw [e] at h1
  have hys : ys[j]? = some (ys[j]'(by omega)) := List.getElem?_eq_getElem (by omega)
  exact ⟨cs[j], _, by simp [hjc], hys, h1.trans hys⟩

/-- A field that is a slice: its value's form. -/
theorem field_slice {base fuel : Nat} {spare : Nat → Bool} {held : Bool} {t e : TypeId} {c : Value} {y : DataW H × List MemPlace} (ht : P.underlying t = some (.slice e)) (h : DataW.trod enc P w base spare held fuel t [c] = some y) :
    ∃ a len cap, c = .slice a len cap := by
  rcases DataW.trod_slice ht h with ⟨hc, _⟩ | ⟨a, len, cap, _, _, _, _, hc, _⟩
  · simp at hc; exact ⟨_, _, _, hc⟩
  · simp at hc; exact ⟨_, _, _, hc⟩

theorem field_int {k : IntKind} {base fuel : Nat} {spare : Nat → Bool} {held : Bool} {t : TypeId} {c : Value} {y : DataW H × List MemPlace} (ht : P.underlying t = some (.int k)) (h : DataW.trod enc P w base spare held fuel t [c] = some y) :
    ∃ n, c = .int k n ∧ (Lit.int k n).wf = true := by
  obtain ⟨n, hc, _, hw⟩ := DataW.trod_int ht h
  simp at hc; exact ⟨n, hc, hw⟩

theorem array5 {cs : Array Value} (h : cs.size = 5) : ∃ a b c d e, cs = #[a, b, c, d, e] := by
  obtain ⟨l⟩ := cs
  match l, h with
  | [a, b, c, d, e], _ => exact ⟨a, b, c, d, e, rfl⟩

end
end Go.Proofs.Ytipgjookfdkciaa

/- Claims as the package sigma takes them: what lies in memory, what is wrong with them, what is answered. No condition. -/
namespace Go.Proofs.Ytipgjookfdkciaa
open Go.RowKit

/-- A claim that came in: where its lists lie. -/
structure ClaimA where
  ab : Option Addr
  cb : Nat
  bases : List ByteArray
  ai : Option Addr
  ci : Nat
  images : List ByteArray
def ClaimA.cells (c : ClaimA) : List Value := [.slice c.ab c.bases.length c.cb, .slice c.ai c.images.length c.ci]
theorem ClaimA.cells_len (c : ClaimA) : c.cells.length = 2 := rfl
structure ClaimA.At (w : World) (c : ClaimA) : Prop where
  b : Sl w w.heap.size c.ab (c.bases.map Value.string)
  i : Sl w w.heap.size c.ai (c.images.map Value.string)
theorem ClaimA.At.up {w w' : World} {c : ClaimA} (h : c.At w) (hb : Below w.heap.size w w') : c.At w' := ⟨h.b.up hb, h.i.up hb⟩
structure ClaimsAt (w : World) (a : Option Addr) (l : List ClaimA) : Prop where
  s : Sl w w.heap.size a (l.flatMap ClaimA.cells)
  e : ∀ c ∈ l, ClaimA.At w c
theorem ClaimsAt.up {w w' : World} {a : Option Addr} {l : List ClaimA} (h : ClaimsAt w a l) (hb : Below w.heap.size w w') : ClaimsAt w' a l := ⟨h.s.up hb, fun c hc => (h.e c hc).up hb⟩
theorem ClaimsAt.one {w : World} {a : Option Addr} {l : List ClaimA} (h : ClaimsAt w a l) (i : Nat) (hi : i < l.length) : ClaimA.At w l[i] := h.e _ (List.getElem_mem hi)

def cLong (c : ClaimA) : Bool := decide (8 < c.bases.length) || decide (8 < c.images.length)
def cForm (c : ClaimA) : Bool := decide (c.bases.length = 0) || decide (c.bases.length ≠ c.images.length)
def shapeE (l : List ClaimA) : Nat := if (decide (64 < l.length) || l.any cLong) = true then 3 else if (decide (l.length = 0) || l.any cForm) = true then 2 else 0
def cElems (G : GP) (c : ClaimA) : Bool := c.bases.all (isEl G.q.m G.size) && c.images.all (isEl G.q.m G.size)
def wrongE (G : GP) (l : List ClaimA) : Nat := if shapeE l ≠ 0 then shapeE l else if l.all (cElems G) = true then 0 else 7
def scE (G : GP) (n : Nat) (l : List ByteArray) : Nat := if l.length = n then if l.all (isSc G.q.m G.size) = true then 0 else 6 else 2

theorem shape_ok {l : List ClaimA} (h : shapeE l = 0) : 0 < l.length ∧ l.length ≤ 64 ∧ ∀ c ∈ l, 0 < c.bases.length ∧ c.bases.length ≤ 8 ∧ c.images.length = c.bases.length := by
  unfold shapeE at h
  split at h
  · cases h
  · rename_i h1
    split at h
    · cases h
    · rename_i h2
      simp only [Bool.or_eq_true, decide_eq_true_eq, List.any_eq_true, not_or, not_exists, not_and] at h1 h2
      refine ⟨by omega, by omega, fun c hc => ?_⟩
      have h3 := h1.2 c hc
      have h4 := h2.2 c hc
      unfold cLong at h3
      unfold cForm at h4
      simp only [Bool.or_eq_true, decide_eq_true_eq, not_or, ne_eq, Decidable.not_not] at h3 h4
      omega
theorem wrong_ok {G : GP} {l : List ClaimA} (h : wrongE G l = 0) : shapeE l = 0 ∧ l.all (cElems G) = true := by
  unfold wrongE at h
  split at h
  · rename_i h1; exact absurd h h1
  · rename_i h1
    split at h
    · rename_i h2; exact ⟨by omega, h2⟩
    · cases h

/-- What is said first; what comes back. -/
def firstT (G : GP) (x : ByteArray) (b : ByteArray) : ByteArray := textS (lowN G (numOf b ^ numOf x)) G.size
def backT (G : GP) (c z : ByteArray) (b m : ByteArray) : ByteArray := textS (lowN G (numOf b ^ numOf z * numOf m ^ ((G.q.m - numOf c) % G.q.m))) G.size
def firstL (G : GP) (l : List ClaimA) (xs : List ByteArray) : List (List ByteArray) := List.zipWith (fun c x => c.bases.map (firstT G x)) l xs
def backL (G : GP) (l : List ClaimA) (c : ByteArray) (zs : List ByteArray) : List (List ByteArray) := List.zipWith (fun (k : ClaimA) z => List.zipWith (backT G c z) k.bases k.images) l zs
def holdL (G : GP) (l : List ClaimA) (xs : List ByteArray) : Bool := (List.zipWith (fun (k : ClaimA) x => (List.zipWith (fun b m => decide (firstT G x b = m)) k.bases k.images).all id) l xs).all id

/-- A list of lists in memory. -/
structure RowA where
  a : Option Addr
  c : Nat
  l : List ByteArray
def RowA.cells (r : RowA) : List Value := [.slice r.a r.l.length r.c]
theorem RowA.cells_len (r : RowA) : r.cells.length = 1 := rfl
def RowA.At (w : World) (r : RowA) : Prop := Sl w w.heap.size r.a (r.l.map Value.string)
structure RowsAt (w : World) (a : Option Addr) (l : List RowA) : Prop where
  s : Sl w w.heap.size a (l.flatMap RowA.cells)
  e : ∀ r ∈ l, RowA.At w r
theorem RowA.At.up {w w' : World} {r : RowA} (h : r.At w) (hb : Below w.heap.size w w') : r.At w' := Sl.up h hb
theorem RowsAt.up {w w' : World} {a : Option Addr} {l : List RowA} (h : RowsAt w a l) (hb : Below w.heap.size w w') : RowsAt w' a l := ⟨h.s.up hb, fun c hc => (h.e c hc).up hb⟩
theorem RowsAt.one {w : World} {a : Option Addr} {l : List RowA} (h : RowsAt w a l) (i : Nat) (hi : i < l.length) : RowA.At w l[i] := h.e _ (List.getElem_mem hi)

end Go.Proofs.Ytipgjookfdkciaa
