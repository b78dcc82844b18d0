/- The document's cover. No condition. -/
import Derived.Test.YtbjhcpchljjmhaaCoverList
namespace Go.Proofs.Ytbjhcpchljjmhaa
open Go.RowKit

def DownPost (w : World) (lo hi : Nat) (e : Ending) (w' : World) : Prop := ∃ v, e = .returned v ∧ MadeS w w' v (cover lo hi)

theorem MadeS.nil (w : World) : MadeS w w (.slice none 0 0) [] := ⟨World.ownsRow_nil _ _ _ _, by simp [Value.ownBlock], Below.refl _ _⟩

theorem flat_cells (gs : List (Int × Int)) : ∀ u ∈ flat gs, u.oneCell' = true := by
  intro u hu
  simp only [flat, List.mem_flatMap] at hu
  obtain ⟨g, _, hg⟩ := hu
  simp at hg
  rcases hg with rfl | rfl <;> rfl

theorem down_stop (k lo d : Nat) (h1 : 2 ^ k ≤ d) (h2 : lo % 2 ^ k = 0) : down k lo d = 2 ^ k := by
  cases k with
  | zero => rfl
  | succ k => rw [down, if_pos ⟨h1, h2⟩]

theorem down_more (k m lo d : Nat) (hd : 0 < d) (hm : m = 2 ^ k) (hs : ¬ (m ≤ d ∧ lo % m = 0)) : ∃ k', k = k' + 1 ∧ m / 2 = 2 ^ k' ∧ down k lo d = down k' lo d := by
  cases k with
  | zero =>
    exfalso
    apply hs
    subst hm
    simp [Nat.mod_one]
    omega
  | succ k =>
    refine ⟨k, rfl, by rw [hm, Nat.pow_succ]; omega, ?_⟩
    rw [down, if_neg (by rw [← hm]; exact hs)]

set_option maxHeartbeats 2000000 in
theorem Parts_any : ∀ (N lo hi : Nat) (w : World), hi - lo ≤ N → lo ≤ hi → hi ≤ 1048576 → Calls Try.prog 31 #[.int .i64 lo, .int .i64 hi] w (DownPost w lo hi) := by
  intro N
  induction N with
  | zero =>
    intro lo hi w h1 h2 h3
    obtain rfl : lo = hi := by omega
    go_enter Try.func31, Try.ntmps31
    go_wp2
    go_ret
    exact ⟨_, rfl, by rw [cover_none _ _ (Nat.le_refl _)]; exact MadeS.nil w⟩
  | succ N ih =>
    intro lo hi w h1 h2 h3
    by_cases he : lo = hi
    · subst he
      go_enter Try.func31, Try.ntmps31
      go_wp2
      go_ret
      exact ⟨_, rfl, by rw [cover_none _ _ (Nat.le_refl _)]; exact MadeS.nil w⟩
    · have hlt : lo < hi := by omega
      have HIH := Lib.hid ih
      clear ih
      have hne : ((lo : Int) == (hi : Int)) = false := by simp; omega
      go_enter Try.func31, Try.ntmps31
      go_wp2
      go_loopw [5] (fun v wr => ∃ k m : Nat, k ≤ 20 ∧ v = .int .i64 m ∧ Hid (m = 2 ^ k) ∧ Hid (down 20 lo (hi - lo) = down k lo (hi - lo)) ∧ wr = w) (fun v _ => (intOf v).toNat)
      case atStart => exact ⟨20, 1048576, Nat.le_refl _, rfl, rfl, rfl, rfl⟩
      case round =>
        obtain ⟨k, m, hk, rfl, HM, HD, rfl⟩ := hrel
        have hm1 : 1 ≤ m := by rw [HM.out]; exact Nat.one_le_two_pow
        have hm2 : m ≤ 1048576 := by rw [HM.out]; exact Nat.le_trans (Nat.pow_le_pow_right (by omega) hk) (Nat.le_refl (2 ^ 20))
        have hm0 : ¬ m = 0 := by omega
        by_cases hs : m ≤ hi - lo ∧ lo % m = 0
        · have hmr : ((lo : Int) % (m : Int) != 0) = false := by
            have h : ((lo : Int) % (m : Int)) = ((lo % m : Nat) : Int) := by simp
            rw [h, hs.2]; rfl
          have hgt : decide ((hi : Int) - (lo : Int) < (m : Int)) = false := by simp; omega
          have hdm : down 20 lo (hi - lo) = m := by rw [HD.out, HM.out]; exact down_stop k lo (hi - lo) (by rw [← HM.out]; exact hs.1) (by rw [← HM.out]; exact hs.2)
          have HDM := Lib.hid hdm
          have hle : lo + m ≤ hi := by omega
          clear hdm hs
          go_wp2_with fail
          have hih := HIH.out (lo + m) hi (wr.alloc (.cells #[.int .i64 lo, .int .i64 ((lo : Int) + (m : Int))] 39)) (by omega) (by omega) h3
          rw [Int.natCast_add] at hih
          refine hih.mono ?_
          rintro e w3 ⟨v, rfl, hmade⟩
          have hlit : (wr.alloc (.cells #[.int .i64 (lo : Int), .int .i64 ((lo : Int) + (m : Int))] 39)).ownsRow 0 39 2 (.slice (some ⟨wr.heap.size, 0, none⟩) 1 1) 1 (flat [((lo : Int), (lo : Int) + (m : Int))]) :=
            ⟨rfl, Or.inr ⟨wr.heap.size, 1, #[.int .i64 (lo : Int), .int .i64 ((lo : Int) + (m : Int))], rfl, Nat.zero_le _, World.alloc_heap_new _ _, Nat.le_refl _, by unfold maxLen; omega, rfl, rfl⟩⟩
          have hlit3 := hlit.kept (below_grown hmade.below) (Classical.em _)
          have hbl : Below wr.heap.size wr w3 := ((Below.refl _ wr).alloc (Nat.le_refl _) _).trans (hmade.below.mono (by simp))
          have HL := Lib.hid hlit3
          have HMD := Lib.hid hmade
          have HBL := Lib.hid hbl
          clear hlit hlit3 hmade hbl hih
          have hcs := cover_some lo hi (by omega)
          rw [HDM.out] at hcs
          have HCS := Lib.hid hcs
          have hlen := cover_length (lo + m) hi
          clear hcs
          obtain ⟨ig, hig, gz0, gz1, gz2⟩ := info_parts infoSpan
          generalize hG : cover (lo + m) hi = G at *
          clear hG
          go_wp2_with (at_builtin; refine wpList_join w3 rfl _ _ 35 rfl 39 ig _ 2 16 Try.underlying35 hig gz0 gz1 gz2 rfl (by omega) (.slice (some ⟨wr.heap.size, 0, none⟩) 1 1) 1 (flat [((lo : Int), (lo : Int) + (m : Int))]) rfl HL.out v G.length (flat G) rfl HMD.out.own (flat_cells _) (by omega) (by unfold maxLen; omega) ?_)
          intro v' w4 hown hp
          have fin : DownPost wr lo hi (.returned v') w4 := by
            have hz := HBL.out.size
            have e1 : cover lo hi = [((lo : Int), (lo : Int) + (m : Int))] ++ G := by rw [HCS.out, Int.natCast_add]; rfl
            refine ⟨v', rfl, ?_, ?_, ?_⟩
            · rw [e1, flat_append, List.length_append]; exact hown
            · intro q hq
              rcases hp.here q hq with h | h
              · simp [Value.ownBlock] at h; omega
              · omega
            · exact hp.below HBL.out hz (fun q hq => by simp [Value.ownBlock] at hq; omega)
          have FIN := Lib.hid fin
          clear fin hown hp
          go_wp2_with fail
          go_ret
          exact FIN.out
        · have hgo := down_more k m lo (hi - lo) (by omega) HM.out hs
          obtain ⟨k', rfl, hm', hd'⟩ := hgo
          have HM' := Lib.hid hm'
          have HD' := Lib.hid hd'
          clear hm' hd'
          by_cases ha : m ≤ hi - lo
          · have hb : ¬ lo % m = 0 := fun e => hs ⟨ha, e⟩
            have hmr : ((lo : Int) % (m : Int) != 0) = true := by
              have h : ((lo : Int) % (m : Int)) = ((lo % m : Nat) : Int) := by simp
              rw [h]; simp; omega
            have hgt : decide ((hi : Int) - (lo : Int) < (m : Int)) = false := by simp; omega
            clear hs hb
            go_wp2_with fail
            go_roundw
            case rel => exact ⟨k', m / 2, by omega, by go_num, HM'.out, by show _ = _; rw [HD.out, HD'.out], trivial⟩
            case measure => simp [intOf]; omega
          · have hgt : decide ((hi : Int) - (lo : Int) < (m : Int)) = true := by simp; omega
            clear hs
            go_wp2_with fail
            go_roundw
            case rel => exact ⟨k', m / 2, by omega, by go_num, HM'.out, by show _ = _; rw [HD.out, HD'.out], trivial⟩
            case measure => simp [intOf]; omega

set_option maxHeartbeats 1000000 in
theorem right_any (lo hi : Int) (w : World) : Calls Try.prog 30 #[.int .i64 lo, .int .i64 hi, .int .i64 1048576] w fun e w' => e = .returned (.bool (decide (0 ≤ lo ∧ lo ≤ hi ∧ hi ≤ 1048576))) ∧ w' = w := by
  by_cases h1 : 0 ≤ lo <;> by_cases h2 : lo ≤ hi <;> by_cases h3 : hi ≤ 1048576 <;>
    (go_enter Try.func30, Try.ntmps30
     go_wp2
     go_ret
     exact ⟨ret_bool (by simp [h1, h2, h3]), rfl⟩)

set_option maxHeartbeats 1000000 in
theorem refCover_any (lo hi : Int) (w : World) : Calls Try.prog 13 #[.int .i64 lo, .int .i64 hi] w (CoverPost w lo hi) := by
  by_cases hg : 0 ≤ lo ∧ lo ≤ hi ∧ hi ≤ 1048576
  · obtain ⟨l, rfl⟩ : ∃ l : Nat, lo = l := ⟨lo.toNat, by omega⟩
    obtain ⟨r, rfl⟩ : ∃ r : Nat, hi = r := ⟨hi.toNat, by omega⟩
    have hd : decide ((0 : Int) ≤ (l : Int) ∧ (l : Int) ≤ (r : Int) ∧ (r : Int) ≤ 1048576) = true := decide_eq_true hg
    have HD := Lib.hid hd
    clear hd
    go_enter Try.func13, Try.ntmps13
    go_wp2_with fail
    refine (right_any l r w).mono ?_
    rintro e w1 ⟨rfl, rfl⟩
    rw [HD.out]
    go_wp2_with fail
    refine (Parts_any (r - l) l r w1 (Nat.le_refl _) (by omega) (by omega)).mono ?_
    rintro e w2 ⟨v, rfl, hm⟩
    have fin : CoverPost w1 l r (.returned (.tuple #[v, .int .i64 0])) w2 := by
      unfold CoverPost
      rw [if_pos hg]
      exact ⟨v, rfl, by simpa using hm⟩
    clear hm
    go_wp2_with fail
    go_ret2
    exact fin
  · have hd : decide (0 ≤ lo ∧ lo ≤ hi ∧ hi ≤ 1048576) = false := decide_eq_false hg
    have HD := Lib.hid hd
    clear hd
    go_enter Try.func13, Try.ntmps13
    go_wp2_with fail
    refine (right_any lo hi w).mono ?_
    rintro e w1 ⟨rfl, rfl⟩
    rw [HD.out]
    go_wp2_with fail
    go_ret2
    unfold CoverPost
    rw [if_neg hg]
    exact ⟨rfl, Below.refl _ _⟩

end Go.Proofs.Ytbjhcpchljjmhaa
