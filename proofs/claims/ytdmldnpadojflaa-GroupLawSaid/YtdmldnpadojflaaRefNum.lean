/- The document's numbers: Of, Plus, Times. No condition. -/
import Derived.Test.YtdmldnpadojflaaRefBase
namespace Go.Proofs.Ytdmldnpadojflaa
open Go.RowKit

theorem infoInt3 : (Try.prog.info? 3).map (fun i => (i.zero, i.size, i.bytes)) = some (some (.int .i64 0), 1, 8) := by kernel_rfl

/-- A row of the call's own, of k digits of n. -/
structure OwnD (W w : World) (v : Value) (n k : Nat) : Prop where
  own : w.ownsRow 0 3 1 v k ((digsTo n k).map dV)
  new_ : ∀ q, v.ownBlock = some q → W.heap.size ≤ q
  below : Below W.heap.size W w

theorem OwnD.nil (W : World) (n : Nat) : OwnD W W (.slice none 0 0) n 0 := ⟨World.ownsRow_nil _ _ _ _, fun q h => by simp [Value.ownBlock] at h, Below.refl _ _⟩

theorem OwnD.push {W w w1 : World} {v : Value} {n k g c : Nat} (h : OwnD W w v n k) (hown : w1.ownsRow 0 3 1 (.slice (some ⟨g, 0, none⟩) (k + 1) c) (k + 1) ((digsTo n k).map dV ++ [.int .i64 (dg DD n k : Int)])) (hp : Pushed w w1 v g) : OwnD W w1 (.slice (some ⟨g, 0, none⟩) (k + 1) c) n (k + 1) :=
  ⟨by rw [digsTo_succ, List.map_append]; exact hown, hp.from_ h.below.size h.new_, hp.below h.below h.below.size h.new_⟩

theorem own_form3 {w : World} {base e k n : Nat} {v : Value} {xs : List Value} (h : w.ownsRow base e k v n xs) : ∃ a c, v = .slice a n c ∧ (n = 0 ∨ ∃ g, a = some ⟨g, 0, none⟩ ∧ g < w.heap.size) := by
  rcases h.2 with ⟨hv, h0⟩ | ⟨g, cap, cur, hv, _, hg, _⟩
  · subst h0; exact ⟨none, 0, hv, Or.inl rfl⟩
  · exact ⟨_, cap, hv, Or.inr ⟨g, rfl, (Array.getElem?_eq_some_iff.1 hg).1⟩⟩

theorem own_cap {w : World} {base e k n g c : Nat} {xs : List Value} (h : w.ownsRow base e k (.slice (some ⟨g, 0, none⟩) n c) n xs) : n ≤ c ∧ c ≤ maxLen := by
  rcases h.2 with ⟨hv, _⟩ | ⟨g', cap, cur, hv, _, _, h1, h2⟩
  · cases hv
  · cases hv
    exact ⟨h1, h2.1⟩

theorem sl_of_own {w : World} {base e n : Nat} {a : Option Addr} {c : Nat} {xs : List Value} (h : w.ownsRow base e 1 (.slice a n c) n xs) : Sl w w.heap.size a xs := by
  rcases h.2 with ⟨hv, h0⟩ | ⟨g, cap, cur, hv, hb, hg, hr⟩
  · have := h.1; subst h0; left; exact List.length_eq_zero_iff.1 (by simpa using this)
  · simp only [Value.slice.injEq] at hv
    obtain ⟨rfl, _, rfl⟩ := hv
    refine Or.inr ⟨g, 0, rfl, (Array.getElem?_eq_some_iff.1 hg).1, fun i u hu => ?_⟩
    have hi : i < n * 1 := by have := (List.getElem?_eq_some_iff.1 hu).1; rw [h.1] at this; exact this
    rw [Nat.zero_add, h.cellAt i hi]; exact hu

theorem dl_iff (n j : Nat) : 0 < n / DD ^ j ↔ j < dl n := by
  rcases Nat.lt_or_ge j (dl n) with h | h
  · have hn : n ≠ 0 := by rintro rfl; rw [dl_zero] at h; omega
    have h1 := dl_le n hn
    have h2 := Nat.pow_le_pow_right (n := DD) (by decide) (show j ≤ dl n - 1 by omega)
    exact ⟨fun _ => h, fun _ => Nat.div_pos (by omega) (Nat.pow_pos (by decide))⟩
  · have h1 := lt_dl n
    have h2 := Nat.pow_le_pow_right (n := DD) (by decide) h
    rw [Nat.div_eq_of_lt (by omega)]
    omega


set_option maxHeartbeats 1000000 in
theorem refOf_any (n : Nat) (hn : n ≤ 9223372036854775807) (w : World) : Calls Try.prog 20 #[.int .i64 (n : Int)] w fun e w' => NumR w e w' n := by
  obtain ⟨i0, hi, hz0, hz1, hz2⟩ := info_parts infoInt3
  have hdl : dl n ≤ 4 := dl_of_lt n 4 (by show n < 65536 ^ 4; omega)
  go_enter Try.func20, Try.ntmps20
  go_wp2_with fail
  go_loopw [0, 3] (fun x u wr => ∃ j : Nat, j ≤ dl n ∧ x = .int .i64 (n / DD ^ j : Nat) ∧ Hid (OwnD w wr u n j)) (fun x _ _ => (intOf x).toNat)
  case atStart => exact ⟨0, Nat.zero_le _, by simp, OwnD.nil w n⟩
  case round =>
    obtain ⟨j, hj, rfl, HO⟩ := hrel
    have hle : n / DD ^ j ≤ n := Nat.div_le_self _ _
    have hiff := dl_iff n j
    by_cases hjl : j < dl n
    · have hpos := hiff.2 hjl
      have hdg : ((n / DD ^ j : Nat) : Int) % 65536 = (dg DD n j : Int) := by
        unfold dg
        generalize n / DD ^ j = x
        show (x : Int) % 65536 = ((x % 65536 : Nat) : Int)
        omega
      have hnx : ((n / DD ^ j : Nat) : Int) / 65536 = ((n / DD ^ (j + 1) : Nat) : Int) := by
        rw [Nat.pow_succ, ← Nat.div_div_eq_div_mul]
        generalize n / DD ^ j = x
        show (x : Int) / 65536 = ((x / 65536 : Nat) : Int)
        omega
      have hdec : n / DD ^ (j + 1) < n / DD ^ j := by
        rw [Nat.pow_succ, ← Nat.div_div_eq_div_mul]
        exact Nat.div_lt_self hpos (by decide)
      clear hiff
      generalize n / DD ^ j = x at *
      generalize hx1 : n / DD ^ (j + 1) = x1 at *
      have HX1 := Lib.hid hx1
      clear hx1
      generalize hd : dg DD n j = d at *
      have HD := Lib.hid hd
      clear hd
      go_wp2_with (at_builtin; refine wpList_push wr rfl _ _ 23 rfl 3 i0 _ 1 8 Try.underlying23 hi hz0 hz1 hz2 rfl (by omega) u3 j ((digsTo n j).map dV) rfl HO.out.own _ _ _ rfl rfl rfl (by simp [Value.oneCell']) (by omega) (by unfold maxLen; omega) ?_)
      intro g gc w1 hown hp
      have HO1 := Lib.hid (HO.out.push (by rw [HD.out]; exact hown) hp)
      clear hown hp
      go_wp2_with fail
      go_roundw
      case rel => exact ⟨j + 1, by omega, by rw [HX1.out], HO1.out⟩
      case measure => simp [intOf]; omega
    · have hjn : j = dl n := by omega
      subst hjn
      have h0 : ¬ 0 < n / DD ^ dl n := fun h => hjl (hiff.1 h)
      have h00 : n / DD ^ dl n = 0 := Nat.eq_zero_of_not_pos h0
      rw [h00]
      clear hiff h0 h00 hle
      go_wp2_with fail
      go_ret
      obtain ⟨a, c, rfl, _⟩ := own_form3 HO.out.own
      exact ⟨a, c, rfl, sl_of_own HO.out.own, HO.out.below⟩

def TrimO (v : Value) (n : Nat) (w : World) (e : Ending) (w' : World) : Prop := ∃ a cap, e = .returned (.slice a (dl n) cap) ∧ NumAt w a n ∧ (∀ q o, a = some ⟨q, o, none⟩ → v.ownBlock = some q) ∧ w = w'

/-- What comes back lies in a block of its own. -/
def NumN (w : World) (e : Ending) (w' : World) (n : Nat) : Prop := ∃ a cap, e = .returned (.slice a (dl n) cap) ∧ NumAt w' a n ∧ (∀ q o, a = some ⟨q, o, none⟩ → w.heap.size ≤ q) ∧ Below w.heap.size w w'
theorem NumN.r {w w' : World} {e : Ending} {n : Nat} (h : NumN w e w' n) : NumR w e w' n := let ⟨a, c, h1, h2, _, h4⟩ := h; ⟨a, c, h1, h2, h4⟩

set_option maxHeartbeats 1000000 in
theorem trim_none (w : World) : Calls Try.prog 80 #[.slice none 0 0] w (TrimO (.slice none 0 0) 0 w) := by
  go_enter Try.func80, Try.ntmps80
  go_wp2_with fail
  go_loop [0] (fun v => v = .slice none 0 0) (fun _ => 0)
  case atStart => rfl
  case round =>
    subst hrel
    go_wp2_with fail
    go_ret
    exact ⟨none, 0, rfl, NumAt.zero _ _, (fun q o h => by cases h), rfl⟩

theorem trim_own {v : Value} {n k : Nat} {w : World} (h : w.ownsRow 0 3 1 v k ((digsTo n k).map dV)) (hn : n < DD ^ k) (hk : k ≤ 1073741824) :
    Calls Try.prog 80 #[v] w (TrimO v n w) := by
  obtain ⟨a, c, rfl, hg⟩ := own_form3 h
  rcases h.2 with ⟨hv, h0⟩ | ⟨g, cap, cur, hv, _, hgl, _⟩
  · subst h0
    cases hv
    have h1 : n = 0 := by rw [Nat.pow_zero] at hn; omega
    subst h1
    exact trim_none w
  · cases hv
    have hcell : ∀ i, i < k → w.cell? ⟨g, 0 + i, none⟩ = some (.int .i64 (dg DD n i : Int)) := fun i hi => by
      rw [Nat.zero_add, h.cellAt i (by omega)]
      simp [digsTo, hi, dV]
    refine (trim_any n k g 0 c hn hk (own_cap h).1 w (Array.getElem?_eq_some_iff.1 hgl).1 hcell).mono ?_
    rintro e w' ⟨cap', rfl, rfl⟩
    exact ⟨_, cap', rfl, NumAt.of (Array.getElem?_eq_some_iff.1 hgl).1 fun i hi => hcell i (Nat.lt_of_lt_of_le hi (dl_of_lt n k hn)), (fun q o h => by cases h; rfl), rfl⟩

theorem plus_end (a b j : Nat) (ha : dl a ≤ j) (hb : dl b ≤ j) (hc : mcB DD a b 1 j = 0) : a + b < DD ^ j := by
  have h := mcB_split (B := DD) (by decide) a b 1 j
  have h1 := Nat.lt_of_lt_of_le (lt_dl a) (Nat.pow_le_pow_right (n := DD) (by decide) ha)
  have h2 := Nat.lt_of_lt_of_le (lt_dl b) (Nat.pow_le_pow_right (n := DD) (by decide) hb)
  rw [Nat.div_eq_of_lt h1, Nat.div_eq_of_lt h2, hc, Nat.one_mul] at h
  rcases Nat.lt_or_ge (a + b) (DD ^ j) with h3 | h3
  · exact h3
  · have := Nat.div_pos h3 (Nat.pow_pos (show 0 < DD by decide))
    omega
theorem plus_last (a b j : Nat) (ha : dl a < j) (hb : dl b < j) : mcB DD a b 1 j = 0 := by
  obtain ⟨p, rfl⟩ : ∃ p, j = p + 1 := ⟨j - 1, by omega⟩
  have h1 := Nat.lt_of_lt_of_le (lt_dl a) (Nat.pow_le_pow_right (n := DD) (by decide) (show dl a ≤ p by omega))
  have h2 := Nat.lt_of_lt_of_le (lt_dl b) (Nat.pow_le_pow_right (n := DD) (by decide) (show dl b ≤ p by omega))
  have h3 : DD ^ (p + 1) = DD ^ p * 65536 := Nat.pow_succ ..
  unfold mcB
  rw [Nat.mod_eq_of_lt (by omega), Nat.mod_eq_of_lt (by omega), Nat.one_mul]
  exact Nat.div_eq_of_lt (by omega)
theorem plus_max (a b j : Nat) (ha : dl a < j) (hb : dl b < j) : a + b < DD ^ j := plus_end a b j (by omega) (by omega) (plus_last a b j ha hb)


set_option maxHeartbeats 2000000 in
theorem refPlus_new (a b : Nat) (aa ab : Option Addr) (ca cb : Nat) (hla : dl a ≤ 1048576) (hlb : dl b ≤ 1048576) (w : World) (hA : NumAt w aa a) (hB : NumAt w ab b) :
    Calls Try.prog 59 #[.slice aa (dl a) ca, .slice ab (dl b) cb] w fun e w' => NumN w e w' (a + b) := by
  obtain ⟨i0, hi, hz0, hz1, hz2⟩ := info_parts infoInt3
  have HA := Lib.hid hA
  have HB := Lib.hid hB
  clear hA hB
  go_enter Try.func59, Try.ntmps59
  go_wp2_with fail
  go_loopw [5, 6, 7] (fun u c i wr => ∃ j : Nat, j ≤ 1048577 ∧ (j ≤ dl a ∨ j ≤ dl b ∨ (j ≤ dl a + 1 ∧ j ≤ dl b + 1) ∨ j ≤ max (dl a) (dl b) + 1) ∧ i = .int .i64 j ∧ c = .int .i64 (mcB DD a b 1 j : Nat) ∧ Hid (OwnD w wr u (a + b) j)) (fun _ _ i _ => max (dl a) (dl b) + 1 - (intOf i).toNat)
  case atStart => exact ⟨0, Nat.zero_le _, Or.inl (Nat.zero_le _), rfl, by rw [mcB_zero]; rfl, OwnD.nil w _⟩
  case round =>
    obtain ⟨j, hj, hjm, rfl, rfl, HO⟩ := hrel
    have hja : j ≤ max (dl a) (dl b) + 1 := by omega
    have hc1 := mcB_le (B := DD) (by decide) a b 1 j
    have hda : dg DD a j < 65536 := dg_lt (B := DD) (by decide) a j
    have hdb : dg DD b j < 65536 := dg_lt (B := DD) (by decide) b j
    have hdig := mcB_dig (B := DD) (by decide) a b 1 j
    have hsuc := mcB_succ (B := DD) (by decide) a b 1 j
    have hna := dg_nought a j
    have hnb := dg_nought b j
    have hend := plus_end a b j
    have hlast := plus_last a b j
    simp only [Nat.one_mul] at hdig hsuc
    generalize mcB DD a b 1 j = c at *
    generalize hc2 : mcB DD a b 1 (j + 1) = c2 at *
    generalize hD : dg DD (a + b) j = D at *
    have HC2 := Lib.hid hc2
    have HD := Lib.hid hD
    have HDIG := Lib.hid hdig
    have HSUC := Lib.hid hsuc
    have HEND := Lib.hid hend
    have hlast' : 0 < c → ¬ (dl a < j ∧ dl b < j) := fun h h1 => by have := hlast h1.1 h1.2; omega
    have hDlt : D < 65536 := by rw [← hD]; exact dg_lt (by decide) _ _
    clear hc2 hD hdig hsuc hend hlast
    by_cases hla' : j < dl a
    · obtain ⟨b1, o1, rfl, hb1, hcell1⟩ := (HA.out.up HO.out.below).all (by omega)
      have hx1 := hcell1 j hla'
      have hdla : ¬ dl a = 0 := by omega
      clear hcell1 hna
      by_cases hlb' : j < dl b
      · obtain ⟨b2, o2, rfl, hb2, hcell2⟩ := (HB.out.up HO.out.below).all (by omega)
        have hx2 := hcell2 j hlb'
        clear hcell2 hnb
        generalize dg DD a j = da at *
        generalize dg DD b j = db at *
        have hm1 : ((c : Int) + (da : Int) + (db : Int)) % 65536 = (D : Int) := by have h := HDIG.out; have h2 : (DD : Nat) = 65536 := rfl; rw [h2] at h; omega
        have hd1 : ((c : Int) + (da : Int) + (db : Int)) / 65536 = (c2 : Int) := by have h := HSUC.out; have h2 : (DD : Nat) = 65536 := rfl; rw [h2] at h; omega
        have hb0 : 0 ≤ (c : Int) + (da : Int) + (db : Int) := by omega
        have hb9 : (c : Int) + (da : Int) + (db : Int) ≤ 131072 := by omega
        go_wp2_with (at_builtin; refine wpList_push wr rfl _ _ 23 rfl 3 i0 _ 1 8 Try.underlying23 hi hz0 hz1 hz2 rfl (by omega) u5 j ((digsTo (a + b) j).map dV) rfl HO.out.own _ _ _ rfl rfl rfl (by simp [Value.oneCell']) (by omega) (by unfold maxLen; omega) ?_)
        intro g gc w1 hown hp
        have HO1 := Lib.hid (HO.out.push (by rw [HD.out]; exact hown) hp)
        clear hown hp
        go_wp2_with fail
        go_roundw
        case rel => exact ⟨j + 1, by omega, by omega, by go_num, by first | rw [hd1, HC2.out] | rw [HC2.out], HO1.out⟩
        case measure => simp [intOf]; omega
      · have h0 := hnb (by omega)
        rw [h0] at HDIG HSUC
        clear hnb h0 hdb
        generalize dg DD a j = da at *
        have hm1 : ((c : Int) + (da : Int)) % 65536 = (D : Int) := by have h := HDIG.out; have h2 : (DD : Nat) = 65536 := rfl; rw [h2] at h; omega
        have hd1 : ((c : Int) + (da : Int)) / 65536 = (c2 : Int) := by have h := HSUC.out; have h2 : (DD : Nat) = 65536 := rfl; rw [h2] at h; omega
        have hb0 : 0 ≤ (c : Int) + (da : Int) := by omega
        have hb9 : (c : Int) + (da : Int) ≤ 131072 := by omega
        go_wp2_with (at_builtin; refine wpList_push wr rfl _ _ 23 rfl 3 i0 _ 1 8 Try.underlying23 hi hz0 hz1 hz2 rfl (by omega) u5 j ((digsTo (a + b) j).map dV) rfl HO.out.own _ _ _ rfl rfl rfl (by simp [Value.oneCell']) (by omega) (by unfold maxLen; omega) ?_)
        intro g gc w1 hown hp
        have HO1 := Lib.hid (HO.out.push (by rw [HD.out]; exact hown) hp)
        clear hown hp
        go_wp2_with fail
        go_roundw
        case rel => exact ⟨j + 1, by omega, by omega, by go_num, by first | rw [hd1, HC2.out] | rw [HC2.out], HO1.out⟩
        case measure => simp [intOf]; omega
    · have h0 := hna (by omega)
      rw [h0] at HDIG HSUC
      clear hna h0 hda
      by_cases hlb' : j < dl b
      · obtain ⟨b2, o2, rfl, hb2, hcell2⟩ := (HB.out.up HO.out.below).all (by omega)
        have hx2 := hcell2 j hlb'
        clear hcell2 hnb
        generalize dg DD b j = db at *
        have hm1 : ((c : Int) + (db : Int)) % 65536 = (D : Int) := by have h := HDIG.out; have h2 : (DD : Nat) = 65536 := rfl; rw [h2] at h; omega
        have hd1 : ((c : Int) + (db : Int)) / 65536 = (c2 : Int) := by have h := HSUC.out; have h2 : (DD : Nat) = 65536 := rfl; rw [h2] at h; omega
        have hb0 : 0 ≤ (c : Int) + (db : Int) := by omega
        have hb9 : (c : Int) + (db : Int) ≤ 131072 := by omega
        go_wp2_with (at_builtin; refine wpList_push wr rfl _ _ 23 rfl 3 i0 _ 1 8 Try.underlying23 hi hz0 hz1 hz2 rfl (by omega) u5 j ((digsTo (a + b) j).map dV) rfl HO.out.own _ _ _ rfl rfl rfl (by simp [Value.oneCell']) (by omega) (by unfold maxLen; omega) ?_)
        intro g gc w1 hown hp
        have HO1 := Lib.hid (HO.out.push (by rw [HD.out]; exact hown) hp)
        clear hown hp
        go_wp2_with fail
        go_roundw
        case rel => exact ⟨j + 1, by omega, by omega, by go_num, by first | rw [hd1, HC2.out] | rw [HC2.out], HO1.out⟩
        case measure => simp [intOf]; omega
      · have h0 := hnb (by omega)
        rw [h0] at HDIG HSUC
        clear hnb h0 hdb
        by_cases hcp : 0 < c
        · have hlast2 := hlast' hcp
          have hm1 : ((c : Int)) % 65536 = (D : Int) := by have h := HDIG.out; have h2 : (DD : Nat) = 65536 := rfl; rw [h2] at h; omega
          have hd1 : ((c : Int)) / 65536 = (c2 : Int) := by have h := HSUC.out; have h2 : (DD : Nat) = 65536 := rfl; rw [h2] at h; omega
          have hb0 : 0 ≤ (c : Int) := by omega
          have hb9 : (c : Int) ≤ 131072 := by omega
          go_wp2_with (at_builtin; refine wpList_push wr rfl _ _ 23 rfl 3 i0 _ 1 8 Try.underlying23 hi hz0 hz1 hz2 rfl (by omega) u5 j ((digsTo (a + b) j).map dV) rfl HO.out.own _ _ _ rfl rfl rfl (by simp [Value.oneCell']) (by omega) (by unfold maxLen; omega) ?_)
          intro g gc w1 hown hp
          have HO1 := Lib.hid (HO.out.push (by rw [HD.out]; exact hown) hp)
          clear hown hp
          go_wp2_with fail
          go_roundw
          case rel => exact ⟨j + 1, by omega, by omega, by go_num, by first | rw [hd1, HC2.out] | rw [HC2.out], HO1.out⟩
          case measure => simp [intOf]; omega
        · have hc0 : c = 0 := by omega
          have HLT := Lib.hid (HEND.out (by omega) (by omega) hc0)
          subst hc0
          clear hlast'
          go_wp2_with fail
          refine (trim_own HO.out.own HLT.out (by omega)).mono ?_
          rintro e w' ⟨a', cap', rfl, hN, hnew, rfl⟩
          have HN := Lib.hid hN
          have HNEW := Lib.hid hnew
          clear hN hnew
          go_wp2_with fail
          go_ret
          exact ⟨a', cap', rfl, HN.out, fun q o h => HO.out.new_ q (HNEW.out q o h), HO.out.below⟩

theorem refPlus_any (a b : Nat) (aa ab : Option Addr) (ca cb : Nat) (hla : dl a ≤ 1048576) (hlb : dl b ≤ 1048576) (w : World) (hA : NumAt w aa a) (hB : NumAt w ab b) :
    Calls Try.prog 59 #[.slice aa (dl a) ca, .slice ab (dl b) cb] w fun e w' => NumR w e w' (a + b) :=
  (refPlus_new a b aa ab ca cb hla hlb w hA hB).mono fun _ _ h => h.r

end Go.Proofs.Ytdmldnpadojflaa
