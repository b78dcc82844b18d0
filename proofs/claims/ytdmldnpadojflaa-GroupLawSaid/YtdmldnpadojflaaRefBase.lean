/- The document's numbers, as slices of digits: what is trimmed, what is compared. No condition. -/
import Derived.Test.YtdmldnpadojflaaDigPlain
namespace Go.Proofs.Ytdmldnpadojflaa
open Go.RowKit

def dV (d : Nat) : Value := .int .i64 (d : Int)

/-- A slice of digits reads as a number. -/
def NumAt (w : World) (a : Option Addr) (n : Nat) : Prop := Sl w w.heap.size a ((digs n).map dV)

theorem NumAt.up {W w : World} {a : Option Addr} {n : Nat} (h : NumAt W a n) (hb : Below W.heap.size W w) : NumAt w a n := Sl.up h hb
theorem NumAt.zero (w : World) (a : Option Addr) : NumAt w a 0 := Or.inl rfl

theorem NumAt.at {w : World} {a : Option Addr} {n : Nat} (h : NumAt w a n) (i : Nat) (hi : i < dl n) :
    ∃ b off, a = some ⟨b, off, none⟩ ∧ b < w.heap.size ∧ w.cell? ⟨b, off + i, none⟩ = some (.int .i64 (dg DD n i : Int)) := by
  obtain ⟨b, off, h1, h2, h3⟩ := Sl.at h i (by simp [digs_length]; exact hi)
  refine ⟨b, off, h1, h2, ?_⟩
  rw [h3]
  simp [digs, dV]

/-- All digits, of a number that has some. -/
theorem NumAt.all {w : World} {a : Option Addr} {n : Nat} (h : NumAt w a n) (h0 : 0 < dl n) :
    ∃ b off, a = some ⟨b, off, none⟩ ∧ b < w.heap.size ∧ ∀ i, i < dl n → w.cell? ⟨b, off + i, none⟩ = some (.int .i64 (dg DD n i : Int)) := by
  obtain ⟨b, off, h1, h2, _⟩ := h.at 0 h0
  refine ⟨b, off, h1, h2, fun i hi => ?_⟩
  obtain ⟨b', off', h1', _, h3'⟩ := h.at i hi
  rw [h1] at h1'
  cases h1'
  exact h3'

theorem NumAt.of {w : World} {n b off : Nat} (hb : b < w.heap.size) (h : ∀ i, i < dl n → w.cell? ⟨b, off + i, none⟩ = some (.int .i64 (dg DD n i : Int))) : NumAt w (some ⟨b, off, none⟩) n := by
  refine Or.inr ⟨b, off, rfl, hb, fun i v hv => ?_⟩
  have hi : i < dl n := by
    have := (List.getElem?_eq_some_iff.1 hv).1
    simpa [digs_length] using this
  rw [h i hi]
  simp [digs, hi, dV] at hv
  rw [← hv]

/-- What comes back: a slice of digits that reads as n. -/
def NumR (w : World) (e : Ending) (w' : World) (n : Nat) : Prop := ∃ a cap, e = .returned (.slice a (dl n) cap) ∧ NumAt w' a n ∧ Below w.heap.size w w'

/-- A row of k digits; those from dl n on are nought. -/
theorem dg_nought (n i : Nat) (h : dl n ≤ i) : dg DD n i = 0 := dg_above (by decide) n (dl n) i (lt_dl n) h

def TrimR (b off n : Nat) (w : World) (e : Ending) (w' : World) : Prop := ∃ cap', e = .returned (.slice (some ⟨b, off, none⟩) (dl n) cap') ∧ w = w'

set_option maxHeartbeats 1000000 in
theorem trim_any (n k b off cap : Nat) (hk : n < DD ^ k) (hm : k ≤ 1073741824) (hkc : k ≤ cap) (w : World) (hb : b < w.heap.size) (hc : ∀ i, i < k → w.cell? ⟨b, off + i, none⟩ = some (.int .i64 (dg DD n i : Int))) :
    Calls Try.prog 80 #[.slice (some ⟨b, off, none⟩) k cap] w (TrimR b off n w) := by
  have hle := dl_of_lt n k hk
  have HC := Lib.hid hc
  clear hc
  go_enter Try.func80, Try.ntmps80
  go_wp2_with fail
  go_loop [0] (fun v => ∃ j c : Nat, dl n ≤ j ∧ j ≤ k ∧ j ≤ c ∧ v = .slice (some ⟨b, off, none⟩) j c) (fun v => match v with | .slice _ j _ => j | _ => 0)
  case atStart => exact ⟨k, cap, hle, Nat.le_refl _, hkc, rfl⟩
  case round =>
    obtain ⟨j, c, h1, h2, h3, rfl⟩ := hrel
    rcases Nat.eq_zero_or_pos j with rfl | hjp
    · go_wp2_with fail
      go_ret
      have e0 : dl n = 0 := by omega
      exact ⟨c, by rw [e0]; rfl, rfl⟩
    · obtain ⟨p, rfl⟩ : ∃ p, j = p + 1 := ⟨j - 1, by omega⟩
      have hcell := HC.out p (by omega)
      have hidx : ((p + 1 : Nat) : Int) - 1 = (p : Int) := by omega
      by_cases hz : p < dl n
      · have hp : dl n = p + 1 := by omega
        have hne : n ≠ 0 := by rintro rfl; rw [dl_zero] at hz; omega
        have htop := dl_top n hne
        rw [hp, Nat.add_sub_cancel] at htop
        have hd : ((dg DD n p : Int) == 0) = false := by simp; omega
        have HP := Lib.hid hp
        clear hp htop
        go_wp2_with fail
        go_ret
        exact ⟨c, by rw [HP.out]; rfl, rfl⟩
      · have h0 := dg_nought n p (by omega)
        rw [h0] at hcell
        clear h0
        go_wp2_with fail
        go_round
        case rel => exact ⟨p, c, by omega, by omega, by omega, rfl⟩
        case measure => simp

end Go.Proofs.Ytdmldnpadojflaa
