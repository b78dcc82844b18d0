/- The program's cover. No condition. -/
import Derived.Test.YtbjhcpchljjmhaaIter
import Derived.Test.YtbjhcpchljjmhaaCoverPlain
import Derived.Test.YtbjhcpchljjmhaaNetBase
import Derived.Test.YtbjhcpchljjmhaaShelf
namespace Go.Proofs.Ytbjhcpchljjmhaa
open Go.RowKit

attribute [local go_sem] Oper.semAt_some

def spanV (x : Int × Int) : Value := .agg #[.int .i64 x.1, .int .i64 x.2]
def intAt (W : World) (c : Nat) : Int := match W.cell? ⟨c, 0, none⟩ with | some (.int _ k) => k | _ => 0
theorem intAt_eq {W : World} {c : Nat} {k : Int} (h : W.cell? ⟨c, 0, none⟩ = some (.int .i64 k)) : intAt W c = k := by simp [intAt, h]

theorem bitLen_some (d : Nat) (h0 : 0 < d) (hd : d ≤ 1048576) : ∃ p, Lib.bitLen d = p + 1 ∧ p ≤ 20 ∧ 2 ^ p ≤ d := by
  obtain ⟨a, b, _⟩ := bitLen_ok d h0 (by omega)
  have := bitLen_le d 21 h0 (by omega) (by omega)
  exact ⟨Lib.bitLen d - 1, by omega, by omega, b⟩

theorem low_and (k : Nat) (h0 : 0 < k) (h : k ≤ 1048576) : bits BinOp.and IntKind.i64 (k : Int) (-(k : Int)) = ((k &&& (2 ^ 64 - k) : Nat) : Int) := by
  have h1 : (BitVec.ofInt 64 (k : Int)).toNat = k := by
    rw [BitVec.toNat_ofInt]; omega
  have h2 : (BitVec.ofInt 64 (-(k : Int))).toNat = 2 ^ 64 - k := by
    rw [BitVec.toNat_ofInt]; omega
  have h3 : k &&& (2 ^ 64 - k) ≤ k := Nat.and_le_left
  have h4 : (BitVec.ofInt 64 (k : Int) &&& BitVec.ofInt 64 (-(k : Int))).toNat = k &&& (2 ^ 64 - k) := by rw [BitVec.toNat_and, h1, h2]
  show IntKind.i64.wrap ((BitVec.ofInt 64 (k : Int) &&& BitVec.ofInt 64 (-(k : Int))).toNat : Int) = _
  rw [h4]
  generalize k &&& (2 ^ 64 - k) = r at h3
  have h5 : ((r : Int) % 2 ^ 64) = (r : Int) := by omega
  simp only [IntKind.wrap, IntKind.bits, IntKind.signed, h5, Bool.true_and]
  rw [if_neg (by simp; omega)]

theorem pow_wrap (p : Nat) (hp : p ≤ 20) : wrap64 (2 ^ p) = ((2 ^ p : Nat) : Int) := by
  have h : (2 : Nat) ^ p ≤ 2 ^ 20 := Nat.pow_le_pow_right (by omega) hp
  have e : ((2 : Int) ^ p) = ((2 ^ p : Nat) : Int) := by simp
  rw [e]
  generalize 2 ^ p = q at *
  unfold wrap64
  omega

theorem Len_at (n : Nat) (d : Nat) (x : Int) (p : Nat) (hx : x = (d : Int)) (h0 : 0 < d) (hd : d ≤ 1048576) (hp : Lib.bitLen d = p + 1) (w : World) :
    CallsIn Fence.wide n Try.prog 42 #[.int .u64 x] w fun e w' => e = .returned (.int .i64 ((p : Int) + 1)) ∧ w' = w := by
  refine callsIn_wide.2 ((Try.bits_Len x w (by omega) (by omega)).mono ?_)
  rintro e w1 ⟨rfl, rfl⟩
  refine ⟨?_, rfl⟩
  rw [hx, Int.toNat_natCast, hp]
  rfl

set_option maxRecDepth 100000 in
set_option maxHeartbeats 2000000 in
theorem blocks1_in (n : Nat) (hn : 1 ≤ n) (l c h : Nat) (lo hi : Nat) (hle : lo ≤ hi) (hhi : hi ≤ 1048576) (J : List (Int × Int) → Value → World → Prop)
    (hRd : ∀ s v W, J s v W → Boxed W c 3 v ∧ Boxed W h 3 (.int .i64 hi)) (hset : ∀ s v v' W, J s v W → J s v' (W.setCell ⟨c, 0, none⟩ v'))
    (hY : ∀ s x v W, s ++ [x] <+: cover lo hi → J s v W → YieldAt Fence.wide (n - 1) Try.prog l #[spanV x] W fun e W' => e = .returned (.bool true) ∧ J (s ++ [x]) v W')
    (W : World) (h0 : J [] (.int .i64 lo) W) :
    CallsIn Fence.wide n Try.prog 41 #[.func (.yield l) #[] #[], .pointer (some ⟨c, 0, none⟩), .pointer (some ⟨h, 0, none⟩)] W fun e W' => (∃ u, e = .returned u) ∧ ∃ v, J (cover lo hi) v W' := by
  have HRD := Lib.hid hRd
  have HSET := Lib.hid hset
  have HY := Lib.hid hY
  clear hRd hset hY
  refine callsIn_of_wp Try.func41 rfl trivial ?_ rfl
  simp only [Try.ntmps41, List.size_toArray, List.length_cons, List.length_nil, Nat.reduceAdd, Nat.reduceSub, Array.replicate_succ, Array.replicate_zero, List.push_toArray, List.append_toArray, List.nil_append, List.cons_append]
  gi_wp2
  gi_loopw [4] (fun _ wr => ∃ (s : List (Int × Int)) (k : Nat), lo ≤ k ∧ k ≤ hi ∧ Hid (cover lo hi = s ++ cover k hi) ∧ J s (.int .i64 k) wr) (fun _ wr => hi - (intAt wr c).toNat)
  case atStart => exact ⟨[], lo, Nat.le_refl _, hle, rfl, h0⟩
  case round =>
    obtain ⟨s, k, hk1, hk2, HC, hj⟩ := hrel
    have hb := HRD.out _ _ _ hj
    have hbc := hb.1.cell
    have hbh := hb.2.cell
    have HM : Hid (intAt wr c = k) := intAt_eq hbc
    by_cases hkl : k < hi
    · have hcs := cover_some k hi hkl
      have hd : 0 < hi - k := by omega
      obtain ⟨p, hp, hp2, hpd⟩ := bitLen_some (hi - k) hd (by omega)
      have hm1 := down_le k (hi - k) hd 20
      have hm0 := down_pos k (hi - k) 20
      have hpre : s ++ [((k : Int), ((k + down 20 k (hi - k) : Nat) : Int))] <+: cover lo hi := ⟨cover (k + down 20 k (hi - k)) hi, by rw [HC.out, hcs]; simp⟩
      obtain ⟨fn, tmps, assign, body, hy, hR⟩ := HY.out _ _ _ _ hpre hj
      have HR := Lib.hid hR
      have hyw : (Instr.yield l #[.agg #[.int .i64 (k : Int), .int .i64 ((k : Int) + (down 20 k (hi - k) : Int))]]).run Try.prog wr = .ok (.round l fn tmps assign body) wr := by
        have h := hy
        simp only [spanV, Int.natCast_add] at h
        exact h
      have HNEXT : Hid (cover lo hi = (s ++ [((k : Int), ((k + down 20 k (hi - k) : Nat) : Int))]) ++ cover (k + down 20 k (hi - k)) hi) := by show _ = _; rw [HC.out, hcs]; simp
      have hsub : ((hi : Int) - (k : Int)) = ((hi - k : Nat) : Int) := by omega
      have HSUB := Lib.hid hsub
      clear hy hR hpre hcs hsub
      by_cases hk0 : 0 < k
      · have hpm : down 20 k (hi - k) = min (2 ^ p) (k &&& (2 ^ 64 - k)) := by rw [piece_more k (hi - k) hd (by omega) hk0 (by omega), hp]; rfl
        have HPM := Lib.hid hpm
        have HP := Lib.hid hp
        clear hpm hp
        generalize hM : down 20 k (hi - k) = m at *
        have HMM := Lib.hid hM
        have hkm : wrap64 ((k : Int) + (m : Int)) = (k : Int) + (m : Int) := by unfold wrap64; omega
        clear hM hpd
        gi_wp2
        refine ⟨trivial, (Len_at (n - 1) (hi - k) _ p HSUB.out hd (by omega) HP.out wr).mono ?_⟩
        rintro e w1 ⟨rfl, rfl⟩
        have hmin : min (wrap64 (2 ^ p)) (bits BinOp.and IntKind.i64 (k : Int) (-(k : Int))) = (m : Int) := by
          rw [pow_wrap p hp2, low_and k hk0 (by omega), HPM.out]; omega
        have HMIN := Lib.hid hmin
        have HKM := Lib.hid hkm
        have HYW := Lib.hid hyw
        clear hmin hkm hyw
        gi_wp2
        simp only [HMIN.out, HKM.out, HYW.out]
        gi_wp2
        refine HR.out.mono ?_
        rintro e W3 ⟨rfl, hj3⟩
        have hb3 := HRD.out _ _ _ hj3
        have hbc3 := hb3.1.cell
        have hbf3 := hb3.1.frozen
        have HB3 := Lib.hid hb3
        have hj4 := HSET.out _ _ (.int .i64 ((k + m : Nat) : Int)) _ hj3
        have HJ4 := Lib.hid hj4
        have HI4 : Hid (intAt (W3.setCell ⟨c, 0, none⟩ (.int .i64 ((k + m : Nat) : Int))) c = ((k + m : Nat) : Int)) := intAt_eq ((HRD.out _ _ _ hj4).1.cell)
        clear hb3 hj4 hj3
        gi_wp2
        go_roundw
        case rel => exact ⟨_, k + m, by omega, by omega, HNEXT.out, by have h := HJ4.out; rw [Int.natCast_add] at h; exact h⟩
        case measure =>
          have h := HI4.out
          rw [Int.natCast_add] at h
          rw [h, HM.out]
          omega
      · have hpm : down 20 k (hi - k) = 2 ^ p := by
          have : k = 0 := by omega
          subst this
          rw [Nat.sub_zero] at *
          rw [piece_zero hi hd (by omega), hp]; rfl
        have HPM := Lib.hid hpm
        have HP := Lib.hid hp
        clear hpm hp
        generalize hM : down 20 k (hi - k) = m at *
        have HMM := Lib.hid hM
        have hkm : wrap64 ((k : Int) + (m : Int)) = (k : Int) + (m : Int) := by unfold wrap64; omega
        clear hM hpd
        gi_wp2
        refine ⟨trivial, (Len_at (n - 1) (hi - k) _ p HSUB.out hd (by omega) HP.out wr).mono ?_⟩
        rintro e w1 ⟨rfl, rfl⟩
        have hmin : wrap64 (2 ^ p) = (m : Int) := by rw [pow_wrap p hp2, HPM.out]
        gi_wp2
        refine HR.out.mono ?_
        rintro e W3 ⟨rfl, hj3⟩
        have hb3 := HRD.out _ _ _ hj3
        have hbc3 := hb3.1.cell
        have hbf3 := hb3.1.frozen
        have HB3 := Lib.hid hb3
        have hj4 := HSET.out _ _ (.int .i64 ((k + m : Nat) : Int)) _ hj3
        have HJ4 := Lib.hid hj4
        have HI4 : Hid (intAt (W3.setCell ⟨c, 0, none⟩ (.int .i64 ((k + m : Nat) : Int))) c = ((k + m : Nat) : Int)) := intAt_eq ((HRD.out _ _ _ hj4).1.cell)
        clear hb3 hj4 hj3
        gi_wp2
        go_roundw
        case rel => exact ⟨_, k + m, by omega, by omega, HNEXT.out, by have h := HJ4.out; rw [Int.natCast_add] at h; exact h⟩
        case measure =>
          have h := HI4.out
          rw [Int.natCast_add] at h
          rw [h, HM.out]
          omega
    · have hkh : k = hi := by omega
      subst hkh
      gi_wp2
      go_end0
      exact ⟨⟨_, rfl⟩, _, by rw [HC.out, cover_none _ _ (Nat.le_refl _), List.append_nil]; exact hj⟩

end Go.Proofs.Ytbjhcpchljjmhaa
