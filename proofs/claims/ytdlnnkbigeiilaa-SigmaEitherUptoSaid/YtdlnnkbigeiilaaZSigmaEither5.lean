/- Texts of this seat, one behind the other: what SigmaEither leans on. No condition beyond those that each names. -/
import Derived.Test.YtdlnnkbigeiilaaZSigmaEither4
import Derived.Lib.Join
import Derived.Outline

set_option maxRecDepth 100000
set_option maxHeartbeats 4000000
set_option linter.unusedVariables false
set_option linter.unusedSimpArgs false
namespace Go.Proofs.Ytdlnnkbigeiilaa
open Go.RowKit
theorem catB_bytes : ∀ (l : List ByteArray) (a : ByteArray), (l.foldl (· ++ ·) a).data.toList = a.data.toList ++ (l.map (·.data.toList)).flatten
 | [], a => by simp
 | x :: l, a => by rw [List.foldl_cons, catB_bytes l (a ++ x)]; simp
theorem join_none : ∀ xs : List (List UInt8), Lib.join xs [] = xs.flatten
 | [] => rfl
 | x :: r => by rw [Lib.join_cons, Lib.joinTail]; simp
theorem join_cat (l : List ByteArray) : (⟨(Lib.join (l.map (·.data.toList)) (ByteArray.mk #[]).data.toList).toArray⟩ : ByteArray) = catB l := by
 have h := catB_bytes l ⟨#[]⟩
 have e : (ByteArray.mk #[]).data.toList = [] := rfl
 rw [e, List.nil_append] at h
 rw [e, join_none, ← h]
 rfl
theorem join_size (l : List ByteArray) : (Lib.join (l.map (·.data.toList)) (ByteArray.mk #[]).data.toList).length = (catB l).size := by
 rw [← join_cat]; rfl
theorem sJoin_any (l : List ByteArray) (h8 : l.length ≤ 4096) (hz : ∀ x ∈ l, x.size ≤ 4096) (a : Option Addr) (c : Nat) (hc : l.length ≤ c) (w : World) (hX : Sl w w.heap.size a (l.map Value.string)) :
  Calls Try.prog 114 #[.slice a l.length c, .string ⟨#[]⟩] w fun e w' => e = .returned (.string (catB l)) ∧ Below w.heap.size w w' := by
 by_cases h0 : l = []
 ·subst h0
  refine (Try.strings_Join_none a c ⟨#[]⟩ w).mono ?_
  rintro e w' ⟨rfl, rfl⟩
  exact ⟨rfl, Below.refl _ _⟩
 ·have hp : 0 < l.length := List.length_pos_iff.2 h0
  obtain ⟨b, o, rfl, hb, _⟩ := hX.at 0 (by rw [List.length_map]; exact hp)
  refine (Try.strings_Join b o c l ⟨#[]⟩ w (fun j x hx => ?_) hb (by omega) hc ?_).mono ?_
  ·obtain ⟨hj, rfl⟩ := List.getElem?_eq_some_iff.1 hx
   obtain ⟨b', o', he, _, h1⟩ := hX.at j (by rw [List.length_map]; exact hj)
   cases he
   rw [List.getElem_map] at h1
   exact h1
  ·rw [join_size]
   have h1 := catB_size 4096 l hz
   have h2 : l.length * 4096 ≤ 4096 * 4096 := Nat.mul_le_mul_right _ h8
   omega
  ·rintro e w' ⟨rfl, hb'⟩
   exact ⟨by rw [join_cat], hb'⟩
theorem sbegin_any (G : GP) (gb : Nat) (nm label : ByteArray) (hm : nm.size < 140737488355328) (hl : label.size < 140737488355328) (hk : G.kind < 256) (w : World) (hG : GroupAt w gb G) :
  Calls Try.prog 111 #[.pointer (some ⟨gb, 0, none⟩), .string nm, .string label] w fun e w' => ∃ tb, e = .returned (.pointer (some ⟨tb, 0, none⟩)) ∧ w.heap.size ≤ tb ∧ TalkAt w' tb (beginT nm label (G.kind : Int)) ∧ Below w.heap.size w w' := by
 have H1 := Lib.hid (fun w => NewTalk_any nm hm w)
 have hz1 : (tagS talkB [nm]).size < 140737488355328 := by rw [tagS_size]; decide
 have H2 := Lib.hid (fun tb w h => Say_any tb (tagS talkB [nm]) labelB label hz1 (by decide) hl w h)
 have hz2 : (say1 (tagS talkB [nm]) labelB label).size < 140737488355328 := by rw [say1_size]; decide
 have H3 := Lib.hid (fun tb w h => Say_any tb (say1 (tagS talkB [nm]) labelB label) kindB (kindS (G.kind : Int)) hz2 (by decide) (show (1 : Nat) < 140737488355328 by decide) w h)
 unfold beginT
 unfold say1 at *
 generalize tagS talkB [nm] = t0 at *
 generalize tagS sayB [t0, labelB, label] = t1 at *
 generalize tagS sayB [t1, kindB, kindS (G.kind : Int)] = t2 at *
 clear hz1 hz2 hm hl
 unfold kindS at H3
 have HG := Lib.hid hG
 have HLT := Lib.hid hG.lt
 clear hG
 go_enter Try.func111, Try.ntmps111
 go_wp2_with fail
 refine (H1.out w).mono ?_
 rintro e wa ⟨tb, rfl, hge, ht, hb⟩
 have HGE := Lib.hid hge
 have HT := Lib.hid ht
 have HB := Lib.hid hb
 clear hge ht hb
 go_wp2_with fail
 refine (H2.out tb wa HT.out).mono ?_
 rintro e wb ⟨rfl, ht, hk2⟩
 have hkc := ((HG.out.up HB.out).keptP hk2 (show ¬ gb = tb by have := HGE.out; have := HLT.out; omega)).kind
 have HT2 := Lib.hid ht
 have HB2 := Lib.hid (Below.keptP HB.out hk2 HB.out.size (fun q hq => hq ▸ HGE.out))
 clear HT HB ht hk2 HG
 generalize G.kind = k at *
 have hk0 : (0 : Int) ≤ (k : Int) := by omega
 have hk1 : (k : Int) < 256 := by omega
 have BL := Lib.hid (Below.refl wb.heap.size wb)
 obtain ⟨w1, hq1, hb9, hz9, Hr⟩ := new1 wb 5 [.int .u8 (k : Int)]
 replace BL := hbu BL hb9
 have HZS := hz9
 clear hb9 hz9
 have r_ := Hr.out.c1
 have hcv := run_convert_bytes_arg (P := Try.prog) w1 82 5 Try.underlying82 Try.underlying5 wb.heap.size 0 1 1 [(k : Int)] rfl (fun i hi => by
  obtain rfl : i = 0 := by omega
  exact Hr.out.cell (i := 0) rfl) 9 Try.underlying9
 go_wp2_with fail
 clear hq1
 refine (H3.out tb _ (Bx.up HT2.out BL.out)).mono ?_
 rintro e wz ⟨rfl, ht, hk2⟩
 have HB3 := Lib.hid (Below.keptP (below_up HB2.out BL.out) hk2 (below_up HB2.out BL.out).size (fun q hq => hq ▸ HGE.out))
 have HT3 := Lib.hid ht
 clear ht hk2
 go_wp2_with fail
 go_ret
 exact ⟨tb, rfl, HGE.out, HT3.out, HB3.out⟩
theorem said_any (tb : Nat) (s : ByteArray) (ro : List RowA) (n : Nat) (hn : ro.length = n) (h64 : n ≤ 64) (hz : s.size = 32) (sh : ∀ r ∈ ro, r.l.length ≤ 8 ∧ ∀ x ∈ r.l, x.size ≤ 32) (hok : ∀ r ∈ ro, r.l.length ≤ r.c) (al : Option Addr) (cl : Nat) (w : World) (hT : TalkAt w tb s) (hC : RowsAt w al ro) (ha : ∀ x, al = some x → ¬ x.block = tb) (hr : ∀ r ∈ ro, ∀ x, r.a = some x → ¬ x.block = tb) :
  Calls Try.prog 72 #[.pointer (some ⟨tb, 0, none⟩), .slice al n cl] w fun e w' => e = .returned (.tuple #[]) ∧ TalkAt w' tb (sayFi s (ro.map RowA.l)) ∧ Kept (fun q => q = tb) w w' := by
 have HTK := Lib.hid (fun j (h : j < ro.length) => by
  have h1 := sayFi_take s (ro.map RowA.l) j (by rw [List.length_map]; exact h)
  rw [List.getElem_map, ← List.map_take, ← List.map_take] at h1
  exact h1)
 unfold sayF at HTK
 have HF := Lib.hid (fun s lb x hs hl hx w h => (show Calls Try.prog 10 #[.pointer (some ⟨tb, 0, none⟩), .string lb, .string x] w fun e w' => e = .returned (.tuple #[]) ∧ TalkAt w' tb (say1 s lb x) ∧ Kept (fun q => q = tb) w w' from Say_any tb s lb x hs hl hx w h))
 have HS1 := Lib.hid say1_size
 have HT0 := Lib.hid (show sayFi s ([].map RowA.l) = s from rfl)
 generalize sayFi s = SC at *
 generalize say1 = S1 at *
 have HC := Lib.hid hC
 have HN := Lib.hid hn
 have HZ := Lib.hid hz
 have HSH := Lib.hid sh
 have HOK := Lib.hid hok
 have HA := Lib.hid ha
 have HR := Lib.hid hr
 have HT := Lib.hid hT
 clear hC hn hz sh hok ha hr hT
 go_enter Try.func72, Try.ntmps72
 go_wp2_with fail
 go_loopw [8] (fun i wr => ∃ (j : Nat) (y : ByteArray), j ≤ n ∧ i = .int .i64 (j : Int) ∧ Hid (y.size = 32) ∧ Hid (y = SC ((ro.take j).map RowA.l)) ∧ Hid (TalkAt wr tb y) ∧ Hid (Kept (fun q => q = tb) w wr)) (fun i _ => n - (intOf i).toNat)
 case atStart => exact ⟨0, s, Nat.zero_le _, rfl, HZ, HT0.out.symm, HT, Kept.refl _ _⟩
 case round =>
  clear HT
  obtain ⟨j, y, hj, rfl, HY, HYS, HT, HK⟩ := hrel
  by_cases hjn : j < n
  ·have hjl : j < ro.length := by rw [HN.out]; exact hjn
   obtain ⟨bl, ol, rfl, hbl0, hc⟩ := (HC.out.s.kept HK.out HA.out).elem RowA.cells_len (by omega) j hjl
   have hc_0 := hc 0 _ rfl
   rw [Nat.add_zero] at hc_0
   clear hc
   rw [Nat.mul_one] at hc_0
   have HAB := Lib.hid (Sl.kept (HC.out.one j hjl) HK.out (HR.out _ (List.getElem_mem hjl)))
   have HSJ := Lib.hid (HSH.out _ (List.getElem_mem hjl))
   have HOJ := Lib.hid (HOK.out _ (List.getElem_mem hjl))
   have HTJ := Lib.hid (HTK.out j hjl)
   generalize ro[j] = c at *
   generalize c.l = bs at *
   generalize c.a = ab at *
   generalize c.c = cb at *
   rw [← HYS.out] at HTJ
   have HCB := Lib.hid (cat_small HSJ.out.1 HSJ.out.2)
   have HJ1 := Lib.hid (fun w h => sJoin_any bs (by have := HSJ.out.1; omega) (fun x hx => Nat.le_trans (HSJ.out.2 x hx) (by decide)) ab cb HOJ.out w h)
   clear HYS HSJ HOJ
   go_wp2_with fail
   refine (HJ1.out wr HAB.out).mono ?_
   rintro e wz ⟨rfl, hb9⟩
   have HT9 := Lib.hid (Bx.up HT.out hb9)
   have HK9 := Lib.hid (HK.out.up hb9)
   clear hb9 HT HK HAB HJ1 hc_0
   go_wp2_with fail
   refine (HF.out y firstB (catB bs) (by have := HY.out; omega) (by decide) HCB.out wz HT9.out).mono ?_
   rintro e wy ⟨rfl, ht, hk⟩
   have HT8 := Lib.hid ht
   have HK8 := Lib.hid (HK9.out.trans hk)
   clear ht hk HT9 HK9
   go_wp2_with fail
   exact ⟨⟨j + 1, _, by omega, by go_num, Lib.hid (HS1.out _ _ _), Lib.hid HTJ.out.symm, HT8, HK8⟩, by simp [intOf]; omega⟩
  ·have hj' : j = n := by omega
   subst hj'
   rw [List.take_of_length_le (by rw [HN.out]; exact Nat.le_refl _)] at HYS
   go_wp2_with fail
   go_end0
   exact ⟨rfl, by rw [← HYS.out]; exact HT.out, HK.out⟩
def CapOk (c : ClaimA) : Prop := c.bases.length ≤ c.cb ∧ c.images.length ≤ c.ci
theorem say_any (G : GP) (gv : Value) (tb : Nat) (s : ByteArray) (rs : List ClaimR) (n : Nat) (hn : rs.length = n) (h64 : n ≤ 64) (hz : s.size = 32) (sh : ∀ r ∈ rs, SayOk r.k ∧ CapOk r.k) (al : Option Addr) (cl : Nat) (w0 w : World) (hb : Below w0.heap.size w0 w) (htb : w0.heap.size ≤ tb) (hT : TalkAt w tb s) (hS : SetAt G w0 al rs) (hC : ∀ r ∈ rs, r.Src w0) :
  Calls Try.prog 112 #[.agg #[gv, .slice al n cl], .pointer (some ⟨tb, 0, none⟩)] w fun e w' => e = .returned (.tuple #[]) ∧ TalkAt w' tb (sayCl s (rs.map ClaimR.k)) ∧ Kept (fun q => q = tb) w w' := by
 have HTK := Lib.hid (fun j (h : j < rs.length) => by
  have h1 := sayCl_take s (rs.map ClaimR.k) j (by rw [List.length_map]; exact h)
  rw [List.getElem_map, ← List.map_take, ← List.map_take] at h1
  exact h1)
 unfold sayC at HTK
 have HF := Lib.hid (fun s lb x hs hl hx w h => (show Calls Try.prog 10 #[.pointer (some ⟨tb, 0, none⟩), .string lb, .string x] w fun e w' => e = .returned (.tuple #[]) ∧ TalkAt w' tb (say1 s lb x) ∧ Kept (fun q => q = tb) w w' from Say_any tb s lb x hs hl hx w h))
 have HS1 := Lib.hid say1_size
 have HT0 := Lib.hid (show sayCl s ([].map ClaimR.k) = s from rfl)
 generalize sayCl s = SC at *
 generalize say1 = S1 at *
 have HC := Lib.hid hC
 have HN := Lib.hid hn
 have HZ := Lib.hid hz
 have HSH := Lib.hid sh
 have HS := Lib.hid hS
 have HT := Lib.hid hT
 have HB0 := Lib.hid hb
 have HTB := Lib.hid htb
 have HLT := Lib.hid hT.lt
 clear hC hn hz sh hS hT hb htb
 go_enter Try.func112, Try.ntmps112
 go_wp2_with fail
 obtain ⟨w1, hq1, hb9, hz9, Hp⟩ := new1 w 121 [gv, .slice al n cl]
 rw [hq1]
 clear hq1
 have HB := Lib.hid hb9
 have HZS := hz9
 clear hb9 hz9
 have p_ := Hp.out.c2
 have HKP := Lib.hid ((Kept.refl (fun q => q = tb) w).up HB.out)
 have HT1 := Lib.hid (Bx.up HT.out HB.out)
 have HP0 := Lib.hid (show ¬ w.heap.size = tb by have := HLT.out; omega)
 go_wp2_with fail
 go_loopw [9] (fun i wr => ∃ (j : Nat) (y : ByteArray), j ≤ n ∧ i = .int .i64 (j : Int) ∧ Hid (y.size = 32) ∧ Hid (y = SC ((rs.take j).map ClaimR.k)) ∧ Hid (TalkAt wr tb y) ∧ Hid (Kept (fun q => q = tb) w wr)) (fun i _ => n - (intOf i).toNat)
 case atStart => exact ⟨0, s, Nat.zero_le _, rfl, HZ, HT0.out.symm, HT1, HKP⟩
 case round =>
  clear HT HT1 HKP HB Hp p_
  obtain ⟨j, y, hj, rfl, HY, HYS, HT, HK⟩ := hrel
  have HB := Lib.hid (Below.keptP HB0.out HK.out HB0.out.size (fun q hq => hq ▸ HTB.out))
  by_cases hjn : j < n
  ·have hjl : j < rs.length := by rw [HN.out]; exact hjn
   obtain ⟨bl, ol, rfl, hbl0, hc⟩ := (HS.out.s.up HB.out).elem ClaimR.cells_len (by omega) j hjl
   have hc_0 := hc 0 _ rfl
   rw [Nat.add_zero] at hc_0
   have hc_1 := hc 1 _ rfl
   have hc_2 := hc 2 _ rfl
   clear hc
   have hsr := HC.out _ (List.getElem_mem hjl)
   have hsh := HSH.out _ (List.getElem_mem hjl)
   unfold SayOk CapOk at hsh
   have HSJ := Lib.hid hsh
   have HTJ := Lib.hid (HTK.out j hjl)
   generalize rs[j] = r at *
   have hq0 := hsr.c 0 _ rfl
   have hq1 := hsr.c 1 _ rfl
   rw [Nat.add_zero] at hq0
   have HPL := Lib.hid hsr.l
   have HAB := Lib.hid hsr.k.b
   have HAJ := Lib.hid hsr.k.i
   have HQ0 := Lib.hid hq0
   have HQ1 := Lib.hid hq1
   clear hsr hsh hq0 hq1
   generalize r.k.bases = bs at *
   generalize r.k.images = ims at *
   generalize r.k.ab = ab at *
   generalize r.k.ai = ai at *
   generalize r.k.cb = cb at *
   generalize r.k.ci = ci at *
   generalize r.pb = pb at *
   generalize r.po = po at *
   rw [← HYS.out] at HTJ
   have HCB := Lib.hid (cat_small HSJ.out.1.1 HSJ.out.1.2.2.1)
   have HCI := Lib.hid (cat_small HSJ.out.1.2.1 HSJ.out.1.2.2.2)
   have HJ1 := Lib.hid (fun w h => sJoin_any bs (by have := HSJ.out.1.1; omega) (fun x hx => Nat.le_trans (HSJ.out.1.2.2.1 x hx) (by decide)) ab cb HSJ.out.2.1 w h)
   have HJ2 := Lib.hid (fun w h => sJoin_any ims (by have := HSJ.out.1.2.1; omega) (fun x hx => Nat.le_trans (HSJ.out.1.2.2.2 x hx) (by decide)) ai ci HSJ.out.2.2 w h)
   have HRL := Lib.hid HT.out.lt
   clear HYS HSJ
   have BL := Lib.hid (Below.refl wr.heap.size wr)
   obtain ⟨w2, hq2, hb9, hz9, Hbc⟩ := new1 wr 176 [.pointer (some ⟨pb, po, none⟩), .slice (some ⟨r.bb, r.bo, none⟩) bs.length r.bc, .slice (some ⟨r.ib, r.io, none⟩) ims.length r.ic]
   replace BL := hbu BL hb9
   replace HZS := sz HZS hz9.out
   clear hb9 hz9
   have bc_ := Hbc.out.c3
   have hd0 := ((below_up HB.out BL.out).cell (p := ⟨pb, po, none⟩) HPL.out).trans HQ0.out
   go_wp2_with fail
   clear hq2
   refine (HJ1.out _ (HAB.out.up (below_up HB.out BL.out))).mono ?_
   rintro e wz ⟨rfl, hb9⟩
   have HBZ := Lib.hid (below_up BL.out hb9)
   have HT9 := Lib.hid (Bx.up HT.out HBZ.out)
   have HK9 := Lib.hid (HK.out.up HBZ.out)
   have HBC := Lib.hid (Bx.up Hbc.out hb9)
   have HB9 := Lib.hid (below_up HB.out HBZ.out)
   clear hb9 BL HT HK HB HJ1 Hbc
   go_wp2_with fail
   refine (HF.out y basesB (catB bs) (by have := HY.out; omega) (by decide) HCB.out wz HT9.out).mono ?_
   rintro e wy ⟨rfl, ht, hk⟩
   have HT8 := Lib.hid ht
   have HK8 := Lib.hid (HK9.out.trans hk)
   have HB8 := Lib.hid (Below.keptP HB9.out hk HB9.out.size (fun q hq => hq ▸ HTB.out))
   have Hbc := Lib.hid (HBC.out.keptP hk (show ¬ wr.heap.size = tb by have := HRL.out; omega))
   have hcc := Hbc.out.cell (i := 0) rfl
   have hd1 := (HB8.out.cell (p := ⟨pb, po + 1, none⟩) HPL.out).trans HQ1.out
   clear ht hk HT9 HK9 HB9 HBC HBZ
   go_wp2_with fail
   refine (HJ2.out wy (HAJ.out.up HB8.out)).mono ?_
   rintro e wx ⟨rfl, hb9⟩
   have HT7 := Lib.hid (Bx.up HT8.out hb9)
   have HK7 := Lib.hid (HK8.out.up hb9)
   clear hb9 HT8 HK8 HB8 HJ2
   go_wp2_with fail
   refine (HF.out (S1 y basesB (catB bs)) imagesB (catB ims) (by rw [HS1.out]; decide) (by decide) HCI.out wx HT7.out).mono ?_
   rintro e wv ⟨rfl, ht, hk⟩
   have HT6 := Lib.hid ht
   have HK6 := Lib.hid (HK7.out.trans hk)
   clear ht hk HT7 HK7
   go_wp2_with fail
   exact ⟨⟨j + 1, _, by omega, by go_num, Lib.hid (HS1.out _ _ _), Lib.hid HTJ.out.symm, HT6, HK6⟩, by simp [intOf]; omega⟩
  ·have hj' : j = n := by omega
   subst hj'
   rw [List.take_of_length_le (by rw [HN.out]; exact Nat.le_refl _)] at HYS
   go_wp2_with fail
   go_end0
   exact ⟨rfl, by rw [← HYS.out]; exact HT.out, HK.out⟩
end Go.Proofs.Ytdlnnkbigeiilaa
namespace Go.Proofs.Ytdlnnkbigeiilaa
open Go.RowKit
theorem kept_grown {b : Nat} {W w : World} (h : Kept (fun q => q = b) W w) : W.grownBy w (some b) :=
 ⟨h.os, h.tape, h.output, h.size, fun q hq hne => h.block q hq (fun e => hne (by rw [e]))⟩
theorem grp_kind (k : Nat) (h1 : 1 ≤ k) (h3 : k ≤ 3) : (grp k).kind = k := by
 obtain rfl | rfl | rfl : k = 1 ∨ k = 2 ∨ k = 3 := by omega
 all_goals rfl
theorem eachA_small {G : GP} {val : Nat → Nat → Nat} {ms : List Nat} {n : Nat} (hs : G.size ≤ 32) (h8 : ∀ i, ms.getD i 0 ≤ 8) {ro : List RowA} (hm : ro.map RowA.l = eachA G val ms n) : ∀ r ∈ ro, r.l.length ≤ 8 ∧ ∀ x ∈ r.l, x.size ≤ 32 := by
 intro r hr
 have h1 : r.l ∈ ro.map RowA.l := List.mem_map.2 ⟨r, hr, rfl⟩
 rw [hm] at h1
 unfold eachA at h1
 obtain ⟨i, _, hi⟩ := List.mem_map.1 h1
 rw [← hi]
 refine ⟨by rw [eachL_len]; exact h8 i, fun x hx => ?_⟩
 unfold eachL at hx
 obtain ⟨t, _, rfl⟩ := List.mem_map.1 hx
 rw [textS_size]
 exact hs
theorem lens_small {l : List ClaimA} (h : ∀ c ∈ l, c.bases.length ≤ 8) (i : Nat) : (lens l).getD i 0 ≤ 8 := by
 unfold lens
 by_cases hi : i < l.length
 ·rw [List.getD_eq_getElem?_getD, List.getElem?_map, List.getElem?_eq_getElem hi]
  exact h _ (List.getElem_mem hi)
 ·rw [List.getD_eq_getElem?_getD, List.getElem?_map, List.getElem?_eq_none (by omega)]
  exact Nat.zero_le _
end Go.Proofs.Ytdlnnkbigeiilaa
namespace Go.Proofs.Ytdlnnkbigeiilaa
open Go.RowKit
structure SetR where
 s : SetA
 a : Option Addr
 c : Nat
 rs : List ClaimR
def SetR.cells (gb : Nat) (t : SetR) : List Value := [.pointer (some ⟨gb, 0, none⟩), .slice t.a t.rs.length t.c]
theorem SetR.cells_len (gb : Nat) (t : SetR) : (t.cells gb).length = 2 := rfl
structure SetR.Of (G : GP) (t : SetR) : Prop where
 k : t.rs.map ClaimR.k = t.s.l
 p : ∃ bl ol, t.s.a = some ⟨bl, ol, none⟩ ∧ RsP bl ol t.rs
 w : wrongE G t.s.l = 0
theorem SetAt.keptQ {G : GP} {P : Nat → Prop} {w w' : World} {a : Option Addr} {rs : List ClaimR} (h : SetAt G w a rs) (hk : Kept P w w') (h1 : ∀ x, a = some x → ¬ P x.block) (h2 : ∀ r ∈ rs, ¬ P r.bb ∧ ¬ P r.ib) : SetAt G w' a rs :=
 ⟨h.s.kept hk h1, fun r hr => (h.e r hr).keptP hk (h2 r hr).1 (h2 r hr).2⟩
theorem SetAt.lt {G : GP} {w : World} {a : Option Addr} {rs : List ClaimR} (h : SetAt G w a rs) (h0 : 0 < rs.length) (x : Addr) (hx : a = some x) : x.block < w.heap.size :=
 Sl.lt h.s (flat_ne ClaimR.cells_len (by omega) (List.length_pos_iff.1 h0)) x hx
structure SetR.Off (G : GP) (v : Value) (N : Nat) (w : World) (t : SetR) : Prop where
 at_ : SetAt G w t.a t.rs
 new : SetNew N t.a t.rs
 lt : ∀ x, t.a = some x → x.block < w.heap.size
 na : ∀ x, t.a = some x → v.ownBlock ≠ some x.block
 nr : ∀ r ∈ t.rs, v.ownBlock ≠ some r.bb ∧ v.ownBlock ≠ some r.ib
def SetsOff (G : GP) (v : Value) (N : Nat) (w : World) (ts : List SetR) : Prop := ∀ t ∈ ts, t.Off G v N w
theorem SetsOff.up {G : GP} {v : Value} {N : Nat} {w w1 : World} {ts : List SetR} (h : SetsOff G v N w ts) (hb : Below w.heap.size w w1) : SetsOff G v N w1 ts := fun t ht =>
 ⟨(h t ht).at_.up hb, (h t ht).new, fun x hx => Nat.lt_of_lt_of_le ((h t ht).lt x hx) hb.size, (h t ht).na, (h t ht).nr⟩
theorem SetsOff.push {G : GP} {v : Value} {N g n c : Nat} {w w1 : World} {ts : List SetR} {r : SetR} (h : SetsOff G v N w ts) (hr : r.Off G v N w) (hk : Kept (fun q => Value.ownBlock v = some q) w w1) (hf : Value.ownBlock v = some g ∨ w.heap.size ≤ g) : SetsOff G (.slice (some ⟨g, 0, none⟩) n c) N w1 (ts ++ [r]) := fun s hs => by
 have hh : s.Off G v N w := by
  rcases List.mem_append.1 hs with h9 | h9
  ·exact h s h9
  ·rw [List.mem_singleton.1 h9]; exact hr
 have key : ∀ b, b < w.heap.size → v.ownBlock ≠ some b → (Value.slice (some ⟨g, 0, none⟩) n c).ownBlock ≠ some b := fun b hl hv e => by
  have e9 : g = b := Option.some.inj e
  rcases hf with hf | hf
  ·exact hv (by rw [hf, e9])
  ·omega
 exact ⟨hh.at_.keptQ hk hh.na hh.nr, hh.new, fun x hx => Nat.lt_of_lt_of_le (hh.lt x hx) hk.size, fun x hx => key _ (hh.lt x hx) (hh.na x hx), fun r hr => ⟨key _ (hh.at_.e r hr).bl (hh.nr r hr).1, key _ (hh.at_.e r hr).il (hh.nr r hr).2⟩⟩
theorem sread_ok (G : GP) (ok : G.Ok) (gb : Nat) (l : List ClaimA) (al : Option Addr) (cl : Nat) (w : World) (hG : GroupAt w gb G) (hC : ClaimsAt w al l) (hz : wrongE G l = 0) :
  Calls Try.prog 107 #[.pointer (some ⟨gb, 0, none⟩), .slice al l.length cl] w fun e w' => Below w.heap.size w w' ∧ ∃ rs a c, e = .returned (.tuple #[.agg #[.pointer (some ⟨gb, 0, none⟩), .slice a rs.length c], .int .i64 0]) ∧ rs.map ClaimR.k = l ∧ SetAt G w' a rs ∧ SetNew w.heap.size a rs ∧ (∃ bl ol, al = some ⟨bl, ol, none⟩ ∧ RsP bl ol rs) :=
 (sread_any G ok gb l al cl w hG hC).mono fun _ _ h => ⟨h.1, by have h2 := h.2; rwa [if_pos hz] at h2⟩
theorem sread_bad (G : GP) (ok : G.Ok) (gb : Nat) (l : List ClaimA) (al : Option Addr) (cl : Nat) (w : World) (hG : GroupAt w gb G) (hC : ClaimsAt w al l) (hz : ¬ wrongE G l = 0) :
  Calls Try.prog 107 #[.pointer (some ⟨gb, 0, none⟩), .slice al l.length cl] w fun e w' => e = .returned (.tuple #[.agg #[.pointer none, .slice none 0 0], .int .i64 (wrongE G l : Int)]) ∧ Below w.heap.size w w' :=
 (sread_any G ok gb l al cl w hG hC).mono fun _ _ h => ⟨by have h2 := h.2; rwa [if_neg hz] at h2, h.1⟩
theorem infoSet : (Try.prog.info? 121).map (fun i => (i.zero, i.size, i.bytes)) = some (some (.agg #[.pointer none, .slice none 0 0]), 2, 32) := by kernel_rfl
def ReadSets (G : GP) (gb : Nat) (ss : List SetA) (w : World) (e : Ending) (w' : World) : Prop :=
 Below w.heap.size w w' ∧ if setsE G ss = 0 then ∃ (ts : List SetR) (a : Option Addr) (c : Nat), e = .returned (.tuple #[.slice a ts.length c, .int .i64 0]) ∧ ts.map SetR.s = ss ∧ Sl w' w'.heap.size a (ts.flatMap (SetR.cells gb)) ∧ (∀ t ∈ ts, SetAt G w' t.a t.rs ∧ SetNew w.heap.size t.a t.rs) ∧ (∀ t ∈ ts, t.Of G) ∧ (∀ x, a = some x → w.heap.size ≤ x.block) else e = .returned (.tuple #[.slice none 0 0, .int .i64 (setsE G ss : Int)])
theorem sRAll_long (gb n : Nat) (h : 16 < n) (al : Option Addr) (cl : Nat) (w : World) :
  Calls Try.prog 66 #[.pointer (some ⟨gb, 0, none⟩), .slice al n cl] w fun e w' => e = .returned (.tuple #[.slice none 0 0, .int .i64 3]) ∧ Below w.heap.size w w' := by
 have hd1 : decide ((n : Int) > 16) = true := by simp; omega
 clear h
 go_enter Try.func66, Try.ntmps66
 go_wp2_with fail
 go_ret2
 exact ⟨rfl, Below.refl _ _⟩
theorem sRAll_none (gb : Nat) (al : Option Addr) (cl : Nat) (w : World) :
  Calls Try.prog 66 #[.pointer (some ⟨gb, 0, none⟩), .slice al 0 cl] w fun e w' => e = .returned (.tuple #[.slice none 0 0, .int .i64 2]) ∧ Below w.heap.size w w' := by
 go_enter Try.func66, Try.ntmps66
 go_wp2_with fail
 go_ret2
 exact ⟨rfl, Below.refl _ _⟩
theorem sRAll_body (G : GP) (ok : G.Ok) (gb : Nat) (ss : List SetA) (n : Nat) (hn : ss.length = n) (h0 : 0 < n) (h16 : n ≤ 16) (al : Option Addr) (cl : Nat) (w : World) (hG : GroupAt w gb G) (hC : SetsAt w al ss) :
  Calls Try.prog 66 #[.pointer (some ⟨gb, 0, none⟩), .slice al n cl] w (ReadSets G gb ss w) := by
 have HOKC := Lib.hid (fun (l : List ClaimA) a c w hG hC (hz : wrongE G l = 0) => sread_ok G ok gb l a c w hG hC hz)
 have HBAD := Lib.hid (fun (l : List ClaimA) a c w hG hC (hz : ¬ wrongE G l = 0) => sread_bad G ok gb l a c w hG hC hz)
 have HG := Lib.hid hG
 have HC := Lib.hid hC
 have HN := Lib.hid hn
 have HSE := Lib.hid (show setsE G ss = wrongsE G ss by unfold setsE; rw [if_neg (by omega), if_neg (by omega)])
 clear ok hG hC hn
 have hd1 : decide ((n : Int) > 16) = false := by simp; omega
 have hd2 : ((n : Int) == 0) = false := by simp; omega
 go_enter Try.func66, Try.ntmps66
 go_wp2_with fail
 go_loopw [21, 6] (fun i v wr => ∃ (j : Nat) (g : Option Addr) (c9 : Nat) (ts : List SetR), j ≤ n ∧ i = .int .i64 j ∧ v = .slice g j c9 ∧ Hid (ts.map SetR.s = ss.take j) ∧ Hid (wrongsE G (ss.take j) = 0) ∧ Hid (Below w.heap.size w wr) ∧ Hid (RowO w.heap.size wr 121 2 (.slice g j c9) j (ts.flatMap (SetR.cells gb))) ∧ Hid (SetsOff G (.slice g j c9) w.heap.size wr ts) ∧ Hid (∀ t ∈ ts, t.Of G)) (fun i _ _ => n - (intOf i).toNat)
 case atStart => exact ⟨0, none, 0, [], Nat.zero_le _, rfl, rfl, rfl, rfl, Below.refl _ _, RowO.nil, Lib.hid (show SetsOff G _ _ _ [] from fun _ h => absurd h (by simp)), Lib.hid (fun _ h => absurd h (by simp))⟩
 case round =>
  obtain ⟨j, g, c9, ts, hj, rfl, rfl, HTS, HWR, HB, Hr, HSO, HOF⟩ := hrel
  have HBS := Lib.hid HB.out.size
  have HZS := HBS
  have BR := Lib.hid (Below.refl wr.heap.size wr)
  have hro := Hr.out.lt
  have HRO := Lib.hid hro
  clear hro
  by_cases hjn : j < n
  ·have hjl : j < ss.length := by rw [HN.out]; exact hjn
   obtain ⟨bl, ol, rfl, hbl0, hc⟩ := (HC.out.s.up HB.out).elem SetA.cells_len (by omega) j hjl
   have hc_0 := hc 0 _ rfl
   rw [Nat.add_zero] at hc_0
   clear hc
   rw [Nat.mul_one] at hc_0
   have HAT := Lib.hid (HC.out.one j hjl)
   have HTK := Lib.hid (List.take_succ_eq_append_getElem hjl)
   have HWN := Lib.hid (wrongsE_not (G := G) hjl HWR.out)
   have HWS := Lib.hid (wrongsE_snoc (G := G) hjl HWR.out)
   generalize ss[j] = s at *
   by_cases hz : wrongE G s.l = 0
   ·have HRD := Lib.hid (fun w h1 h2 => HOKC.out s.l s.a s.c w h1 h2 hz)
    have HWZ := Lib.hid (HWS.out hz)
    have HZ := Lib.hid hz
    clear HWN HWS hz
    go_wp2_with fail
    refine (HRD.out wr (HG.out.up HB.out) (HAT.out.up HB.out)).mono ?_
    rintro e w1 ⟨hb9, rs, a9, c8, rfl, hk9, hs9, hn9, ho9⟩
    replace Hr := Lib.hid (Hr.out.up hb9)
    replace BR := hbu BR hb9
    replace HB := hbu HB hb9
    replace HZS := sz HZS hb9.size
    have HRK := Lib.hid hk9
    clear hk9
    have HST := Lib.hid hs9
    clear hs9
    have HSN := Lib.hid hn9
    clear hn9
    have HSR := Lib.hid ho9
    clear ho9 hb9
    have HRL := Lib.hid (show 0 < rs.length by have h9 := congrArg List.length HRK.out; rw [List.length_map] at h9; rw [h9]; exact (shape_ok (wrong_ok HZ.out).1).1)
    obtain ⟨w2, hq2, hb9, hz9, Hbs⟩ := new1 w1 121 [.pointer (some ⟨gb, 0, none⟩), .slice a9 rs.length c8]
    replace Hr := Lib.hid (Hr.out.up hb9)
    replace HST := Lib.hid (HST.out.up hb9)
    replace BR := hbu BR hb9
    replace HB := hbu HB hb9
    replace HZS := sz HZS hz9.out
    clear hb9 hz9
    have bs_ := Hbs.out.c2
    have HOFF := Lib.hid (HSO.out.up BR.out)
    have HONE := Lib.hid (show SetR.Off G (.slice g j c9) w.heap.size w2 ⟨s, a9, c8, rs⟩ from ⟨HST.out, HSN.out.mono HBS.out, fun x hx => HST.out.lt HRL.out x hx, fun x hx e => by have a1 := HRO.out _ e; have a2 := HSN.out.a x hx; omega, fun r hr => ⟨fun e => by have a1 := HRO.out _ e; have a2 := HSN.out.e r hr; omega, fun e => by have a1 := HRO.out _ e; have a2 := HSN.out.e r hr; omega⟩⟩)
    clear HSO HSN HRO BR
    have HKP := Lib.hid (Kept.refl (fun q9 => Value.ownBlock (.slice g j c9) = some q9) w2)
    obtain ⟨i9, hi9, hz90, hz91, hz92⟩ := info_parts infoSet
    go_wp2_with (at_builtin; refine wpList_pushF (w.heap.size) w2 (by have g0 := HZS.out; omega) rfl _ _ 114 rfl 121 i9 _ 2 32 Try.underlying114 hi9 hz90 hz91 hz92 rfl (by omega) ((.slice g j c9)) (j) ((ts.flatMap (SetR.cells gb))) rfl Hr.out _ _ _ rfl rfl rfl (by simp [Value.oneCell']) (by omega) (by unfold maxLen; omega) ?_)
    intro g3 c3 w3 hown9 hg9 hf9
    clear hq2 bs_ Hbs
    have hb9 := Below.grown HB.out hg9 (by have g0 := HZS.out; omega) (fun q hq => Nat.le_trans (show w.heap.size ≤ w.heap.size by have g0 := HZS.out; omega) (Hr.out.lt q hq).1)
    clear HST
    replace HKP := Lib.hid (Kept.grown HKP.out hg9 (fun q hq => Or.inr hq))
    replace HZS := sz HZS hg9.size
    clear Hr HB
    have Hr := Lib.hid hown9
    have HB := Lib.hid hb9
    clear hb9 hown9 hg9 hi9 hz90 hz91 hz92
    have HRP := Lib.hid (fun (n9 c9 : Nat) => SetsOff.push (n := n9) (c := c9) HOFF.out HONE.out HKP.out hf9)
    go_wp2_with fail
    go_roundw
    case rel => exact ⟨j + 1, _, _, ts ++ [⟨s, a9, c8, rs⟩], by omega, by go_num, rfl, Lib.hid (by rw [List.map_append, HTS.out, HTK.out]; rfl), HWZ, HB, Hr.out.eq (by rw [List.flatMap_append]; simp [SetR.cells]) rfl, Lib.hid (HRP.out _ _), Lib.hid (fun t ht => by
     rcases List.mem_append.1 ht with h9 | h9
     ·exact HOF.out t h9
     ·rw [List.mem_singleton.1 h9]; exact ⟨HRK.out, HSR.out, HZ.out⟩)⟩
    case measure => simp [intOf]; omega
   ·have HRD := Lib.hid (fun w h1 h2 => HBAD.out s.l s.a s.c w h1 h2 hz)
    have HWZ := Lib.hid (HSE.out.trans (HWN.out hz))
    generalize wrongE G s.l = z at *
    have hd3 : ((z : Int) != 0) = true := by simp; omega
    have HZ := Lib.hid hz
    clear HWN HWS hz Hr HSO HRO BR HTS HTK HWR HOF
    go_wp2_with fail
    refine (HRD.out wr (HG.out.up HB.out) (HAT.out.up HB.out)).mono ?_
    rintro e w1 ⟨rfl, hb9⟩
    replace HB := hbu HB hb9
    replace HZS := sz HZS hb9.size
    clear hb9
    obtain ⟨w2, hq2, hb9, hz9, Hbs⟩ := new1 w1 121 [.pointer none, .slice none 0 0]
    replace HB := hbu HB hb9
    replace HZS := sz HZS hz9.out
    clear hb9 hz9
    have bs_ := Hbs.out.c2
    have f3_bs := Hbs.out.frozen
    have o3_bs_ := bs_; clear bs_
    obtain ⟨w3, hq3, hg9, hz9, hx9⟩ := put2 Hbs 0 (.pointer none) 1 (.slice none 0 0) [.pointer none, .slice none 0 0] rfl
    replace HB := hbg HB hg9 (by have g0 := HZS.out; omega)
    replace HZS := sz HZS hz9.out
    replace Hbs := hx9
    clear hx9 hg9 hz9
    have bs_ := Hbs.out.c2
    go_wp2_with fail
    clear hq3 o3_bs_ f3_bs hq2
    go_ret2
    exact ⟨HB.out, by rw [HWZ.out, if_neg HZ.out]; rfl⟩
  ·have hjn' : j = n := by omega
   subst hjn'
   have HTS2 := Lib.hid (show ts.map SetR.s = ss by have h9 := HTS.out; rwa [List.take_of_length_le (by rw [HN.out]; exact Nat.le_refl _)] at h9)
   have HW2 := Lib.hid (show setsE G ss = 0 by have h9 := HWR.out; rw [List.take_of_length_le (by rw [HN.out]; exact Nat.le_refl _)] at h9; rw [HSE.out, h9])
   have HTL := Lib.hid (show ts.length = j by have h9 := congrArg List.length HTS2.out; rwa [List.length_map, HN.out] at h9)
   clear HTS HWR HSE
   go_wp2_with fail
   go_ret2
   exact ⟨HB.out, by rw [if_pos HW2.out]; exact ⟨ts, g, c9, by rw [HTL.out]; rfl, HTS2.out, Hr.out.sl, fun t ht => ⟨(HSO.out t ht).at_, (HSO.out t ht).new⟩, HOF.out, fun x hx => RowO.own_le Hr.out hx⟩⟩
theorem sRAll_any (G : GP) (ok : G.Ok) (gb : Nat) (ss : List SetA) (al : Option Addr) (cl : Nat) (w : World) (hG : GroupAt w gb G) (hC : SetsAt w al ss) :
  Calls Try.prog 66 #[.pointer (some ⟨gb, 0, none⟩), .slice al ss.length cl] w (ReadSets G gb ss w) := by
 by_cases h1 : 16 < ss.length
 ·have e : setsE G ss = 3 := by unfold setsE; rw [if_pos h1]
  exact (sRAll_long gb _ h1 al cl w).mono fun _ _ h => ⟨h.2, by rw [e, if_neg (by decide)]; exact h.1⟩
 ·by_cases h2 : ss.length = 0
  ·have e : setsE G ss = 2 := by unfold setsE; rw [if_neg h1, if_pos h2]
   rw [h2]
   exact (sRAll_none gb al cl w).mono fun _ _ h => ⟨h.2, by rw [e, if_neg (by decide)]; exact h.1⟩
  ·exact sRAll_body G ok gb ss _ rfl (by omega) (by omega) al cl w hG hC
theorem stalk_any (G : GP) (gb : Nat) (label : ByteArray) (hlb : label.size < 140737488355328) (hk : G.kind < 256) (ts : List SetR) (n : Nat) (hn : ts.length = n) (h16 : n ≤ 16) (sh : ∀ t ∈ ts, t.rs.length ≤ 64 ∧ ∀ r ∈ t.rs, SayOk r.k ∧ CapOk r.k) (al : Option Addr) (cl : Nat) (w : World) (hG : GroupAt w gb G) (hS : Sl w w.heap.size al (ts.flatMap (SetR.cells gb))) (hT : ∀ t ∈ ts, SetAt G w t.a t.rs) (hC : ∀ t ∈ ts, ∀ r ∈ t.rs, r.Src w) :
  Calls Try.prog 69 #[.pointer (some ⟨gb, 0, none⟩), .string label, .slice al n cl] w fun e w' => ∃ tb, e = .returned (.pointer (some ⟨tb, 0, none⟩)) ∧ w.heap.size ≤ tb ∧ TalkAt w' tb (saySs (beginT eitherB label (G.kind : Int)) (ts.map fun t => t.rs.map ClaimR.k)) ∧ Below w.heap.size w w' := by
 have HF1 := Lib.hid (fun w hG => sbegin_any G gb eitherB label (by decide) hlb hk w hG)
 have HF2 := Lib.hid (fun gv tb s rs hz' h64 sh al cl w0 w hb htb hT hS hC => say_any G gv tb s rs rs.length rfl h64 hz' sh al cl w0 w hb htb hT hS hC)
 have HZ1 := Lib.hid (show (beginT eitherB label (G.kind : Int)).size = 32 from say1_size _ _ _)
 have HTK := Lib.hid (fun j (h : j < ts.length) => by
  have h1 := saySs_take (beginT eitherB label (G.kind : Int)) (ts.map fun t => t.rs.map ClaimR.k) j (by rw [List.length_map]; exact h)
  rw [List.getElem_map, ← List.map_take, ← List.map_take] at h1
  exact h1)
 unfold sayS at HTK
 have HZ2 := Lib.hid sayCl_size
 have HF := Lib.hid (fun tb s lb x hs hl hx w h => (show Calls Try.prog 10 #[.pointer (some ⟨tb, 0, none⟩), .string lb, .string x] w fun e w' => e = .returned (.tuple #[]) ∧ TalkAt w' tb (say1 s lb x) ∧ Kept (fun q => q = tb) w w' from Say_any tb s lb x hs hl hx w h))
 have HS1 := Lib.hid say1_size
 have HT0 := Lib.hid (show saySs (beginT eitherB label (G.kind : Int)) ([].map fun (t : SetR) => t.rs.map ClaimR.k) = beginT eitherB label (G.kind : Int) from rfl)
 generalize saySs (beginT eitherB label (G.kind : Int)) = SS at *
 generalize beginT eitherB label (G.kind : Int) = BT at *
 generalize sayCl = SC at *
 generalize say1 = S1 at *
 have HG := Lib.hid hG
 have HN := Lib.hid hn
 have HSH := Lib.hid sh
 have HS := Lib.hid hS
 have HT := Lib.hid hT
 have HC := Lib.hid hC
 clear hn sh hS hT hC hG hlb hk
 go_enter Try.func69, Try.ntmps69
 go_wp2_with fail
 refine (HF1.out w HG.out).mono ?_
 rintro e wa ⟨tb, rfl, hge, ht, hb⟩
 have HGE := Lib.hid hge
 have Ht := Lib.hid (show Bx wa tb 67 [.string BT] from ht)
 have HB := Lib.hid hb
 clear hge ht hb
 go_wp2_with fail
 go_loopw [15] (fun i wr => ∃ (j : Nat) (y : ByteArray), j ≤ n ∧ i = .int .i64 (j : Int) ∧ Hid (y.size = 32) ∧ Hid (y = SS ((ts.take j).map fun t => t.rs.map ClaimR.k)) ∧ Hid (Bx wr tb 67 [.string y]) ∧ Hid (Below w.heap.size w wr)) (fun i _ => n - (intOf i).toNat)
 case atStart => exact ⟨0, BT, Nat.zero_le _, rfl, HZ1, HT0.out.symm, Ht, HB⟩
 case round =>
  clear Ht HB
  obtain ⟨j, y, hj, rfl, HY, HYS, Ht, HB⟩ := hrel
  by_cases hjn : j < n
  ·have hjl : j < ts.length := by rw [HN.out]; exact hjn
   obtain ⟨bl, ol, rfl, hbl0, hc⟩ := (HS.out.up HB.out).elem (SetR.cells_len gb) (by omega) j hjl
   have hc_0 := hc 0 _ rfl
   rw [Nat.add_zero] at hc_0
   have hc_1 := hc 1 _ rfl
   clear hc
   have HST := Lib.hid (HT.out _ (List.getElem_mem hjl))
   have HSR := Lib.hid (HC.out _ (List.getElem_mem hjl))
   have hsh := HSH.out _ (List.getElem_mem hjl)
   have HTJ := Lib.hid (HTK.out j hjl)
   generalize ts[j] = t9 at *
   have HL64 := Lib.hid hsh.1
   have HSY := Lib.hid hsh.2
   rw [← HYS.out, List.length_map] at HTJ
   clear hsh HYS
   generalize t9.a = ta at *
   generalize t9.c = tc at *
   generalize t9.rs = rs at *
   obtain ⟨m, hm⟩ : ∃ m, rs.length = m := ⟨_, rfl⟩
   have HF3 := Lib.hid (fun s hz => HF2.out (.pointer (some ⟨gb, 0, none⟩)) tb s rs hz HL64.out HSY.out)
   rw [hm] at hc_1 HTJ HL64 HF3
   unfold kindS at HTJ
   have hm0 : (0 : Int) ≤ (m : Int) := by omega
   have hm1 : (m : Int) < 256 := by have := HL64.out; omega
   have HTL := Lib.hid Ht.out.lt
   have HM := Lib.hid hm
   clear hm HF2
   have HZS := HTL
   replace HZS := sz HZS HGE.out
   have t_ := Ht.out.c1
   have BL := Lib.hid (Below.refl wr.heap.size wr)
   have o1_t_ := t_; clear t_
   obtain ⟨w1, hq1, hb9, hz9, Hbs⟩ := new1 wr 121 [.pointer (some ⟨gb, 0, none⟩), .slice ta m tc]
   replace Ht := Lib.hid (Ht.out.up hb9)
   replace BL := hbu BL hb9
   replace HB := hbu HB hb9
   replace HZS := sz HZS hz9.out
   clear hb9 hz9
   have t_ := Ht.out.c1
   have bs_ := Hbs.out.c2
   have o2_t_ := t_; clear t_
   have o2_bs_ := bs_; clear bs_
   obtain ⟨w2, hq2, hb9, hz9, Hr⟩ := new1 w1 5 [.int .u8 (m : Int)]
   replace Ht := Lib.hid (Ht.out.up hb9)
   replace Hbs := Lib.hid (Hbs.out.up hb9)
   replace BL := hbu BL hb9
   replace HB := hbu HB hb9
   replace HZS := sz HZS hz9.out
   clear hb9 hz9
   have t_ := Ht.out.c1
   have bs_ := Hbs.out.c2
   have r_ := Hr.out.c1
   have hcv := run_convert_bytes_arg (P := Try.prog) w2 82 5 Try.underlying82 Try.underlying5 w1.heap.size 0 1 1 [(m : Int)] rfl (fun i hi => by
    obtain rfl : i = 0 := by omega
    exact Hr.out.cell (i := 0) rfl) 9 Try.underlying9
   go_wp2_with fail
   clear hq2 o2_bs_ o2_t_ hq1 o1_t_
   refine (HF.out tb y setB ⟨#[UInt8.ofNat ((m : Nat) : Int).toNat]⟩ (by have := HY.out; omega) (by decide) (show (1 : Nat) < 140737488355328 by decide) w2 Ht.out).mono ?_
   rintro e wb ⟨rfl, ht, hk⟩
   clear r_ Hr BL hcv
   have HK1 := Lib.hid hk
   have Ht1 := Lib.hid (show Bx wb tb 67 [.string (S1 y setB ⟨#[UInt8.ofNat ((m : Nat) : Int).toNat]⟩)] from ht)
   clear ht hk
   have hg9 := HK1.out
   clear t_ bs_ Ht
   replace Hbs := Lib.hid (Bx.keptP (P := fun q9 => q9 = tb) Hbs.out hg9 (show ¬ (wr.heap.size = tb) by have g0 := HZS.out; omega))
   replace HB := Lib.hid (Below.keptP HB.out hg9 (by have g0 := HZS.out; omega) (fun q9 h9 => (show w.heap.size ≤ _ by subst h9; have g0 := HZS.out; omega)))
   replace HZS := sz HZS (show w2.heap.size ≤ wb.heap.size from hg9.size)
   clear hg9
   have bs_ := Hbs.out.c2
   have Ht := Ht1
   clear Ht1
   have t_ := Ht.out.c1
   go_wp2_with fail
   refine (HF3.out (S1 y setB ⟨#[UInt8.ofNat ((m : Nat) : Int).toNat]⟩) (HS1.out _ _ _) ta tc w wb HB.out HGE.out Ht.out HST.out HSR.out).mono ?_
   rintro e wc ⟨rfl, ht, hk⟩
   have HK2 := Lib.hid hk
   have Ht1 := Lib.hid (show Bx wc tb 67 [.string (SC (S1 y setB ⟨#[UInt8.ofNat ((m : Nat) : Int).toNat]⟩) (rs.map ClaimR.k))] from ht)
   clear ht hk
   have hg9 := HK2.out
   clear bs_ t_ Ht
   replace Hbs := Lib.hid (Bx.keptP (P := fun q9 => q9 = tb) Hbs.out hg9 (show ¬ (wr.heap.size = tb) by have g0 := HZS.out; omega))
   replace HB := Lib.hid (Below.keptP HB.out hg9 (by have g0 := HZS.out; omega) (fun q9 h9 => (show w.heap.size ≤ _ by subst h9; have g0 := HZS.out; omega)))
   replace HZS := sz HZS (show wb.heap.size ≤ wc.heap.size from hg9.size)
   clear hg9
   have bs_ := Hbs.out.c2
   have Ht := Ht1
   clear Ht1
   go_wp2_with fail
   exact ⟨⟨j + 1, _, by omega, by go_num, Lib.hid (HZ2.out _ _ (HS1.out _ _ _)), Lib.hid HTJ.out.symm, Ht, HB⟩, by simp [intOf]; omega⟩
  ·have hj' : j = n := by omega
   subst hj'
   rw [List.take_of_length_le (by rw [HN.out]; exact Nat.le_refl _)] at HYS
   go_wp2_with fail
   go_ret
   exact ⟨tb, rfl, HGE.out, by rw [← HYS.out]; exact Ht.out, HB.out⟩
end Go.Proofs.Ytdlnnkbigeiilaa
namespace Go.Proofs.Ytdlnnkbigeiilaa
open Go.RowKit
def vanR (G : GP) (ls : List (List ClaimA)) (cs : List ByteArray) (rs : List (List ByteArray)) (i : Nat) : List (List ByteArray) := eachA G (valB G (G.q.m - numOf (cs.getD i ⟨#[]⟩)) (ls.getD i []) (rs.getD i [])) (lens (ls.getD i [])) (ls.getD i []).length
def vanOk1 (G : GP) (ls : List (List ClaimA)) (cs : List ByteArray) (rs : List (List ByteArray)) (i : Nat) : Bool := isSc G.q.m G.size (cs.getD i ⟨#[]⟩) && decide (scE G (ls.getD i []).length (rs.getD i []) = 0)
def vanOk (G : GP) (ls : List (List ClaimA)) (cs : List ByteArray) (rs : List (List ByteArray)) (j : Nat) : Bool := (List.range j).all (vanOk1 G ls cs rs)
def vanT (G : GP) (ls : List (List ClaimA)) (cs : List ByteArray) (rs : List (List ByteArray)) (t : ByteArray) : Nat → ByteArray
 | 0 => t
 | j + 1 => sayFi (vanT G ls cs rs t j) (vanR G ls cs rs j)
def vanS (cs : List ByteArray) : Nat → Nat
 | 0 => 0
 | j + 1 => vanS cs j + numOf (cs.getD j ⟨#[]⟩)
theorem vanT_size (G : GP) (ls : List (List ClaimA)) (cs : List ByteArray) (rs : List (List ByteArray)) (t : ByteArray) (h : t.size = 32) : ∀ j, (vanT G ls cs rs t j).size = 32
 | 0 => h
 | j + 1 => sayFi_size _ _ (vanT_size G ls cs rs t h j)
theorem vanOk_snoc {G : GP} {ls : List (List ClaimA)} {cs : List ByteArray} {rs : List (List ByteArray)} {j : Nat} (h : vanOk G ls cs rs j = true) (h1 : vanOk1 G ls cs rs j = true) : vanOk G ls cs rs (j + 1) = true := by
 unfold vanOk at h ⊢
 rw [List.range_succ, List.all_append, h, List.all_cons, h1]
 rfl
theorem vanOk_not {G : GP} {ls : List (List ClaimA)} {cs : List ByteArray} {rs : List (List ByteArray)} {j n : Nat} (hj : j < n) (h1 : vanOk1 G ls cs rs j = false) : vanOk G ls cs rs n = false := by
 unfold vanOk
 rw [List.all_eq_false]
 exact ⟨j, List.mem_range.2 hj, by rw [h1]; simp⟩
def vanB (k : Int) (label : ByteArray) (ls : List (List ClaimA)) : ByteArray := saySs (beginT eitherB label k) ls
def vanK (k : Int) (label : ByteArray) (ss : List SetA) (cs : List ByteArray) (rs : List (List ByteArray)) : Bool :=
 decide (1 ≤ k ∧ k ≤ 3) && (decide (setsE (grp k.toNat) ss = 0) && (decide (cs.length = ss.length) && (decide (rs.length = ss.length) && (vanOk (grp k.toNat) (ss.map SetA.l) cs rs ss.length && decide (mont (grp k.toNat).q.m (chN (vanT (grp k.toNat) (ss.map SetA.l) cs rs (vanB k label (ss.map SetA.l)) ss.length) challengeB) = mont (grp k.toNat).q.m (vanS cs ss.length))))))
end Go.Proofs.Ytdlnnkbigeiilaa
namespace Go.Proofs.Ytdlnnkbigeiilaa
open Go.RowKit
structure PvS where
 t : ByteArray
 f : ByteArray
 o : Nat
section
variable (G : GP) (ls : List (List ClaimA)) (wh : Nat)
def pvL (i : Nat) : List ClaimA := ls.getD i []
def pvStep (s : PvS) (i : Nat) : PvS :=
 if i = wh then ⟨sayFi s.t (eachA G (valF G (pvL ls i) (nonceL G s.f (pvL ls i).length)) (lens (pvL ls i)) (pvL ls i).length), askT s.f (pvL ls i).length, s.o⟩
 else ⟨sayFi s.t (eachA G (valB G (G.q.m - chN s.f otherB % G.q.m) (pvL ls i) (nonceL G (chT s.f otherB) (pvL ls i).length)) (lens (pvL ls i)) (pvL ls i).length), askT (chT s.f otherB) (pvL ls i).length, s.o + chN s.f otherB % G.q.m⟩
def pvAt (s : PvS) : Nat → PvS
 | 0 => s
 | j + 1 => pvStep G ls wh (pvAt s j) j
def pvC (s : PvS) (i : Nat) : ByteArray := textS (chN (pvAt G ls wh s i).f otherB % G.q.m) G.size
def pvZ (s : PvS) (i : Nat) : List ByteArray := nonceL G (chT (pvAt G ls wh s i).f otherB) (pvL ls i).length
def pvW (s : PvS) : List ByteArray := nonceL G (pvAt G ls wh s wh).f (pvL ls wh).length
def pvN (s : PvS) (n : Nat) : Nat := chN (pvAt G ls wh s n).t challengeB + (G.q.m - (pvAt G ls wh s n).o % G.q.m)
def pvCj (s : PvS) (j : Nat) : List ByteArray := (List.range j).map fun i => if i = wh then ⟨#[]⟩ else pvC G ls wh s i
def pvAj (s : PvS) (j : Nat) : List (List ByteArray) := (List.range j).map fun i => if i = wh then [] else pvZ G ls wh s i
def pvCs (s : PvS) (n : Nat) : List ByteArray := (List.range n).map fun i => if i = wh then textS (pvN G ls wh s n % G.q.m) G.size else pvC G ls wh s i
def pvAs (s : PvS) (n : Nat) (xs : List ByteArray) : List (List ByteArray) := (List.range n).map fun i => if i = wh then ansL G (pvN G ls wh s n) (pvW G ls wh s) xs else pvZ G ls wh s i
theorem pvStep_size {s : PvS} (h : s.t.size = 32 ∧ s.f.size = 32) (i : Nat) : (pvStep G ls wh s i).t.size = 32 ∧ (pvStep G ls wh s i).f.size = 32 := by
 unfold pvStep
 split
 ·exact ⟨sayFi_size _ _ h.1, askT_size h.2 _⟩
 ·exact ⟨sayFi_size _ _ h.1, askT_size (chT_size _ _) _⟩
theorem pvAt_size {s : PvS} (h : s.t.size = 32 ∧ s.f.size = 32) : ∀ j, (pvAt G ls wh s j).t.size = 32 ∧ (pvAt G ls wh s j).f.size = 32
 | 0 => h
 | j + 1 => pvStep_size G ls wh (pvAt_size h j) j
theorem pvCj_succ (s : PvS) (j : Nat) : pvCj G ls wh s (j + 1) = pvCj G ls wh s j ++ [if j = wh then ⟨#[]⟩ else pvC G ls wh s j] := by
 unfold pvCj
 rw [List.range_succ, List.map_append]
 rfl
theorem pvAj_succ (s : PvS) (j : Nat) : pvAj G ls wh s (j + 1) = pvAj G ls wh s j ++ [if j = wh then [] else pvZ G ls wh s j] := by
 unfold pvAj
 rw [List.range_succ, List.map_append]
 rfl
theorem range_set {α : Type} (f : Nat → α) (v : α) (n i : Nat) : ((List.range n).map f).set i v = (List.range n).map fun j => if j = i then v else f j := by
 apply List.ext_getElem
 ·simp
 ·intro j h1 h2
  rw [List.getElem_set, List.getElem_map, List.getElem_map, List.getElem_range]
  by_cases h : j = i
  ·subst h; simp
  ·rw [if_neg (fun e => h e.symm), if_neg h]
theorem pvCs_eq (s : PvS) (n : Nat) : (pvCj G ls wh s n).set wh (textS (pvN G ls wh s n % G.q.m) G.size) = pvCs G ls wh s n := by
 unfold pvCj pvCs
 rw [range_set]
 refine List.map_congr_left fun i _ => ?_
 by_cases h : i = wh
 ·rw [if_pos h, if_pos h]
 ·rw [if_neg h, if_neg h, if_neg h]
theorem pvAs_eq (s : PvS) (n : Nat) (xs : List ByteArray) : (pvAj G ls wh s n).set wh (ansL G (pvN G ls wh s n) (pvW G ls wh s) xs) = pvAs G ls wh s n xs := by
 unfold pvAj pvAs
 rw [range_set]
 refine List.map_congr_left fun i _ => ?_
 by_cases h : i = wh
 ·rw [if_pos h, if_pos h]
 ·rw [if_neg h, if_neg h, if_neg h]
end
def pvT0 (k : Int) (label : ByteArray) (ls : List (List ClaimA)) (seed : ByteArray) : PvS := ⟨vanB k label ls, say1 (vanB k label ls) seedB seed, 0⟩
def pvE (k : Int) (ss : List SetA) (wh : Int) (xs : List ByteArray) : Nat :=
 if 1 ≤ k ∧ k ≤ 3 then
  (if setsE (grp k.toNat) ss ≠ 0 then setsE (grp k.toNat) ss else
  if wh < 0 ∨ (ss.length : Int) ≤ wh then 4 else
  if scE (grp k.toNat) (pvL (ss.map SetA.l) wh.toNat).length xs ≠ 0 then scE (grp k.toNat) (pvL (ss.map SetA.l) wh.toNat).length xs else
  if holdP (grp k.toNat) (pvL (ss.map SetA.l) wh.toNat) xs = true then 0 else 8)
 else 1
def EithR (er : Int) (C : List ByteArray) (A : List (List ByteArray)) (w : World) (e : Ending) (w' : World) : Prop :=
 Below w.heap.size w w' ∧ ∃ ac cc ar cr ro, e = .returned (.tuple #[.agg #[.slice ac C.length cc, .slice ar A.length cr], .int .i64 er]) ∧ Sl w' w'.heap.size ac (C.map Value.string) ∧ ro.map RowA.l = A ∧ RowsAt w' ar ro ∧ ∀ r ∈ ro, r.Ok
theorem eithR_none (er : Int) {w w' : World} (h : Below w.heap.size w w') : EithR er [] [] w (.returned (.tuple #[.agg #[.slice none 0 0, .slice none 0 0], .int .i64 er])) w' :=
 ⟨h, none, 0, none, 0, [], rfl, Or.inl rfl, rfl, ⟨Or.inl rfl, fun _ h => by cases h⟩, fun _ h => by cases h⟩
end Go.Proofs.Ytdlnnkbigeiilaa
namespace Go.Proofs.Ytdlnnkbigeiilaa
open Go.RowKit
theorem RowO.room {N n m c size : Nat} {a : Option Addr} {w : World} {e : TypeId} {xs : List Value} (h : RowO N w e size (.slice a m c) n xs) : m ≤ c := by
 rcases h.2 with ⟨h1, _⟩ | ⟨g, cap, cur, hv, _, _, h1, _⟩
 ·cases h1; exact Nat.le_refl _
 ·cases hv; exact h1
theorem RowO.none0 {N n m c size : Nat} {a : Option Addr} {w : World} {e : TypeId} {xs : List Value} (h : RowO N w e size (.slice a m c) n xs) : a = none → c = 0 := by
 intro e
 rcases h.2 with ⟨h1, _⟩ | ⟨g, cap, cur, hv, _⟩
 ·cases h1; rfl
 ·cases hv; cases e
theorem kept_gw {b : Nat} {W w : World} (h : Kept (fun q => q = b) W w) : W.grownBy w (some b) :=
 ⟨h.os, h.tape, h.output, h.size, fun q hq hne => h.block q hq (fun e => hne (by rw [e]))⟩
theorem seeded_any (tb : Nat) (s seed : ByteArray) (hs : s.size = 32) (hd : seed.size < 140737488355328) (w : World) (hT : TalkAt w tb s) :
  Calls Try.prog 70 #[.pointer (some ⟨tb, 0, none⟩), .string seed] w fun e w' => ∃ fb, e = .returned (.pointer (some ⟨fb, 0, none⟩)) ∧ w.heap.size ≤ fb ∧ TalkAt w' fb (say1 s seedB seed) ∧ Below w.heap.size w w' := by
 have H1 := Lib.hid (fun w h => Fork_any tb s w h)
 have H2 := Lib.hid (fun fb w h => Say_any fb s seedB seed (by omega) (by decide) hd w h)
 unfold say1
 generalize tagS sayB [s, seedB, seed] = t at *
 have HT := Lib.hid hT
 clear hT hs hd
 go_enter Try.func70, Try.ntmps70
 go_wp2_with fail
 refine (H1.out w HT.out).mono ?_
 rintro e wa ⟨fb, rfl, hge, ht, hb⟩
 have HGE := Lib.hid hge
 have HT1 := Lib.hid ht
 have HB := Lib.hid hb
 clear hge ht hb
 go_wp2_with fail
 refine (H2.out fb wa HT1.out).mono ?_
 rintro e wb ⟨rfl, ht, hk⟩
 have HB2 := Lib.hid (Below.keptP HB.out hk HB.out.size (fun q hq => hq ▸ HGE.out))
 have HT2 := Lib.hid ht
 clear ht hk
 go_wp2_with fail
 go_ret
 exact ⟨fb, rfl, HGE.out, HT2.out, HB2.out⟩
theorem asked_any (G : GP) (ok : G.Ok) (gb tb : Nat) (a : Option Addr) (n c : Nat) (hn : n ≤ 64) (s : ByteArray) (hs : s.size = 32) (w : World) (hG : GroupAt w gb G) (hT : TalkAt w tb s) (hne : ¬ gb = tb) :
  Calls Try.prog 71 #[.agg #[.pointer (some ⟨gb, 0, none⟩), .slice a n c], .pointer (some ⟨tb, 0, none⟩)] w fun e w' => ∃ a' c', e = .returned (.slice a' n c') ∧ Sl w' w'.heap.size a' ((nonceL G s n).flatMap (limC G.q.m)) ∧ (∀ x, a' = some x → w.heap.size ≤ x.block) ∧ TalkAt w' tb (askT s n) ∧ Kept (fun q => q = tb) w w' := by
 have HCH := Lib.hid (fun t (ht : t.size = 32) w h1 h2 => gChallenge_any G ok gb tb t nonceB (by omega) (by decide) w h1 h2 hne)
 have HSC := Lib.hid (fun j => limC_text ok (chN (askT s j) nonceB))
 have HSU := Lib.hid (show ∀ j, (nonceL G s (j + 1)).flatMap (limC G.q.m) = (nonceL G s j).flatMap (limC G.q.m) ++ limC G.q.m (nonceS G s j) from fun j => by rw [nonceL_succ, List.flatMap_append]; simp)
 unfold nonceS at HSU
 have HAZ := Lib.hid (fun j => askT_size hs j)
 have HAS := Lib.hid (show ∀ j, askT s (j + 1) = chT (askT s j) nonceB from fun _ => rfl)
 have H0 := Lib.hid (show askT s 0 = s ∧ (nonceL G s 0).flatMap (limC G.q.m) = [] from ⟨rfl, rfl⟩)
 generalize askT s = AT at *
 generalize nonceL G s = NL at *
 generalize chN = CN at *
 generalize chT = CT at *
 have HG := Lib.hid hG
 have HGL := Lib.hid hG.lt
 have HTL := Lib.hid hT.lt
 have HT := Lib.hid (show TalkAt w tb (AT 0) from H0.out.1 ▸ hT)
 clear hG hT hs
 go_enter Try.func71, Try.ntmps71
 go_wp2_with fail
 obtain ⟨w1, hq1, hb9, hz9, Hbs⟩ := new1 w 121 [.pointer (some ⟨gb, 0, none⟩), .slice a n c]
 rw [hq1]
 clear hq1
 have HB := Lib.hid hb9
 have HZS := hz9
 clear hb9 hz9
 have bs_ := Hbs.out.c2
 have HK1 := Lib.hid ((Kept.refl (fun q => q = tb) w).up HB.out)
 have HT1 := Lib.hid (Bx.up HT.out HB.out)
 have HBS := Lib.hid Hbs.out.lt
 go_wp2_with fail
 go_loopw [9, 5] (fun i v wr => ∃ (j : Nat) (g : Option Addr) (c9 : Nat), j ≤ n ∧ i = .int .i64 (j : Int) ∧ v = .slice g j c9 ∧ Hid (TalkAt wr tb (AT j)) ∧ Hid (Bx wr w.heap.size 121 [.pointer (some ⟨gb, 0, none⟩), .slice a n c]) ∧ Hid (Kept (fun q => q = tb) w wr) ∧ Hid (RowO w1.heap.size wr 78 4 (.slice g j c9) j ((NL j).flatMap (limC G.q.m)))) (fun i _ _ => n - (intOf i).toNat)
 case atStart => exact ⟨0, none, 0, Nat.zero_le _, rfl, rfl, HT1, Hbs, HK1, by rw [H0.out.2]; exact RowO.nil⟩
 case round =>
  clear HT HT1 HK1 HB Hbs bs_
  obtain ⟨j, g, c9, hj, rfl, rfl, HT, Hbs, HK, Hr⟩ := hrel
  have HZ1 := Lib.hid HK.out.size
  have HZ2 := Lib.hid Hbs.out.lt
  by_cases hjn : j < n
  ·have bs_ := Hbs.out.c2
   go_wp2_with fail
   refine (HCH.out (AT j) (HAZ.out j) wr ((HG.out.keptP HK.out hne)) HT.out).mono ?_
   rintro e wz ⟨rfl, ht, hk⟩
   have Hbs9 := Lib.hid (Hbs.out.keptP hk (show ¬ w.heap.size = tb by have := HTL.out; omega))
   have HK9 := Lib.hid (HK.out.trans hk)
   have Hr9 := Lib.hid (Hr.out.grown (kept_gw hk) (fun q9 e8 e9 => by have a1 := (Hr.out.lt _ e8).1; have a0 := Option.some.inj e9; have := HTL.out; have := HBS.out; omega))
   have Ht := Lib.hid (show Bx wz tb 67 [.string (AT (j + 1))] from HAS.out j ▸ ht)
   have HZ3 := Lib.hid HK9.out.size
   have HZ4 := Lib.hid Ht.out.lt
   have HZ5 := Lib.hid Hbs9.out.lt
   clear ht hk Hbs HK Hr HT bs_
   have Hbs := Hbs9
   have HK := HK9
   have Hr := Hr9
   clear Hbs9 HK9 Hr9
   unfold scV limbV
   replace HZS := sz HZS HZ3.out
   replace HZS := sz HZS HZ4.out
   replace HZS := sz HZS HZ5.out
   replace HZS := sz HZS HTL.out
   replace HZS := sz HZS HBS.out
   replace HZS := sz HZS HGL.out
   have bs_ := Hbs.out.c2
   have t_ := Ht.out.c1
   obtain ⟨i9, hi9, hz90, hz91, hz92⟩ := info_parts infoScalar
   go_wp2_with (at_builtin; refine wpList_pushR (w1.heap.size) wz (by have g0 := HZS.out; omega) rfl _ _ 117 rfl 78 i9 _ 4 32 Try.underlying117 hi9 hz90 hz91 hz92 rfl (by omega) ((.slice g j c9)) (j) (((NL j).flatMap (limC G.q.m))) rfl Hr.out _ _ _ rfl rfl rfl (by simp [Value.oneCell']) (by omega) (by unfold maxLen; omega) ?_)
   intro g2 c2 w2 hown9 hg9
   clear bs_ t_
   replace Hbs := Lib.hid (Hbs.out.grown hg9 (fun e9 => by have a1 := Hr.out.lt _ e9; have g0 := HZS.out; omega))
   replace Ht := Lib.hid (Ht.out.grown hg9 (fun e9 => by have a1 := Hr.out.lt _ e9; have g0 := HZS.out; omega))
   replace HK := Lib.hid (Kept.grown HK.out hg9 (fun q hq => Or.inl (Nat.le_trans (show w.heap.size ≤ w1.heap.size by have g0 := HZS.out; omega) (Hr.out.lt q hq).1)))
   replace HZS := sz HZS hg9.size
   clear Hr
   have Hr := Lib.hid hown9
   clear hown9 hg9 hi9 hz90 hz91 hz92
   have bs_ := Hbs.out.c2
   have t_ := Ht.out.c1
   go_wp2_with fail
   go_roundw
   case rel => exact ⟨j + 1, _, _, hjn, by go_num, rfl, Ht, Hbs, HK, Hr.out.eq (by rw [HSU.out, HSC.out]) rfl⟩
   case measure => simp [intOf]; omega
  ·have hj' : j = n := by omega
   subst hj'
   have bs_ := Hbs.out.c2
   go_wp2_with fail
   go_ret
   exact ⟨g, c9, rfl, Hr.out.sl, fun x hx => by have := Hr.out.lt x.block (by rw [hx]; rfl); have := HBS.out; omega, HT.out, HK.out⟩
theorem ans_snoc (G : GP) (N : Nat) {ws xs : List ByteArray} {j : Nat} (h1 : j < ws.length) (h2 : j < xs.length) : ((ansL G N ws xs).take (j + 1)).map Value.string = ((ansL G N ws xs).take j).map Value.string ++ [.string (textS ((numOf ws[j] + N * numOf xs[j]) % G.q.m) G.size)] := by
 unfold ansL
 have hl : j < (List.zipWith (ansF G N) ws xs).length := by rw [List.length_zipWith]; omega
 rw [List.take_succ_eq_append_getElem hl, List.map_append, List.map_cons, List.map_nil, List.getElem_zipWith]
 rfl
theorem ansL_len (G : GP) (N : Nat) {ws xs : List ByteArray} {n : Nat} (h1 : ws.length = n) (h2 : xs.length = n) : (ansL G N ws xs).length = n := by unfold ansL; rw [List.length_zipWith, h1, h2, Nat.min_self]
theorem answers_any (G : GP) (ok : G.Ok) (gb N : Nat) (a : Option Addr) (m c : Nat) (ws xs : List ByteArray) (n : Nat) (hw : ws.length = n) (hx : xs.length = n) (hn : n ≤ 64) (aw ax : Option Addr) (cw cx : Nat) (w : World) (hG : GroupAt w gb G) (hW : Sl w w.heap.size aw (ws.flatMap (limC G.q.m))) (hX : Sl w w.heap.size ax (xs.flatMap (limC G.q.m))) :
  Calls Try.prog 77 #[.agg #[.pointer (some ⟨gb, 0, none⟩), .slice a m c], .slice aw n cw, scV G N, .slice ax n cx] w fun e w' => ∃ a' c', e = .returned (.slice a' n c') ∧ Sl w' w'.heap.size a' ((ansL G N ws xs).map Value.string) ∧ (∀ x, a' = some x → w.heap.size ≤ x.block) ∧ n ≤ c' ∧ (a' = none → c' = 0) ∧ Below w.heap.size w w' := by
 have OK := Lib.hid ok
 have HSN := Lib.hid (fun j h1 h2 => ans_snoc G N (ws := ws) (xs := xs) (j := j) h1 h2)
 have HAL := Lib.hid (ansL_len G N hw hx)
 generalize ansL G N ws xs = AL at *
 have HG := Lib.hid hG
 have HW := Lib.hid hW
 have HX := Lib.hid hX
 have HWN := Lib.hid hw
 have HXN := Lib.hid hx
 clear ok hG hW hX hw hx
 unfold scV limbV
 go_enter Try.func77, Try.ntmps77
 go_wp2_with fail
 obtain ⟨w1, hq1, hb9, hz9, Hbs, Hbc⟩ := new2 w 121 [.pointer (some ⟨gb, 0, none⟩), .slice a m c] 78 [.int .u64 (dig (mont G.q.m N) 0 : Int), .int .u64 (dig (mont G.q.m N) 1 : Int), .int .u64 (dig (mont G.q.m N) 2 : Int), .int .u64 (dig (mont G.q.m N) 3 : Int)]
 rw [hq1]
 clear hq1
 have HB := Lib.hid hb9
 have HZS := hz9
 clear hb9 hz9
 have bs_ := Hbs.out.c2
 have bc_ := Hbc.out.c4
 have HWZ := Lib.hid HB.out.size
 have BL := Lib.hid (Below.refl w1.heap.size w1)
 go_wp2_with fail
 go_loopw [14, 9] (fun i v wr => ∃ (j : Nat) (g : Option Addr) (c9 : Nat), j ≤ n ∧ i = .int .i64 (j : Int) ∧ v = .slice g j c9 ∧ Hid (Below w1.heap.size w1 wr) ∧ Hid (RowO w1.heap.size wr 9 1 (.slice g j c9) j ((AL.take j).map Value.string))) (fun i _ _ => n - (intOf i).toNat)
 case atStart => exact ⟨0, none, 0, Nat.zero_le _, rfl, rfl, BL, RowO.nil⟩
 case round =>
  obtain ⟨j, g, c9, hj, rfl, rfl, HL9, Hr⟩ := hrel
  have hb9 := HL9.out
  clear HL9 bs_
  replace Hbs := Lib.hid (Hbs.out.up hb9)
  clear bc_
  replace Hbc := Lib.hid (Hbc.out.up hb9)
  replace BL := hbu BL hb9
  replace HB := hbu HB hb9
  replace HZS := sz HZS hb9.size
  clear hb9
  have bs_ := Hbs.out.c2
  have bc_ := Hbc.out.c4
  by_cases hjn : j < n
  ·have hjw : j < ws.length := by rw [HWN.out]; exact hjn
   have hjx : j < xs.length := by rw [HXN.out]; exact hjn
   obtain ⟨bw, ow, rfl, hbw, hcw⟩ := HW.out.elem (limC_len _) (by omega) j hjw
   obtain ⟨bx, ox, rfl, hbx, hcx⟩ := HX.out.elem (limC_len _) (by omega) j hjx
   have hcw_0 := hcw 0 _ rfl
   rw [Nat.add_zero] at hcw_0
   have hcw_1 := hcw 1 _ rfl
   have hcw_2 := hcw 2 _ rfl
   have hcw_3 := hcw 3 _ rfl
   clear hcw
   have hcx_0 := hcx 0 _ rfl
   rw [Nat.add_zero] at hcx_0
   have hcx_1 := hcx 1 _ rfl
   have hcx_2 := hcx 2 _ rfl
   have hcx_3 := hcx 3 _ rfl
   clear hcx
   replace hcw_0 := cell_up HB.out hbw hcw_0
   replace hcw_1 := cell_up HB.out hbw hcw_1
   replace hcw_2 := cell_up HB.out hbw hcw_2
   replace hcw_3 := cell_up HB.out hbw hcw_3
   have hlw := HWZ.out
   have HNP := Lib.hid (fun q e => (Hr.out.lt q e).2)
   have HSJ := Lib.hid (HSN.out j hjw hjx)
   generalize ws[j] = x at *
   generalize xs[j] = y at *
   have o2_bs_ := bs_; clear bs_
   have o2_bc_ := bc_; clear bc_
   obtain ⟨w2, hq2, hb9, hz9, Hbn⟩ := new1 wr 78 [.int .u64 (dig (mont G.q.m (numOf x)) 0 : Int), .int .u64 (dig (mont G.q.m (numOf x)) 1 : Int), .int .u64 (dig (mont G.q.m (numOf x)) 2 : Int), .int .u64 (dig (mont G.q.m (numOf x)) 3 : Int)]
   replace Hbs := Lib.hid (Hbs.out.up hb9)
   replace Hbc := Lib.hid (Hbc.out.up hb9)
   replace Hr := Lib.hid (Hr.out.up hb9)
   replace BL := hbu BL hb9
   replace HB := hbu HB hb9
   replace HZS := sz HZS hz9.out
   clear hb9 hz9
   have bs_ := Hbs.out.c2
   have bc_ := Hbc.out.c4
   have bn_ := Hbn.out.c4
   go_wp2_with fail
   clear hq2 o2_bc_ o2_bs_
   replace hcx_0 := cell_up HB.out hbx hcx_0
   replace hcx_1 := cell_up HB.out hbx hcx_1
   replace hcx_2 := cell_up HB.out hbx hcx_2
   replace hcx_3 := cell_up HB.out hbx hcx_3
   have hbx2 := Nat.lt_of_lt_of_le hbx HB.out.size
   have HT := Lib.hid (show Below w2.heap.size w2 w2.drew from (Below.refl _ _).drew)
   have hl_bs := Hbs.out.lt
   have hl_bc := Hbc.out.lt
   have hl_bn := Hbn.out.lt
   refine wp_region_tree (fun wq9 => ∃ E : But w2 (Value.ownBlock (.slice g j c9)), wq9 = E.w) ((.qs [0, 1, 2, 3, 4, 5, 6, 7, 8, 9, 10, 11, 12] (.a 13 (.a 14 (.a 15 (.a 16 (.a 17 (.qs [18] .done)))))))) (by kernel_rfl) (by kernel_rfl) (fun _ _ d _ _ h => by cases d <;> exact h) ⟨⟨_, ((below_grown HT.out).but _)⟩, rfl⟩ ?_
   have hov_bs := fun (E : But w2 (Value.ownBlock (.slice g j c9))) o => E.cell (b := w.heap.size) o hl_bs (by intro e9; have a2 := HNP.out _ e9; have a1 := Hr.out.lt _ e9; have g0 := HZS.out; omega)
   have hov_bc := fun (E : But w2 (Value.ownBlock (.slice g j c9))) o => E.cell (b := w.heap.size + 1) o hl_bc (by intro e9; have a2 := HNP.out _ e9; have a1 := Hr.out.lt _ e9; have g0 := HZS.out; omega)
   have hov_bn := fun (E : But w2 (Value.ownBlock (.slice g j c9))) o => E.cell (b := wr.heap.size) o hl_bn (by intro e9; have a2 := HNP.out _ e9; have a1 := Hr.out.lt _ e9; have g0 := HZS.out; omega)
   have hov_bx := fun (E : But w2 (Value.ownBlock (.slice g j c9))) o => E.cell (b := bx) o hbx2 (by intro e9; have a2 := HNP.out _ e9; have a1 := Hr.out.lt _ e9; have g0 := HZS.out; omega)
   simp only [Tree.qs]
   repeat (refine tree_q rfl rfl ?_; go_big_quiet_step (fail); refine wpQuiet_nil ?_)
   refine tree_a rfl (fun K hK => ?_)
   go_simp
   refine (gMul_any G OK.out gb N (numOf y) _ (HG.out.up (below_up HB.out HT.out))).mono ?_
   rintro e w3 ⟨rfl, hb9⟩
   replace HT := Lib.hid (below_up HT.out hb9)
   replace HZS := sz HZS (show w2.heap.size ≤ w3.heap.size from HT.out.size)
   clear hb9
   refine hK _ _ ⟨⟨⟨w3, ((below_grown HT.out).but _)⟩, rfl⟩, ?_⟩
   clear hK K
   repeat (refine tree_q rfl rfl ?_; go_big_quiet_step (fail); refine wpQuiet_nil ?_)
   refine tree_a rfl (fun K hK => ?_)
   go_simp
   refine (gAdd_any G OK.out gb (numOf x) (N * numOf y) _ (HG.out.up (below_up HB.out HT.out))).mono ?_
   rintro e w4 ⟨rfl, hb9⟩
   replace HT := Lib.hid (below_up HT.out hb9)
   replace HZS := sz HZS (show w2.heap.size ≤ w4.heap.size from HT.out.size)
   clear hb9
   refine hK _ _ ⟨⟨⟨w4, ((below_grown HT.out).but _)⟩, rfl⟩, ?_⟩
   clear hK K
   repeat (refine tree_q rfl rfl ?_; go_big_quiet_step (fail); refine wpQuiet_nil ?_)
   refine tree_a rfl (fun K hK => ?_)
   go_simp
   refine (gPut_any G OK.out gb (numOf x + N * numOf y) _ (HG.out.up (below_up HB.out HT.out))).mono ?_
   rintro e w5 ⟨rfl, hb9⟩
   replace HT := Lib.hid (below_up HT.out hb9)
   replace HZS := sz HZS (show w2.heap.size ≤ w5.heap.size from HT.out.size)
   clear hb9
   refine hK _ _ ⟨⟨⟨w5, ((below_grown HT.out).but _)⟩, rfl⟩, ?_⟩
   clear hK K
   repeat (refine tree_q rfl rfl ?_; go_big_quiet_step (fail); refine wpQuiet_nil ?_)
   clear hov_bs hl_bs hov_bc hl_bc hov_bn hl_bn hov_bx
   refine tree_a rfl (fun K hK => ?_)
   go_simp
   refine hK _ _ ⟨⟨⟨_, (below_grown (HT.out.alloc HT.out.size _)).but _⟩, rfl⟩, ?_⟩
   clear hK K
   obtain ⟨i9, hi9, hz90, hz91, hz92⟩ := info_parts infoStr
   have HG1 := Lib.hid ((below_grown HT.out).but (Value.ownBlock (.slice g j c9)))
   clear bs_
   replace Hbs := Lib.hid (Hbs.out.up HT.out)
   clear bc_
   replace Hbc := Lib.hid (Hbc.out.up HT.out)
   clear bn_
   replace Hbn := Lib.hid (Hbn.out.up HT.out)
   replace Hr := Lib.hid (Hr.out.up HT.out)
   replace BL := hbu BL HT.out
   replace HB := hbu HB HT.out
   replace HZS := sz HZS HT.out.size
   refine tree_a rfl (fun K hK => ?_)
   refine step_pushR (w1.heap.size) w5 (by have g0 := HZS.out; omega) rfl _ _ 22 rfl 9 i9 _ 1 16 Try.underlying22 hi9 hz90 hz91 hz92 rfl (by omega) ((.slice g j c9)) (j) (((AL.take j).map Value.string)) rfl Hr.out _ _ _ rfl rfl rfl (by simp [Value.oneCell']) (by omega) (by unfold maxLen; omega) ?_
   intro g6 c6 w6 hown9 hg9
   have HGR := Lib.hid (HG1.out.trans hg9)
   have hb9 := Below.grown HB.out hg9 (by have g0 := HZS.out; omega) (fun q hq => Nat.le_trans (show w.heap.size ≤ w1.heap.size by have g0 := HZS.out; omega) (Hr.out.lt q hq).1)
   replace Hbs := Lib.hid (Hbs.out.grown hg9 (fun e9 => by have a2 := HNP.out _ e9; have a1 := Hr.out.lt _ e9; have g0 := HZS.out; omega))
   replace Hbc := Lib.hid (Hbc.out.grown hg9 (fun e9 => by have a2 := HNP.out _ e9; have a1 := Hr.out.lt _ e9; have g0 := HZS.out; omega))
   replace Hbn := Lib.hid (Hbn.out.grown hg9 (fun e9 => by have a2 := HNP.out _ e9; have a1 := Hr.out.lt _ e9; have g0 := HZS.out; omega))
   replace BL := Lib.hid (Below.grown BL.out hg9 (by have g0 := HZS.out; omega) (fun q hq => Nat.le_trans (show w1.heap.size ≤ w1.heap.size by have g0 := HZS.out; omega) (Hr.out.lt q hq).1))
   replace HZS := sz HZS hg9.size
   clear Hr HB HT HG1
   have Hr := Lib.hid hown9
   have HB := Lib.hid hb9
   clear hb9 hown9 hg9 hi9 hz90 hz91 hz92
   refine hK _ _ ⟨⟨⟨w6, HGR.out⟩, rfl⟩, ?_⟩
   clear hK K HGR
   have bs_ := Hbs.out.c2
   have bc_ := Hbc.out.c4
   have bn_ := Hbn.out.c4
   try simp only [Act.put, List.setIfInBounds_toArray, List.set_cons_succ, List.set_cons_zero]
   repeat (refine tree_q rfl rfl ?_; go_big_quiet_step (fail); refine wpQuiet_nil ?_)
   refine tree_end ?_
   go_wp2_with fail
   go_roundw
   case rel => exact ⟨j + 1, _, _, hjn, by go_num, rfl, BL, Hr.out.eq HSJ.out.symm rfl⟩
   case measure => simp [intOf]; omega
  ·have hj' : j = n := by omega
   subst hj'
   rw [List.take_of_length_le (by rw [HAL.out]; exact Nat.le_refl _)] at Hr
   go_wp2_with fail
   go_ret
   exact ⟨g, c9, rfl, Hr.out.sl, fun x hx => by have h1 := Hr.out.lt x.block (by rw [hx]; rfl); have h2 := HWZ.out; omega, RowO.room Hr.out, RowO.none0 Hr.out, HB.out⟩
end Go.Proofs.Ytdlnnkbigeiilaa
namespace Go.Proofs.Ytdlnnkbigeiilaa
open Go.RowKit
theorem pm_expC {q p a : Nat} (hpp : IsPrime p) (hp : p = 2 * q + 1) (h0 : 0 < a) (ha : a < p) (m : Nat) : PM p (a ^ m) (a ^ (m % q)) := by
 have h := ((pm_euler hpp hp h0 ha).pow (m / q)).mul (PM.refl p (a ^ (m % q)))
 rw [Nat.one_pow, Nat.one_mul, ← Nat.pow_mul, ← Nat.pow_add, Nat.div_add_mod] at h
 exact h
theorem exp_law {q : Nat} (w N x : Nat) (hq : 0 < q) : (((w + N * x) % q) % q + (x % q) * ((q - N % q) % q)) % q = w % q := by
 have hc := Nat.mod_lt N hq
 have e : (w + N * x + x * (q - N % q)) % q = w % q := by
  have h1 : N * x = q * (N / q * x) + (N % q) * x := by
   conv => lhs; rw [← Nat.div_add_mod N q]
   rw [Nat.add_mul, Nat.mul_assoc]
  have h2 : (N % q) * x + x * (q - N % q) = q * x := by
   rw [Nat.mul_comm (N % q) x, ← Nat.mul_add, Nat.add_sub_cancel' (Nat.le_of_lt hc), Nat.mul_comm]
  have h3 : w + N * x + x * (q - N % q) = w + q * (N / q * x + x) := by
   rw [Nat.mul_add q, h1]
   omega
  rw [h3, Nat.add_mul_mod_self_left]
 rw [← e, Nat.mod_mod, Nat.add_mod (w + N * x), Nat.add_mod ((w + N * x) % q), Nat.mod_mod, Nat.mul_mod (x % q), Nat.mod_mod, Nat.mod_mod, ← Nat.mul_mod]
section
variable {G : GP}
theorem comp_one (ok : G.Ok) (hpp : IsPrime G.p.m) {b im : Nat} (hb : 0 < b) (hbq : b ≤ G.q.m) (w x N : Nat) (h : lowN G (b ^ (x % G.q.m)) = lowN G im) : lowN G (b ^ (((w + N * x) % G.q.m) % G.q.m) * im ^ ((G.q.m - N % G.q.m) % G.q.m)) = lowN G (b ^ (w % G.q.m)) := by
 refine lowN_eq ok ?_
 have hq := ok.q.pos
 have h1 : PM G.p.m im (b ^ (x % G.q.m)) := ((lowN_iff ok _ _).1 h).symm
 have h2 := (PM.refl G.p.m (b ^ (((w + N * x) % G.q.m) % G.q.m))).mul (h1.pow ((G.q.m - N % G.q.m) % G.q.m))
 rw [← Nat.pow_mul, ← Nat.pow_add] at h2
 have h3 := pm_expC hpp ok.twice hb (by have := ok.twice; omega) (((w + N * x) % G.q.m) % G.q.m + (x % G.q.m) * ((G.q.m - N % G.q.m) % G.q.m))
 rw [exp_law w N x hq] at h3
 exact h2.trans h3
theorem each_congr {v v' : Nat → Nat → Nat} {ms : List Nat} {j : Nat} (h : ∀ i, i < j → ∀ t, t < ms.getD i 0 → lowN G (v i t) = lowN G (v' i t)) : eachA G v ms j = eachA G v' ms j := by
 unfold eachA
 refine List.map_congr_left fun i hi => ?_
 unfold eachL
 refine List.map_congr_left fun t ht => ?_
 rw [h i (List.mem_range.1 hi) t (List.mem_range.1 ht)]
theorem zip_allC {α β : Type} {f : α → β → Bool} {l : List α} {m : List β} (h : (List.zipWith f l m).all id = true) (i : Nat) (hl : i < l.length) (hm : i < m.length) : f l[i] m[i] = true := by
 have h1 := List.all_eq_true.1 h ((List.zipWith f l m)[i]'(by rw [List.length_zipWith]; omega)) (List.getElem_mem _)
 rw [List.getElem_zipWith] at h1
 exact h1
theorem isSc_text (ok : G.Ok) (N : Nat) : isSc G.q.m G.size (textS (N % G.q.m) G.size) = true := by
 unfold isSc
 rw [textS_size, numOf_mod ok]
 simp [Nat.mod_lt _ ok.q.pos]
theorem ansL_get (G : GP) (N : Nat) {ws xs : List ByteArray} {i : Nat} (hw : i < ws.length) (hx : i < xs.length) : (ansL G N ws xs)[i]? = some (ansF G N ws[i] xs[i]) := by
 unfold ansL
 rw [List.getElem?_eq_getElem (by rw [List.length_zipWith]; omega), List.getElem_zipWith]
end
end Go.Proofs.Ytdlnnkbigeiilaa
namespace Go.Proofs.Ytdlnnkbigeiilaa
open Go.RowKit
theorem map_range_getD {α : Type} (f : Nat → α) (d : α) {n j : Nat} (h : j < n) : ((List.range n).map f).getD j d = f j := by
 simp [List.getD, h]
theorem scE_len {G : GP} {n : Nat} {l : List ByteArray} (h : scE G n l = 0) : l.length = n := by
 unfold scE at h
 by_cases g : l.length = n
 ·exact g
 ·rw [if_neg g] at h; cases h
theorem nonce_scE {G : GP} (ok : G.Ok) (s : ByteArray) (n : Nat) : scE G n (nonceL G s n) = 0 := by
 unfold scE
 rw [if_pos (nonceL_len _ _ _), if_pos]
 refine List.all_eq_true.2 fun x hx => ?_
 unfold nonceL at hx
 obtain ⟨j, _, rfl⟩ := List.mem_map.1 hx
 exact isSc_text ok _
theorem ans_scE {G : GP} (ok : G.Ok) (N : Nat) {NL xs : List ByteArray} {n : Nat} (h1 : NL.length = n) (h2 : xs.length = n) : scE G n (ansL G N NL xs) = 0 := by
 unfold scE
 rw [if_pos (ansL_len G N h1 h2), if_pos]
 refine List.all_eq_true.2 fun y hy => ?_
 obtain ⟨i, hi, rfl⟩ := List.getElem_of_mem (show y ∈ List.zipWith (ansF G N) NL xs from hy)
 rw [List.getElem_zipWith]
 exact isSc_text ok _
theorem comp_each {G : GP} (ok : G.Ok) (hpp : IsPrime G.p.m) {l : List ClaimA} {xs NL : List ByteArray} (N : Nat) (hw : wrongE G l = 0) (hxl : xs.length = l.length) (hh : holdP G l xs = true) (hNL : NL.length = l.length) :
  eachA G (valB G (G.q.m - N % G.q.m) l (ansL G N NL xs)) (lens l) l.length = eachA G (valF G l NL) (lens l) l.length := by
 obtain ⟨hsh, hel⟩ := wrong_ok hw
 obtain ⟨_, hl64, hc⟩ := shape_ok hsh
 refine each_congr fun i hi t ht => ?_
 have e1 : (lens l).getD i 0 = l[i].bases.length := by unfold lens; simp [List.getD, hi]
 rw [e1] at ht
 obtain ⟨_, _, him⟩ := hc l[i] (List.getElem_mem _)
 have hti : t < l[i].images.length := by omega
 have hxi : i < xs.length := by omega
 have hni : i < NL.length := by omega
 have eL : l.getD i claim0 = l[i] := by simp [List.getD, hi]
 have eB : l[i].bases.getD t ⟨#[]⟩ = l[i].bases[t] := by simp [List.getD, ht]
 have eI : l[i].images.getD t ⟨#[]⟩ = l[i].images[t] := by simp [List.getD, hti]
 have eW : NL.getD i ⟨#[]⟩ = NL[i] := by simp [List.getD, hni]
 have eX : (ansL G N NL xs).getD i ⟨#[]⟩ = textS ((numOf NL[i] + N * numOf xs[i]) % G.q.m) G.size := by
  unfold List.getD
  rw [ansL_get G N hni hxi]
  rfl
 unfold valB valF
 rw [eL, eB, eI, eW, eX, numOf_mod ok]
 have he := List.all_eq_true.1 hel l[i] (List.getElem_mem _)
 unfold cElems at he
 have hb := List.all_eq_true.1 (Bool.and_eq_true _ _ ▸ he).1 l[i].bases[t] (List.getElem_mem _)
 unfold isEl at hb
 simp only [Bool.and_eq_true, decide_eq_true_eq] at hb
 have h2 := zip_allC hh i hi hxi
 have h3 := zip_allC (show (List.zipWith (hold2 G xs[i]) l[i].bases l[i].images).all id = true from h2) t ht hti
 exact comp_one ok hpp hb.1.2 hb.2 _ _ _ (of_decide_eq_true h3)
theorem pv_sum {q : Nat} (hq : 0 < q) (o c : Nat) : (o + (c + (q - o % q)) % q) % q = c % q := by
 rw [Nat.add_mod_mod]
 have h := Nat.mod_lt o hq
 have e : o + (c + (q - o % q)) = c + q * (o / q + 1) := by
  have h1 := Nat.div_add_mod o q
  rw [Nat.mul_add, Nat.mul_one]
  omega
 rw [e, Nat.add_mul_mod_self_left]
section
variable {G : GP} (ls : List (List ClaimA)) (wh n : Nat) (s : PvS) (xs : List ByteArray)
theorem pv_run (ok : G.Ok) (hpp : IsPrime G.p.m) (h0 : s.o = 0) (hwr : ∀ i, i < n → wrongE G (pvL ls i) = 0) (hxl : xs.length = (pvL ls wh).length) (hh : holdP G (pvL ls wh) xs = true) :
  ∀ j, j ≤ n → vanT G ls (pvCs G ls wh s n) (pvAs G ls wh s n xs) s.t j = (pvAt G ls wh s j).t ∧ vanS (pvCs G ls wh s n) j = (pvAt G ls wh s j).o + (if wh < j then pvN G ls wh s n % G.q.m else 0) ∧ vanOk G ls (pvCs G ls wh s n) (pvAs G ls wh s n xs) j = true := by
 intro j
 induction j with
 | zero => exact fun _ => ⟨rfl, by rw [if_neg (Nat.not_lt_zero _)]; show 0 = s.o + 0; rw [h0], rfl⟩
 | succ j ih =>
  intro hj
  obtain ⟨i1, i2, i3⟩ := ih (by omega)
  have hjn : j < n := by omega
  have eC : (pvCs G ls wh s n).getD j ⟨#[]⟩ = if j = wh then textS (pvN G ls wh s n % G.q.m) G.size else pvC G ls wh s j := map_range_getD _ _ hjn
  have eA : (pvAs G ls wh s n xs).getD j [] = if j = wh then ansL G (pvN G ls wh s n) (pvW G ls wh s) xs else pvZ G ls wh s j := map_range_getD _ _ hjn
  have eT : vanT G ls (pvCs G ls wh s n) (pvAs G ls wh s n xs) s.t (j + 1) = sayFi (vanT G ls (pvCs G ls wh s n) (pvAs G ls wh s n xs) s.t j) (vanR G ls (pvCs G ls wh s n) (pvAs G ls wh s n xs) j) := rfl
  have eS : vanS (pvCs G ls wh s n) (j + 1) = vanS (pvCs G ls wh s n) j + numOf ((pvCs G ls wh s n).getD j ⟨#[]⟩) := rfl
  have eP : pvAt G ls wh s (j + 1) = pvStep G ls wh (pvAt G ls wh s j) j := rfl
  have eR : vanR G ls (pvCs G ls wh s n) (pvAs G ls wh s n xs) j = eachA G (valB G (G.q.m - numOf ((pvCs G ls wh s n).getD j ⟨#[]⟩)) (pvL ls j) ((pvAs G ls wh s n xs).getD j [])) (lens (pvL ls j)) (pvL ls j).length := rfl
  have eO : vanOk1 G ls (pvCs G ls wh s n) (pvAs G ls wh s n xs) j = (isSc G.q.m G.size ((pvCs G ls wh s n).getD j ⟨#[]⟩) && decide (scE G (pvL ls j).length ((pvAs G ls wh s n xs).getD j []) = 0)) := rfl
  rw [eC] at eS eR eO
  rw [eA] at eR eO
  by_cases hw : j = wh
  ·subst hw
   rw [if_pos rfl] at eS eR eO
   rw [if_pos rfl] at eR eO
   have hNL : (pvW G ls j s).length = (pvL ls j).length := nonceL_len _ _ _
   rw [numOf_mod ok] at eS eR
   rw [comp_each ok hpp _ (hwr j hjn) hxl hh hNL] at eR
   rw [isSc_text ok, ans_scE ok _ hNL hxl, decide_eq_true rfl, Bool.and_true] at eO
   refine ⟨?_, ?_, vanOk_snoc i3 eO⟩
   ·rw [eT, i1, eR, eP]
    unfold pvStep
    rw [if_pos rfl]
    rfl
   ·rw [eS, i2, eP, if_neg (by omega), if_pos (by omega)]
    unfold pvStep
    rw [if_pos rfl, Nat.add_zero]
  ·rw [if_neg hw] at eS eR eO
   rw [if_neg hw] at eR eO
   unfold pvC at eS eR eO
   rw [numOf_mod ok] at eS eR
   have e9 : scE G (pvL ls j).length (pvZ G ls wh s j) = 0 := nonce_scE ok _ _
   rw [isSc_text ok, e9, decide_eq_true rfl, Bool.and_true] at eO
   refine ⟨?_, ?_, vanOk_snoc i3 eO⟩
   ·rw [eT, i1, eR, eP]
    unfold pvStep
    rw [if_neg hw]
    rfl
   ·rw [eS, i2, eP]
    unfold pvStep
    rw [if_neg hw]
    by_cases h : wh < j
    ·rw [if_pos h, if_pos (by omega)]
     show _ = (_ + _) + _
     omega
    ·rw [if_neg h, if_neg (by omega)]
     show _ = (_ + _) + 0
     omega
theorem pv_comp (ok : G.Ok) (hpp : IsPrime G.p.m) (h0 : s.o = 0) (hwn : wh < n) (hwr : ∀ i, i < n → wrongE G (pvL ls i) = 0) (hxl : xs.length = (pvL ls wh).length) (hh : holdP G (pvL ls wh) xs = true) :
  (vanOk G ls (pvCs G ls wh s n) (pvAs G ls wh s n xs) n && decide (mont G.q.m (chN (vanT G ls (pvCs G ls wh s n) (pvAs G ls wh s n xs) s.t n) challengeB) = mont G.q.m (vanS (pvCs G ls wh s n) n))) = true := by
 obtain ⟨i1, i2, i3⟩ := pv_run ls wh n s xs ok hpp h0 hwr hxl hh n (Nat.le_refl _)
 rw [i3, Bool.true_and, i1, i2, if_pos hwn]
 refine decide_eq_true ?_
 rw [← mont_mod G.q.m (chN _ _), ← mont_mod G.q.m (_ + _)]
 unfold pvN
 rw [pv_sum ok.q.pos]
end
theorem either_comp {k : Nat} (label seed : ByteArray) (ss : List SetA) (wh : Nat) (xs : List ByteArray) (h : pvE (k : Int) ss (wh : Int) xs = 0) :
  vanK (k : Int) label ss (pvCs (grp k) (ss.map SetA.l) wh (pvT0 k label (ss.map SetA.l) seed) ss.length) (pvAs (grp k) (ss.map SetA.l) wh (pvT0 k label (ss.map SetA.l) seed) ss.length xs) = true := by
 unfold pvE at h
 by_cases hk : 1 ≤ (k : Int) ∧ (k : Int) ≤ 3
 case neg => rw [if_neg hk] at h; cases h
 rw [if_pos hk, Int.toNat_natCast, Int.toNat_natCast] at h
 by_cases hz : setsE (grp k) ss = 0
 case neg => rw [if_pos hz] at h; exact absurd h hz
 rw [if_neg (fun e => e hz)] at h
 by_cases hw : (wh : Int) < 0 ∨ (ss.length : Int) ≤ (wh : Int)
 case pos => rw [if_pos hw] at h; cases h
 rw [if_neg hw] at h
 by_cases hs : scE (grp k) (pvL (ss.map SetA.l) wh).length xs = 0
 case neg => rw [if_pos hs] at h; exact absurd h hs
 rw [if_neg (fun e => e hs)] at h
 by_cases hh : holdP (grp k) (pvL (ss.map SetA.l) wh) xs = true
 case neg => rw [if_neg hh] at h; cases h
 have ok := grp_ok k (by omega) (by omega)
 have hpp := grp_prime_p k (by omega) (by omega)
 unfold vanK
 rw [decide_eq_true hk, Bool.true_and, Int.toNat_natCast, decide_eq_true hz, Bool.true_and]
 have l1 : (pvCs (grp k) (ss.map SetA.l) wh (pvT0 k label (ss.map SetA.l) seed) ss.length).length = ss.length := by unfold pvCs; simp
 have l2 : (pvAs (grp k) (ss.map SetA.l) wh (pvT0 k label (ss.map SetA.l) seed) ss.length xs).length = ss.length := by unfold pvAs; simp
 rw [decide_eq_true l1, Bool.true_and, decide_eq_true l2, Bool.true_and]
 exact pv_comp (ss.map SetA.l) wh ss.length (pvT0 k label (ss.map SetA.l) seed) xs ok hpp rfl (by omega) (fun i hi => by
  have e : pvL (ss.map SetA.l) i = ss[i].l := by unfold pvL; rw [List.getD_eq_getElem?_getD, List.getElem?_map, List.getElem?_eq_getElem hi]; rfl
  rw [e]
  exact wrongsE_all (setsE_ok hz).2.2 _ (List.getElem_mem hi)) (scE_len hs) hh
end Go.Proofs.Ytdlnnkbigeiilaa
namespace Go.Proofs.Ytdlnnkbigeiilaa
open Go.RowKit
theorem sRAll_ok (G : GP) (ok : G.Ok) (gb : Nat) (ss : List SetA) (al : Option Addr) (cl : Nat) (w : World) (hG : GroupAt w gb G) (hC : SetsAt w al ss) (hz : setsE G ss = 0) :
  Calls Try.prog 66 #[.pointer (some ⟨gb, 0, none⟩), .slice al ss.length cl] w fun e w' => Below w.heap.size w w' ∧ ∃ (ts : List SetR) (a : Option Addr) (c : Nat), e = .returned (.tuple #[.slice a ts.length c, .int .i64 0]) ∧ ts.map SetR.s = ss ∧ Sl w' w'.heap.size a (ts.flatMap (SetR.cells gb)) ∧ (∀ t ∈ ts, SetAt G w' t.a t.rs ∧ SetNew w.heap.size t.a t.rs) ∧ (∀ t ∈ ts, t.Of G) ∧ (∀ x, a = some x → w.heap.size ≤ x.block) :=
 (sRAll_any G ok gb ss al cl w hG hC).mono fun _ _ h => ⟨h.1, by have h2 := h.2; rwa [if_pos hz] at h2⟩
theorem sRAll_bad (G : GP) (ok : G.Ok) (gb : Nat) (ss : List SetA) (al : Option Addr) (cl : Nat) (w : World) (hG : GroupAt w gb G) (hC : SetsAt w al ss) (hz : ¬ setsE G ss = 0) :
  Calls Try.prog 66 #[.pointer (some ⟨gb, 0, none⟩), .slice al ss.length cl] w fun e w' => e = .returned (.tuple #[.slice none 0 0, .int .i64 (setsE G ss : Int)]) ∧ Below w.heap.size w w' :=
 (sRAll_any G ok gb ss al cl w hG hC).mono fun _ _ h => ⟨by have h2 := h.2; rwa [if_neg hz] at h2, h.1⟩
theorem read_sizes {G : GP} (ok : G.Ok) {l : List ClaimA} (hw : wrongE G l = 0) (hcap : ∀ c ∈ l, CapOk c) {rs : List ClaimR} (hk : rs.map ClaimR.k = l) :
  rs.length = l.length ∧ l.length ≤ 64 ∧ (∀ r ∈ rs, SayOk r.k ∧ CapOk r.k) ∧ (∀ r ∈ rs, r.k.bases.length ≤ 8 ∧ r.k.images.length = r.k.bases.length) ∧ ∀ c ∈ l, c.bases.length ≤ 8 := by
 obtain ⟨hsh, hel⟩ := wrong_ok hw
 have hsz := shape_ok hsh
 have hmem : ∀ r ∈ rs, r.k ∈ l := fun r hr => by rw [← hk]; exact List.mem_map.2 ⟨r, hr, rfl⟩
 refine ⟨by rw [← hk, List.length_map], hsz.2.1, fun r hr => ?_, fun r hr => ⟨(hsz.2.2 r.k (hmem r hr)).2.1, (hsz.2.2 r.k (hmem r hr)).2.2⟩, fun c hc => (hsz.2.2 c hc).2.1⟩
 have h9 := hsz.2.2 r.k (hmem r hr)
 have h8 := List.all_eq_true.1 hel r.k (hmem r hr)
 unfold cElems at h8
 rw [Bool.and_eq_true] at h8
 have hs := ok.size_le
 have hsm : ∀ s, isEl G.q.m G.size s = true → s.size ≤ 32 := fun s h => by
  unfold isEl at h
  simp only [Bool.and_eq_true, decide_eq_true_eq] at h
  omega
 exact ⟨⟨h9.2.1, by omega, fun x hx => hsm x (List.all_eq_true.1 h8.1 x hx), fun x hx => hsm x (List.all_eq_true.1 h8.2 x hx)⟩, hcap _ (hmem r hr)⟩
theorem sc_len9 {G : GP} {n : Nat} {l : List ByteArray} (h : scE G n l = 0) : l.length = n := by
 unfold scE at h
 by_cases g : l.length = n
 ·exact g
 ·rw [if_neg g] at h; cases h
theorem mont_zero9 (m : Nat) : mont m 0 = 0 := by unfold mont; simp
theorem dig_zero9 (i : Nat) : dig 0 i = 0 := by unfold dig; simp
theorem sVany_none (k : Int) (hk : ¬ (1 ≤ k ∧ k ≤ 3)) (label : ByteArray) (v p q : Value) (w : World) :
  Calls Try.prog 30 #[.int .i64 k, .string label, v, .agg #[p, q]] w fun e w' => e = .returned (.bool false) ∧ Below w.heap.size w w' := by
 go_enter Try.func30, Try.ntmps30
 go_wp2_with fail
 obtain ⟨w1, hq1, hb9, hz9, Hbp⟩ := new1 w 60 [p, q]
 rw [hq1]
 clear hq1
 have HB := Lib.hid hb9
 have HZS := hz9
 clear hb9 hz9
 have bp_ := Hbp.out.c2
 go_wp2_with fail
 refine (of_none k hk _).mono ?_
 rintro e w2 ⟨rfl, rfl⟩
 go_wp2_with fail
 go_ret
 exact ⟨rfl, HB.out⟩
theorem sVany_bad (k : Nat) (h1 : 1 ≤ k) (h3 : k ≤ 3) (label : ByteArray) (ss : List SetA) (n : Nat) (hn : ss.length = n) (al : Option Addr) (cl : Nat) (hz : ¬ setsE (grp k) ss = 0) (ac ar : Option Addr) (m m2 cc cr : Nat) (w : World) (hC : SetsAt w al ss) :
  Calls Try.prog 30 #[.int .i64 (k : Int), .string label, .slice al n cl, .agg #[.slice ac m cc, .slice ar m2 cr]] w fun e w' => e = .returned (.bool false) ∧ Below w.heap.size w w' := by
 have HBAD := Lib.hid (fun gb w hG hC => sRAll_bad (grp k) (grp_ok k h1 h3) gb ss al cl w hG hC hz)
 rw [hn] at HBAD
 have HC := Lib.hid hC
 obtain ⟨z, hz9⟩ : ∃ z, setsE (grp k) ss = z := ⟨_, rfl⟩
 rw [hz9] at HBAD hz
 have hd3 : ((z : Int) != 0) = true := by simp; omega
 clear hC hn hz hz9
 go_enter Try.func30, Try.ntmps30
 go_wp2_with fail
 obtain ⟨w1, hq1, hb9, hz9, Hbp⟩ := new1 w 60 [.slice ac m cc, .slice ar m2 cr]
 rw [hq1]
 clear hq1
 have HB := Lib.hid hb9
 have HZS := hz9
 clear hb9 hz9
 have bp_ := Hbp.out.c2
 go_wp2_with fail
 refine (of_some k h1 h3 w1).mono ?_
 rintro e w2 ⟨rfl, hg9, hb9⟩
 clear bp_
 replace Hbp := Lib.hid (Hbp.out.up hb9)
 replace HB := hbu HB hb9
 replace HZS := sz HZS hb9.size
 have HG := Lib.hid hg9
 clear hg9 hb9
 have bp_ := Hbp.out.c2
 go_wp2_with fail
 refine (HBAD.out _ w2 HG.out (HC.out.up HB.out)).mono ?_
 rintro e w3 ⟨rfl, hb9⟩
 clear bp_
 replace Hbp := Lib.hid (Hbp.out.up hb9)
 replace HG := Lib.hid (HG.out.up hb9)
 replace HB := hbu HB hb9
 replace HZS := sz HZS hb9.size
 clear hb9
 have bp_ := Hbp.out.c2
 go_wp2_with fail
 go_ret
 exact ⟨rfl, HB.out⟩
theorem sVany_len (k : Nat) (h1 : 1 ≤ k) (h3 : k ≤ 3) (label : ByteArray) (ss : List SetA) (n : Nat) (hn : ss.length = n) (al : Option Addr) (cl : Nat) (hz : setsE (grp k) ss = 0) (ac ar : Option Addr) (m m2 cc cr : Nat) (hm : ¬ (m = n ∧ m2 = n)) (w : World) (hC : SetsAt w al ss) :
  Calls Try.prog 30 #[.int .i64 (k : Int), .string label, .slice al n cl, .agg #[.slice ac m cc, .slice ar m2 cr]] w fun e w' => e = .returned (.bool false) ∧ Below w.heap.size w w' := by
 have HRD := Lib.hid (fun gb w hG hC => sRAll_ok (grp k) (grp_ok k h1 h3) gb ss al cl w hG hC hz)
 rw [hn] at HRD
 have HC := Lib.hid hC
 have HN := Lib.hid hn
 clear hC hn hz
 by_cases hmn : m = n
 ·have hd1 : ((m : Int) != (n : Int)) = false := by simp; omega
  have hd2 : ((m2 : Int) != (n : Int)) = true := by simp; omega
  clear hm hmn
  go_enter Try.func30, Try.ntmps30
  go_wp2_with fail
  obtain ⟨w1, hq1, hb9, hz9, Hbp⟩ := new1 w 60 [.slice ac m cc, .slice ar m2 cr]
  rw [hq1]
  clear hq1
  have HB := Lib.hid hb9
  have HZS := hz9
  clear hb9 hz9
  have bp_ := Hbp.out.c2
  go_wp2_with fail
  refine (of_some k h1 h3 w1).mono ?_
  rintro e w2 ⟨rfl, hg9, hb9⟩
  clear bp_
  replace Hbp := Lib.hid (Hbp.out.up hb9)
  replace HB := hbu HB hb9
  replace HZS := sz HZS hb9.size
  have HG := Lib.hid hg9
  clear hg9 hb9
  have bp_ := Hbp.out.c2
  go_wp2_with fail
  refine (HRD.out _ w2 HG.out (HC.out.up HB.out)).mono ?_
  rintro e w3 ⟨hb9, ts, a9, c9, rfl, hts, _⟩
  clear bp_
  replace Hbp := Lib.hid (Hbp.out.up hb9)
  replace HG := Lib.hid (HG.out.up hb9)
  replace HB := hbu HB hb9
  replace HZS := sz HZS hb9.size
  have HTS := Lib.hid hts
  clear hts hb9
  have bp_ := Hbp.out.c2
  rw [show ts.length = n by rw [← HN.out, ← HTS.out, List.length_map]]
  go_wp2_with fail
  go_ret
  exact ⟨rfl, HB.out⟩
 ·have hd1 : ((m : Int) != (n : Int)) = true := by simp; omega
  clear hm hmn
  go_enter Try.func30, Try.ntmps30
  go_wp2_with fail
  obtain ⟨w1, hq1, hb9, hz9, Hbp⟩ := new1 w 60 [.slice ac m cc, .slice ar m2 cr]
  rw [hq1]
  clear hq1
  have HB := Lib.hid hb9
  have HZS := hz9
  clear hb9 hz9
  have bp_ := Hbp.out.c2
  go_wp2_with fail
  refine (of_some k h1 h3 w1).mono ?_
  rintro e w2 ⟨rfl, hg9, hb9⟩
  clear bp_
  replace Hbp := Lib.hid (Hbp.out.up hb9)
  replace HB := hbu HB hb9
  replace HZS := sz HZS hb9.size
  have HG := Lib.hid hg9
  clear hg9 hb9
  have bp_ := Hbp.out.c2
  go_wp2_with fail
  refine (HRD.out _ w2 HG.out (HC.out.up HB.out)).mono ?_
  rintro e w3 ⟨hb9, ts, a9, c9, rfl, hts, _⟩
  clear bp_
  replace Hbp := Lib.hid (Hbp.out.up hb9)
  replace HG := Lib.hid (HG.out.up hb9)
  replace HB := hbu HB hb9
  replace HZS := sz HZS hb9.size
  have HTS := Lib.hid hts
  clear hts hb9
  have bp_ := Hbp.out.c2
  rw [show ts.length = n by rw [← HN.out, ← HTS.out, List.length_map]]
  go_wp2_with fail
  go_ret
  exact ⟨rfl, HB.out⟩
theorem sVany_body (k : Nat) (h1 : 1 ≤ k) (h3 : k ≤ 3) (label : ByteArray) (hlb : label.size < 140737488355328) (ss : List SetA) (n : Nat) (hn : ss.length = n) (al : Option Addr) (cl : Nat) (hz : setsE (grp k) ss = 0) (cs : List ByteArray) (hcs : cs.length = n) (rs : List RowA) (hrs : rs.length = n) (hrl : ∀ r ∈ rs, r.l.length ≤ 8796093022207) (hcap : ∀ s ∈ ss, ∀ c ∈ s.l, CapOk c) (ac ar : Option Addr) (cc cr : Nat) (V : Bool) (hV : (vanOk (grp k) (ss.map SetA.l) cs (rs.map RowA.l) n && decide (mont (grp k).q.m (chN (vanT (grp k) (ss.map SetA.l) cs (rs.map RowA.l) (vanB k label (ss.map SetA.l)) n) challengeB) = mont (grp k).q.m (vanS cs n))) = V) (w : World) (hC : SetsAt w al ss) (hS : Sl w w.heap.size ac (cs.map Value.string)) (hR : RowsAt w ar rs) :
  Calls Try.prog 30 #[.int .i64 (k : Int), .string label, .slice al n cl, .agg #[.slice ac n cc, .slice ar n cr]] w fun e w' => e = .returned (.bool V) ∧ Below w.heap.size w w' := by
 have OK := Lib.hid (grp_ok k h1 h3)
 have HRD := Lib.hid (fun gb w hG hC => sRAll_ok (grp k) OK.out gb ss al cl w hG hC hz)
 rw [hn] at HRD
 have HC := Lib.hid hC
 have HS := Lib.hid hS
 have HR := Lib.hid hR
 have HN := Lib.hid hn
 have HCS := Lib.hid hcs
 have HRS := Lib.hid hrs
 have HRL := Lib.hid hrl
 have HZE := Lib.hid (setsE_ok hz)
 have h16 : n ≤ 16 := by have := HZE.out.2.1; omega
 have HSS := Lib.hid (fun s hs => (show (∀ c ∈ s.l, CapOk c) ∧ wrongE (grp k) s.l = 0 from ⟨hcap s hs, wrongsE_all HZE.out.2.2 s hs⟩))
 unfold vanB at hV
 have HBS := Lib.hid (show (saySs (beginT eitherB label k) (ss.map SetA.l)).size = 32 from saySs_size _ _ (say1_size _ _ _))
 have HF1 := Lib.hid (fun gb ts h16 sh a9 c9 w hG hS hT hC => stalk_any (grp k) gb label hlb (by rw [grp_kind k h1 h3]; omega) ts ts.length rfl h16 sh a9 c9 w hG hS hT hC)
 rw [grp_kind k h1 h3] at HF1
 have HF3 := Lib.hid (fun tb s ro hz' h64 sh hok al cl w hT hC ha hr => said_any tb s ro ro.length rfl h64 hz' sh hok al cl w hT hC ha hr)
 have HF4 := Lib.hid (fun ok gb tb s hs w hG hT hne => gChallenge_any (grp k) ok gb tb s challengeB hs (by decide) w hG hT hne)
 have HZ3 := Lib.hid sayFi_size
 have HVT := Lib.hid (fun j => (show vanT (grp k) (ss.map SetA.l) cs (rs.map RowA.l) (saySs (beginT eitherB label k) (ss.map SetA.l)) (j + 1) = sayFi (vanT (grp k) (ss.map SetA.l) cs (rs.map RowA.l) (saySs (beginT eitherB label k) (ss.map SetA.l)) j) (vanR (grp k) (ss.map SetA.l) cs (rs.map RowA.l) j) from rfl))
 have HVZ := Lib.hid (fun j => vanT_size (grp k) (ss.map SetA.l) cs (rs.map RowA.l) (saySs (beginT eitherB label k) (ss.map SetA.l)) HBS.out j)
 have HV0 := Lib.hid (show vanT (grp k) (ss.map SetA.l) cs (rs.map RowA.l) (saySs (beginT eitherB label k) (ss.map SetA.l)) 0 = saySs (beginT eitherB label k) (ss.map SetA.l) from rfl)
 generalize vanT (grp k) (ss.map SetA.l) cs (rs.map RowA.l) (saySs (beginT eitherB label k) (ss.map SetA.l)) = VT at *
 generalize saySs (beginT eitherB label k) = SB at *
 generalize sayFi = SF at *
 generalize chN = CN at *
 generalize chT = CT at *
 have HV := Lib.hid hV.symm
 have HVS := Lib.hid (fun j => (show vanS cs (j + 1) = vanS cs j + numOf (cs.getD j ⟨#[]⟩) from rfl))
 have HVS0 := Lib.hid (show mont (grp k).q.m (vanS cs 0) = 0 from mont_zero9 _)
 generalize vanS cs = VS at *
 have hd1 : ((n : Int) != (n : Int)) = false := by simp
 clear hC hS hR hn hcs hrs hrl hcap hlb hV hz
 go_enter Try.func30, Try.ntmps30
 go_wp2_with fail
 obtain ⟨w1, hq1, hb9, hz9, Hbp⟩ := new1 w 60 [.slice ac n cc, .slice ar n cr]
 rw [hq1]
 clear hq1
 have HB := Lib.hid hb9
 have HZS := hz9
 clear hb9 hz9
 have bp_ := Hbp.out.c2
 go_wp2_with fail
 refine (of_some k h1 h3 w1).mono ?_
 rintro e w2 ⟨rfl, hg9, hb9⟩
 clear bp_
 replace Hbp := Lib.hid (Hbp.out.up hb9)
 replace HB := hbu HB hb9
 replace HZS := sz HZS hb9.size
 have HG := Lib.hid hg9
 clear hg9 hb9
 have bp_ := Hbp.out.c2
 go_wp2_with fail
 refine (HRD.out _ w2 HG.out (HC.out.up HB.out)).mono ?_
 rintro e w3 ⟨hb9, ts, a9, c9, rfl, hts, hsl, hat, hof, hfr⟩
 clear bp_
 replace Hbp := Lib.hid (Hbp.out.up hb9)
 replace HG := Lib.hid (HG.out.up hb9)
 replace HB := hbu HB hb9
 replace HZS := sz HZS hb9.size
 have HTS := Lib.hid hts
 clear hts
 have HSL := Lib.hid hsl
 clear hsl
 have HAT := Lib.hid hat
 clear hat
 have HOF := Lib.hid hof
 clear hof hb9
 have bp_ := Hbp.out.c2
 have HTL := Lib.hid (show ts.length = n by rw [← HN.out, ← HTS.out, List.length_map])
 have HTM := Lib.hid (show ts.map (fun t => t.rs.map ClaimR.k) = ss.map SetA.l by rw [← HTS.out, List.map_map]; exact List.map_congr_left fun t ht => (HOF.out t ht).k)
 have HF1 := Lib.hid (HF1.out w1.heap.size ts (by rw [HTL.out]; exact h16) (fun t ht => by
  have hm : t.s ∈ ss := by rw [← HTS.out]; exact List.mem_map.2 ⟨t, ht, rfl⟩
  obtain ⟨q1, q2, q3, _⟩ := read_sizes OK.out (HOF.out t ht).w (HSS.out _ hm).1 (HOF.out t ht).k
  exact ⟨by omega, q3⟩))
 rw [HTL.out, HTM.out] at HF1
 rw [HTL.out]
 clear HRD hfr
 have BQ := Lib.hid (Below.refl w3.heap.size w3)
 have HBP5 := Hbp
 have HG5 := HG
 have HB5 := HB
 have HGL := Lib.hid (show w1.heap.size < w3.heap.size from HG.out.lt)
 have HSRC := Lib.hid (fun t (ht : t ∈ ts) => by
  have hm : t.s ∈ ss := by rw [← HTS.out]; exact List.mem_map.2 ⟨t, ht, rfl⟩
  obtain ⟨bl, ol, e1, e2⟩ := (HOF.out t ht).p
  have h9 := ((HC.out.up HB.out)).e _ hm
  rw [e1] at h9
  exact (show ∀ r ∈ t.rs, r.Src w3 from src_all (HOF.out t ht).k e2 h9))
 have HZW := Lib.hid HB.out.size
 go_wp2_with fail
 refine (HF1.out a9 c9 w3 HG.out HSL.out (fun t ht => (HAT.out t ht).1) HSRC.out).mono ?_
 rintro e wa ⟨tb, rfl, hge, ht, hb9⟩
 have HGE := Lib.hid (show w3.heap.size ≤ tb from hge)
 have Ht := Lib.hid (show Bx wa tb 67 [.string (SB (ss.map SetA.l))] from ht)
 clear hge ht HF1 bp_
 replace Hbp := Lib.hid (Hbp.out.up hb9)
 replace HG := Lib.hid (HG.out.up hb9)
 replace BQ := hbu BQ hb9
 replace HB := hbu HB hb9
 replace HZS := sz HZS hb9.size
 clear hb9
 have bp_ := Hbp.out.c2
 replace HZS := sz HZS HGE.out
 replace HZS := sz HZS HZW.out
 have t_ := Ht.out.c1
 have HTT := Lib.hid Ht.out.lt
 replace HZS := sz HZS HTT.out
 have o4_bp_ := bp_; clear bp_
 have o4_t_ := t_; clear t_
 obtain ⟨w4, hq4, hb9, hz9, Hsu⟩ := new1 wa 78 ([.int .u64 0, .int .u64 0, .int .u64 0, .int .u64 0])
 replace Hbp := Lib.hid (Hbp.out.up hb9)
 replace Ht := Lib.hid (Ht.out.up hb9)
 replace HG := Lib.hid (HG.out.up hb9)
 replace BQ := hbu BQ hb9
 replace HB := hbu HB hb9
 replace HZS := sz HZS hz9.out
 clear hb9 hz9
 have bp_ := Hbp.out.c2
 have t_ := Ht.out.c1
 have HSU0 := Lib.hid (show Bx w4 wa.heap.size 78 [.int .u64 (dig (mont (grp k).q.m (VS 0)) 0 : Int), .int .u64 (dig (mont (grp k).q.m (VS 0)) 1 : Int), .int .u64 (dig (mont (grp k).q.m (VS 0)) 2 : Int), .int .u64 (dig (mont (grp k).q.m (VS 0)) 3 : Int)] by rw [HVS0.out]; simp only [dig_zero9]; exact Hsu.out)
 go_wp2_with fail
 clear hq4 o4_t_ o4_bp_
 go_loopw [54] (fun i wr => ∃ (j : Nat) (y : ByteArray), j ≤ n ∧ i = .int .i64 (j : Int) ∧ Hid (y = VT j) ∧ Hid (vanOk (grp k) (ss.map SetA.l) cs (rs.map RowA.l) j = true) ∧ Hid (Bx wr tb 67 [.string y]) ∧ Hid (Bx wr wa.heap.size 78 [.int .u64 (dig (mont (grp k).q.m (VS j)) 0 : Int), .int .u64 (dig (mont (grp k).q.m (VS j)) 1 : Int), .int .u64 (dig (mont (grp k).q.m (VS j)) 2 : Int), .int .u64 (dig (mont (grp k).q.m (VS j)) 3 : Int)]) ∧ Hid (Below w3.heap.size w3 wr)) (fun i _ => n - (intOf i).toNat)
 case atStart => exact ⟨0, _, Nat.zero_le _, rfl, Lib.hid HV0.out.symm, rfl, Ht, HSU0, BQ⟩
 case round =>
  clear Ht Hsu HB t_ bp_ Hbp HG BQ HSU0
  obtain ⟨j, y, hj, rfl, HYE, HOKJ, Ht, Hsu, BQ⟩ := hrel
  have HB := Lib.hid (below_up HB5.out BQ.out)
  have Hbp := Lib.hid (HBP5.out.up BQ.out)
  have HSL9 := Lib.hid Hsu.out.lt
  by_cases hjn : j < n
  ·have hjt : j < ts.length := by rw [HTL.out]; exact hjn
   have hjs : j < ss.length := by rw [HN.out]; exact hjn
   have hjc : j < cs.length := by rw [HCS.out]; exact hjn
   have hjr : j < rs.length := by rw [HRS.out]; exact hjn
   obtain ⟨bl, ol, rfl, hbl0, hc⟩ := (HSL.out.up BQ.out).elem (SetR.cells_len w1.heap.size) (by omega) j hjt
   have hc_0 := hc 0 _ rfl
   rw [Nat.add_zero] at hc_0
   have hc_1 := hc 1 _ rfl
   clear hc
   obtain ⟨bc, oc, rfl, hbc, hcc⟩ := (HS.out.up HB.out).at j (by simpa using hjc)
   rw [List.getElem_map] at hcc
   obtain ⟨br, or9, rfl, hbr, hrr⟩ := (HR.out.s.up HB.out).elem RowA.cells_len (by omega) j hjr
   have hrr_0 := hrr 0 _ rfl
   rw [Nat.add_zero] at hrr_0
   clear hrr
   rw [Nat.mul_one] at hrr_0
   have HAR := Lib.hid (HR.out.one j hjr)
   have HRLJ := Lib.hid (HRL.out _ (List.getElem_mem hjr))
   have HSJ := Lib.hid (show ts[j].s = ss[j] by
    have h8 : (ts.map SetR.s)[j]? = ss[j]? := by rw [HTS.out]
    rw [List.getElem?_map, List.getElem?_eq_getElem hjt, List.getElem?_eq_getElem hjs] at h8
    exact Option.some.inj h8)
   have HST := Lib.hid (HAT.out _ (List.getElem_mem hjt)).1
   have HOJ := HOF.out _ (List.getElem_mem hjt)
   have HSZ := Lib.hid (read_sizes OK.out HOJ.w (HSS.out _ (by rw [HSJ.out]; exact List.getElem_mem hjs)).1 HOJ.k)
   have HKJ := Lib.hid (show (ss.map SetA.l).getD j [] = ts[j].rs.map ClaimR.k by rw [HOJ.k, HSJ.out, List.getD_eq_getElem?_getD, List.getElem?_map, List.getElem?_eq_getElem hjs]; rfl)
   have HCJ := Lib.hid (show cs.getD j ⟨#[]⟩ = cs[j] by rw [List.getD_eq_getElem?_getD, List.getElem?_eq_getElem hjc]; rfl)
   have HRJ := Lib.hid (show (rs.map RowA.l).getD j [] = rs[j].l by rw [List.getD_eq_getElem?_getD, List.getElem?_map, List.getElem?_eq_getElem hjr]; rfl)
   have HVRJ := Lib.hid (show vanR (grp k) (ss.map SetA.l) cs (rs.map RowA.l) j = eachA (grp k) (valB (grp k) ((grp k).q.m - numOf cs[j]) (ts[j].rs.map ClaimR.k) rs[j].l) (lens (ts[j].rs.map ClaimR.k)) ts[j].rs.length by unfold vanR; rw [HCJ.out, HKJ.out, HRJ.out, List.length_map])
   have HO1 := Lib.hid (show vanOk1 (grp k) (ss.map SetA.l) cs (rs.map RowA.l) j = (isSc (grp k).q.m (grp k).size cs[j] && decide (scE (grp k) ts[j].rs.length rs[j].l = 0)) by unfold vanOk1; rw [HCJ.out, HKJ.out, HRJ.out, List.length_map])
   have HVSJ := Lib.hid (show VS (j + 1) = VS j + numOf cs[j] by rw [HVS.out, HCJ.out])
   have HVTJ := Lib.hid (show VT (j + 1) = SF y (vanR (grp k) (ss.map SetA.l) cs (rs.map RowA.l) j) by rw [HVT.out, HYE.out])
   have HYZ := Lib.hid (show y.size = 32 by rw [HYE.out]; exact HVZ.out j)
   rw [HVRJ.out] at HVTJ
   have HOK2 := Lib.hid (fun h => vanOk_snoc HOKJ.out h)
   have HNOT := Lib.hid (fun h => vanOk_not (G := grp k) (ls := ss.map SetA.l) (cs := cs) (rs := rs.map RowA.l) hjn h)
   have HL64 := Lib.hid (show ts[j].rs.length ≤ 64 by have h9 := HSZ.out; omega)
   have HSZ2 := Lib.hid HSZ.out.2.2.2.1
   clear HVRJ HKJ HRJ HCJ HOJ HYE HOKJ HSJ HSZ
   generalize ts[j] = t9 at *
   generalize cs[j] = ch at *
   generalize rs[j] = r9 at *
   obtain ⟨b, hb⟩ : ∃ b, isSc (grp k).q.m (grp k).size ch = b := ⟨_, rfl⟩
   obtain ⟨z, hz⟩ : ∃ z, scE (grp k) t9.rs.length r9.l = z := ⟨_, rfl⟩
   have HSC := Lib.hid (fun W hG hS => scalars_any (grp k) OK.out w1.heap.size t9.rs.length t9.a t9.c r9.l r9.a r9.c HRLJ.out W hG hS)
   unfold ScalR ScalQ at HSC
   rw [hz] at HSC HO1
   rw [hb] at HO1
   have HBC := Lib.hid hb
   have HZZ := Lib.hid hz
   clear hb hz hjt hjs hjc hjr HAT HOF HSRC HSS
   replace HZS := sz HZS HGE.out
   replace HZS := sz HZS HZW.out
   replace HZS := sz HZS HTT.out
   replace HZS := sz HZS HSL9.out
   have t_ := Ht.out.c1
   have su_ := Hsu.out.c4
   have bp_ := Hbp.out.c2
   have HCC := Lib.hid hcc
   have HRR0 := Lib.hid hrr_0
   have HBC0 := Lib.hid hbc
   have HBR0 := Lib.hid hbr
   clear hcc hrr_0 hbc hbr
   have BR := Lib.hid (Below.refl wr.heap.size wr)
   have o5_t_ := t_; clear t_
   have o5_su_ := su_; clear su_
   have o5_bp_ := bp_; clear bp_
   obtain ⟨w5, hq5, hb9, hz9, Hbs⟩ := new1 wr 121 [.pointer (some ⟨w1.heap.size, 0, none⟩), .slice t9.a t9.rs.length t9.c]
   replace Ht := Lib.hid (Ht.out.up hb9)
   replace Hsu := Lib.hid (Hsu.out.up hb9)
   replace Hbp := Lib.hid (Hbp.out.up hb9)
   replace BQ := hbu BQ hb9
   replace BR := hbu BR hb9
   replace HB := hbu HB hb9
   replace HZS := sz HZS hz9.out
   clear hb9 hz9
   have t_ := Ht.out.c1
   have su_ := Hsu.out.c4
   have bp_ := Hbp.out.c2
   have bs_ := Hbs.out.c2
   have hcc := (BR.out.cell (p := ⟨bc, oc + j, none⟩) HBC0.out).trans HCC.out
   go_wp2_with fail
   clear hq5 o5_bp_ o5_su_ o5_t_ hcc
   refine (gScalar_m (grp k) OK.out w1.heap.size ch b HBC.out w5 (HG5.out.up BQ.out)).mono ?_
   rintro e w6 ⟨x, rfl, hb9, hx9⟩
   clear t_
   replace Ht := Lib.hid (Ht.out.up hb9)
   clear su_
   replace Hsu := Lib.hid (Hsu.out.up hb9)
   clear bp_
   replace Hbp := Lib.hid (Hbp.out.up hb9)
   clear bs_
   replace Hbs := Lib.hid (Hbs.out.up hb9)
   replace BQ := hbu BQ hb9
   replace BR := hbu BR hb9
   replace HB := hbu HB hb9
   replace HZS := sz HZS hb9.size
   have HX := Lib.hid hx9
   clear hx9 hb9
   have t_ := Ht.out.c1
   have su_ := Hsu.out.c4
   have bp_ := Hbp.out.c2
   have bs_ := Hbs.out.c2
   unfold limbV
   have o7_t_ := t_; clear t_
   have o7_su_ := su_; clear su_
   have o7_bp_ := bp_; clear bp_
   have o7_bs_ := bs_; clear bs_
   obtain ⟨w7, hq7, hb9, hz9, Hbx⟩ := new1 w6 78 [.int .u64 (dig (x) 0 : Int), .int .u64 (dig (x) 1 : Int), .int .u64 (dig (x) 2 : Int), .int .u64 (dig (x) 3 : Int)]
   replace Ht := Lib.hid (Ht.out.up hb9)
   replace Hsu := Lib.hid (Hsu.out.up hb9)
   replace Hbp := Lib.hid (Hbp.out.up hb9)
   replace Hbs := Lib.hid (Hbs.out.up hb9)
   replace BQ := hbu BQ hb9
   replace BR := hbu BR hb9
   replace HB := hbu HB hb9
   replace HZS := sz HZS hz9.out
   clear hb9 hz9
   have t_ := Ht.out.c1
   have su_ := Hsu.out.c4
   have bp_ := Hbp.out.c2
   have bs_ := Hbs.out.c2
   have bx_ := Hbx.out.c4
   have hrr := (BR.out.cell (p := ⟨br, or9 + j, none⟩) HBR0.out).trans HRR0.out
   have hbr2 := Nat.lt_of_lt_of_le HBR0.out BR.out.size
   clear BR
   go_wp2_with fail
   clear hq7 o7_bs_ o7_bp_ o7_su_ o7_t_ su_ t_
   have HWT := Lib.hid (show wa.heap.size < w7.drew.heap.size by have h3 := (show Below w7.heap.size w7 w7.drew from (Below.refl _ _).drew).size; have g0 := HZS.out; omega)
   have HT := Lib.hid (show Below w7.heap.size w7 w7.drew from (Below.refl _ _).drew)
   have hl_bp := Hbp.out.lt
   have hl_bs := Hbs.out.lt
   have hl_bx := Hbx.out.lt
   refine wp_region_tree (fun wq9 => ∃ E : Over w7, wq9 = E.w) ((.qs [0, 1, 2, 3, 4, 5] (.a 6 (.qs [7, 8, 9, 10, 11] .done)))) (by kernel_rfl) (by kernel_rfl) (fun _ _ d _ _ h => by cases d <;> exact h) ⟨⟨_, HT.out⟩, rfl⟩ ?_
   have hov_bp := fun (E : Over w7) o => E.cell (b := w.heap.size) o hl_bp
   have hov_bs := fun (E : Over w7) o => E.cell (b := wr.heap.size) o hl_bs
   have hov_bx := fun (E : Over w7) o => E.cell (b := w6.heap.size) o hl_bx
   have hov_br := fun (E : Over w7) o => E.cell (b := br) o hbr2
   simp only [Tree.qs]
   repeat (refine tree_q rfl rfl ?_; go_big_quiet_step (fail); refine wpQuiet_nil ?_)
   refine tree_a rfl (fun K hK => ?_)
   go_simp
   refine (HSC.out _ (HG5.out.up (below_up BQ.out HT.out)) (HAR.out.up (below_up HB.out HT.out))).mono ?_
   rintro e w8 ⟨hb9, v, rfl, hv9⟩
   replace HT := Lib.hid (below_up HT.out hb9)
   replace HZS := sz HZS (show w7.heap.size ≤ w8.heap.size from HT.out.size)
   clear hb9
   have HVV := Lib.hid hv9
   clear hv9
   refine hK _ _ ⟨⟨⟨w8, HT.out⟩, rfl⟩, ?_⟩
   clear hK K
   repeat (refine tree_q rfl rfl ?_; go_big_quiet_step (fail); refine wpQuiet_nil ?_)
   refine tree_end ?_
   clear hov_bp hl_bp hov_bs hl_bs hov_bx hl_bx hov_br
   replace Ht := Lib.hid (Ht.out.up HT.out)
   replace Hsu := Lib.hid (Hsu.out.up HT.out)
   clear bp_
   replace Hbp := Lib.hid (Hbp.out.up HT.out)
   clear bs_
   replace Hbs := Lib.hid (Hbs.out.up HT.out)
   clear bx_
   replace Hbx := Lib.hid (Hbx.out.up HT.out)
   replace BQ := hbu BQ HT.out
   replace HB := hbu HB HT.out
   replace HZS := sz HZS HT.out.size
   clear HT
   have bp_ := Hbp.out.c2
   have bs_ := Hbs.out.c2
   have bx_ := Hbx.out.c4
   clear hrr hbr2
   have su_ := Hsu.out.c4
   have t_ := Ht.out.c1
   cases b
   case false =>
    obtain rfl : V = false := by rw [HV.out, HNOT.out (by rw [HO1.out]; rfl)]; rfl
    go_wp2_with fail
    go_ret
    exact ⟨rfl, HB.out⟩
   by_cases hz0 : z = 0
   case neg =>
    have hd3 : ((z : Int) != 0) = true := by simp; omega
    obtain rfl : V = false := by rw [HV.out, HNOT.out (by rw [HO1.out, decide_eq_false hz0]; rfl)]; rfl
    clear hz0
    go_wp2_with fail
    go_ret
    exact ⟨rfl, HB.out⟩
   subst hz0
   obtain ⟨a7, c7, hv7, hsv, hfv⟩ := HVV.out rfl
   rw [sc_len9 HZZ.out] at hv7
   subst hv7
   obtain rfl : x = mont (grp k).q.m (numOf ch) := HX.out rfl
   have HSV := Lib.hid hsv
   have HFV := Lib.hid hfv
   have HOK3 := Lib.hid (HOK2.out (by rw [HO1.out]; rfl))
   clear hsv hfv HVV HX HNOT HO1 HOK2
   have HK := Lib.hid (Kept.refl (fun q9 => q9 = wa.heap.size) w8)
   have HWS := Lib.hid (show wa.heap.size < w8.heap.size by have g0 := HZS.out; omega)
   go_wp2_with fail
   refine (gAdd_any (grp k) OK.out w1.heap.size (VS j) (numOf ch) w8 (HG5.out.up BQ.out)).mono ?_
   rintro e w9 ⟨rfl, hb9⟩
   clear t_
   replace Ht := Lib.hid (Ht.out.up hb9)
   clear su_
   replace Hsu := Lib.hid (Hsu.out.up hb9)
   clear bp_
   replace Hbp := Lib.hid (Hbp.out.up hb9)
   clear bs_
   replace Hbs := Lib.hid (Hbs.out.up hb9)
   clear bx_
   replace Hbx := Lib.hid (Hbx.out.up hb9)
   replace BQ := hbu BQ hb9
   replace HK := Lib.hid (Kept.up HK.out hb9)
   replace HB := hbu HB hb9
   replace HZS := sz HZS hb9.size
   clear hb9
   have t_ := Ht.out.c1
   have su_ := Hsu.out.c4
   have bp_ := Hbp.out.c2
   have bs_ := Hbs.out.c2
   have bx_ := Hbx.out.c4
   unfold scV limbV
   have f10_su := Hsu.out.frozen
   have o10_t_ := t_; clear t_
   have o10_su_ := su_; clear su_
   have o10_bp_ := bp_; clear bp_
   have o10_bs_ := bs_; clear bs_
   have o10_bx_ := bx_; clear bx_
   obtain ⟨w10, hq10, hg9, hz9, hx9⟩ := put4 Hsu 0 (.int .u64 (dig (mont (grp k).q.m (VS j + numOf ch)) 0 : Int)) 1 (.int .u64 (dig (mont (grp k).q.m (VS j + numOf ch)) 1 : Int)) 2 (.int .u64 (dig (mont (grp k).q.m (VS j + numOf ch)) 2 : Int)) 3 (.int .u64 (dig (mont (grp k).q.m (VS j + numOf ch)) 3 : Int)) [.int .u64 (dig (mont (grp k).q.m (VS j + numOf ch)) 0 : Int), .int .u64 (dig (mont (grp k).q.m (VS j + numOf ch)) 1 : Int), .int .u64 (dig (mont (grp k).q.m (VS j + numOf ch)) 2 : Int), .int .u64 (dig (mont (grp k).q.m (VS j + numOf ch)) 3 : Int)] rfl
   replace Ht := Lib.hid (Ht.out.grown hg9.out (sne (by have g0 := HZS.out; omega)))
   replace Hbp := Lib.hid (Hbp.out.grown hg9.out (sne (by have g0 := HZS.out; omega)))
   replace Hbs := Lib.hid (Hbs.out.grown hg9.out (sne (by have g0 := HZS.out; omega)))
   replace Hbx := Lib.hid (Hbx.out.grown hg9.out (sne (by have g0 := HZS.out; omega)))
   replace BQ := hbg BQ hg9 (by have g0 := HZS.out; omega)
   replace HK := Lib.hid (Kept.grown HK.out hg9.out (fun q9 e9 => by obtain rfl := Option.some.inj e9; exact Or.inr (rfl)))
   replace HB := hbg HB hg9 (by have g0 := HZS.out; omega)
   replace HZS := sz HZS hz9.out
   replace Hsu := hx9
   clear hx9 hg9 hz9
   have t_ := Ht.out.c1
   have su_ := Hsu.out.c4
   have bp_ := Hbp.out.c2
   have bs_ := Hbs.out.c2
   have bx_ := Hbx.out.c4
   go_wp2_with fail
   clear hq10 o10_bx_ o10_bs_ o10_bp_ o10_su_ o10_t_ f10_su
   refine (back_any (grp k) OK.out w1.heap.size (numOf ch) (isSc_le HBC.out) t9.rs t9.rs.length rfl HL64.out HSZ2.out t9.a t9.c r9.l (sc_len9 HZZ.out) a7 c7 w10 (HG5.out.up BQ.out) (HST.out.up BQ.out) (HSV.out.kept HK.out (fun x hx => by have h1 := HFV.out x hx; have h2 := HWT.out; omega))).mono ?_
   rintro e w11 ⟨hb9, a8, c8, ro, rfl, hm9, hr9, hz9⟩
   clear t_
   replace Ht := Lib.hid (Ht.out.up hb9)
   clear su_
   replace Hsu := Lib.hid (Hsu.out.up hb9)
   clear bp_
   replace Hbp := Lib.hid (Hbp.out.up hb9)
   clear bs_
   replace Hbs := Lib.hid (Hbs.out.up hb9)
   clear bx_
   replace Hbx := Lib.hid (Hbx.out.up hb9)
   replace BQ := hbu BQ hb9
   replace HK := Lib.hid (Kept.up HK.out hb9)
   replace HB := hbu HB hb9
   replace HZS := sz HZS hb9.size
   have HMR := Lib.hid hm9
   clear hm9
   have HRR := Lib.hid hr9
   clear hr9
   have HZR := Lib.hid hz9
   clear hz9 hb9
   have t_ := Ht.out.c1
   have su_ := Hsu.out.c4
   have bp_ := Hbp.out.c2
   have bs_ := Hbs.out.c2
   have bx_ := Hbx.out.c4
   have HRO := Lib.hid (show ro.length = t9.rs.length by have h9 := congrArg List.length HMR.out; rw [List.length_map, eachA_len] at h9; exact h9)
   rw [← HMR.out, List.length_map]
   go_wp2_with fail
   refine (HF3.out tb y ro HYZ.out (by rw [HRO.out]; exact HL64.out) (eachA_small OK.out.size_le (lens_small fun c hc => by obtain ⟨r, hr, rfl⟩ := List.mem_map.1 hc; exact (HSZ2.out r hr).1) HMR.out) (fun r hr => (HZR.out.1 r hr).2) a8 c8 w11 Ht.out HRR.out (fun x hx e => by have h1 := HZR.out.2.1 x hx; have g0 := HZS.out; omega) (fun r hr x hx e => by have h1 := HZR.out.2.2 r hr x hx; have g0 := HZS.out; omega)).mono ?_
   rintro e wc ⟨rfl, ht, hk⟩
   have HK2 := Lib.hid hk
   have Ht1 := Lib.hid (show Bx wc tb 67 [.string (SF y (ro.map RowA.l))] from ht)
   clear ht hk
   have hg9 := HK2.out
   clear t_ su_ bp_ bs_ bx_ Ht
   replace Hsu := Lib.hid (Bx.keptP (P := fun q9 => q9 = tb) Hsu.out hg9 (show ¬ (wa.heap.size = tb) by have g0 := HZS.out; omega))
   replace Hbp := Lib.hid (Bx.keptP (P := fun q9 => q9 = tb) Hbp.out hg9 (show ¬ (w.heap.size = tb) by have g0 := HZS.out; omega))
   replace Hbs := Lib.hid (Bx.keptP (P := fun q9 => q9 = tb) Hbs.out hg9 (show ¬ (wr.heap.size = tb) by have g0 := HZS.out; omega))
   replace Hbx := Lib.hid (Bx.keptP (P := fun q9 => q9 = tb) Hbx.out hg9 (show ¬ (w6.heap.size = tb) by have g0 := HZS.out; omega))
   replace BQ := Lib.hid (Below.keptP BQ.out hg9 (by have g0 := HZS.out; omega) (fun q9 h9 => (show w3.heap.size ≤ _ by subst h9; have g0 := HZS.out; omega)))
   replace HB := Lib.hid (Below.keptP HB.out hg9 (by have g0 := HZS.out; omega) (fun q9 h9 => (show w.heap.size ≤ _ by subst h9; have g0 := HZS.out; omega)))
   replace HZS := sz HZS (show w11.heap.size ≤ wc.heap.size from hg9.size)
   clear hg9
   have su_ := Hsu.out.c4
   have bp_ := Hbp.out.c2
   have bs_ := Hbs.out.c2
   have bx_ := Hbx.out.c4
   go_wp2_with fail
   go_roundw
   case rel => exact ⟨j + 1, _, by omega, by go_num, Lib.hid (by rw [HVTJ.out, HMR.out]), HOK3, Ht1, Lib.hid (by rw [HVSJ.out]; exact Hsu.out), BQ⟩
   case measure => simp [intOf]; omega
  ·have hjn' : j = n := by omega
   subst hjn'
   have HVV := HV.out
   rw [HOKJ.out, Bool.true_and, ← HYE.out] at HVV
   obtain ⟨be, hbe⟩ : ∃ b, decide (mont (grp k).q.m (CN y challengeB) = mont (grp k).q.m (VS j)) = b := ⟨_, rfl⟩
   rw [hbe] at HVV
   have HEQ := Lib.hid fun W => binScal (w := W) (eqScal (mont (grp k).q.m (CN y challengeB)) (mont (grp k).q.m (VS j)) (OK.out.q.mont _) (OK.out.q.mont _) W be hbe.symm)
   have HYZ := Lib.hid (show y.size = 32 by rw [HYE.out]; exact HVZ.out j)
   obtain rfl : V = be := HVV
   clear hbe HYE HOKJ HV
   replace HZS := sz HZS HGE.out
   replace HZS := sz HZS HZW.out
   replace HZS := sz HZS HTT.out
   replace HZS := sz HZS HSL9.out
   have t_ := Ht.out.c1
   have su_ := Hsu.out.c4
   go_wp2_with fail
   have HG9 := Lib.hid (HG5.out.up BQ.out)
   have HT := Lib.hid (show Below wr.heap.size wr wr.drew from (Below.refl _ _).drew)
   have hl_su := Hsu.out.lt
   refine wp_region_tree (fun wq9 => ∃ E : But wr (some (tb)), wq9 = E.w) ((.qs [0, 1, 3] (.a 2 (.qs [4, 5] .done)))) (by kernel_rfl) (by kernel_rfl) (fun _ _ d _ _ h => by cases d <;> exact h) ⟨⟨_, ((below_grown HT.out).but _)⟩, rfl⟩ ?_
   have hov_su := fun (E : But wr (some (tb))) o => E.cell (b := wa.heap.size) o hl_su (by intro e9; have a0 := Option.some.inj e9; have g0 := HZS.out; omega)
   simp only [Tree.qs]
   repeat (refine tree_q rfl rfl ?_; go_big_quiet_step (fail); refine wpQuiet_nil ?_)
   refine tree_a rfl (fun K hK => ?_)
   go_simp
   refine (HF4.out OK.out w1.heap.size tb y (by have := HYZ.out; omega) _ (HG9.out.up HT.out) (Bx.up Ht.out HT.out) (show ¬ w1.heap.size = tb by have g0 := HZS.out; have h1 := HGL.out; omega)).mono ?_
   rintro e wz ⟨rfl, ht, hk⟩
   have HBZ := Lib.hid (Below.keptP (below_up HB.out HT.out) hk (below_up HB.out HT.out).size (fun q hq => hq ▸ (show w.heap.size ≤ tb by have g0 := HZS.out; omega)))
   refine hK _ _ ⟨⟨⟨wz, ((below_grown HT.out).but _).trans (kept_grown hk)⟩, rfl⟩, ?_⟩
   clear hK K ht hk
   refine tree_q rfl rfl ?_
   unfold scV limbV
   refine wpQuiet_bin rfl .eql _ _ 78 _ rfl _ _ (.bool V) rfl rfl (fun _ => guardScal _ _ _ _ _ _) (fun _ => HEQ.out _) ?_
   simp only [Act.put, List.setIfInBounds_toArray, List.set_cons_succ, List.set_cons_zero]
   refine wpQuiet_nil ?_
   refine tree_q rfl rfl ?_
   go_big_quiet_step (fail)
   refine wpQuiet_nil ?_
   refine tree_end ?_
   go_wp2_with fail
   go_ret
   exact ⟨rfl, HBZ.out⟩
theorem sVerifyAny_any (k : Int) (label : ByteArray) (hlb : label.size < 140737488355328) (ss : List SetA) (al : Option Addr) (cl : Nat) (cs : List ByteArray) (rs : List RowA) (hrl : ∀ r ∈ rs, r.l.length ≤ 8796093022207) (hcap : ∀ s ∈ ss, ∀ c ∈ s.l, CapOk c) (ac ar : Option Addr) (cc cr : Nat) (w : World) (hC : SetsAt w al ss) (hS : Sl w w.heap.size ac (cs.map Value.string)) (hR : RowsAt w ar rs) :
  Calls Try.prog 30 #[.int .i64 k, .string label, .slice al ss.length cl, .agg #[.slice ac cs.length cc, .slice ar rs.length cr]] w fun e w' => e = .returned (.bool (vanK k label ss cs (rs.map RowA.l))) ∧ Below w.heap.size w w' := by
 unfold vanK
 rw [List.length_map]
 by_cases hk : 1 ≤ k ∧ k ≤ 3
 ·obtain ⟨j, rfl⟩ : ∃ j : Nat, k = j := ⟨k.toNat, by omega⟩
  rw [decide_eq_true hk, Bool.true_and, Int.toNat_natCast]
  by_cases hz : setsE (grp j) ss = 0
  ·rw [decide_eq_true hz, Bool.true_and]
   by_cases hm : cs.length = ss.length ∧ rs.length = ss.length
   ·rw [decide_eq_true hm.1, decide_eq_true hm.2, Bool.true_and, Bool.true_and, hm.1, hm.2]
    exact sVany_body j (by omega) (by omega) label hlb ss _ rfl al cl hz cs hm.1 rs hm.2 hrl hcap ac ar cc cr _ rfl w hC hS hR
   ·have e : (decide (cs.length = ss.length) && (decide (rs.length = ss.length) && (vanOk (grp j) (ss.map SetA.l) cs (rs.map RowA.l) ss.length && decide (mont (grp j).q.m (chN (vanT (grp j) (ss.map SetA.l) cs (rs.map RowA.l) (vanB j label (ss.map SetA.l)) ss.length) challengeB) = mont (grp j).q.m (vanS cs ss.length))))) = false := by
     by_cases g : cs.length = ss.length
     ·rw [decide_eq_false (fun h => hm ⟨g, h⟩), Bool.false_and, Bool.and_false]
     ·rw [decide_eq_false g, Bool.false_and]
    rw [e]
    exact sVany_len j (by omega) (by omega) label ss _ rfl al cl hz ac ar _ _ cc cr hm w hC
  ·rw [decide_eq_false hz, Bool.false_and]
   exact sVany_bad j (by omega) (by omega) label ss _ rfl al cl hz ac ar _ _ cc cr w hC
 ·rw [decide_eq_false hk, Bool.false_and]
  exact sVany_none k hk label _ _ _ w
end Go.Proofs.Ytdlnnkbigeiilaa
namespace Go.Proofs.Ytdlnnkbigeiilaa
open Go.RowKit
theorem sPany_none (k : Int) (hk : ¬ (1 ≤ k ∧ k ≤ 3)) (label seed : ByteArray) (v u : Value) (wh : Int) (w : World) :
  Calls Try.prog 29 #[.int .i64 k, .string label, v, .int .i64 wh, u, .string seed] w (EithR 1 [] [] w) := by
 go_enter Try.func29, Try.ntmps29
 go_wp2_with fail
 obtain ⟨w1, hq1, hb9, hz9, Hout⟩ := new1 w 60 [.slice none 0 0, .slice none 0 0]
 rw [hq1]
 clear hq1
 have HB := Lib.hid hb9
 have HZS := hz9
 clear hb9 hz9
 have out_ := Hout.out.c2
 go_wp2_with fail
 refine (of_none k hk _).mono ?_
 rintro e w2 ⟨rfl, rfl⟩
 have f2_out := Hout.out.frozen
 have o2_out_ := out_; clear out_
 obtain ⟨w2, hq2, hg9, hz9, hx9⟩ := put2 Hout 0 (.slice none 0 0) 1 (.slice none 0 0) [.slice none 0 0, .slice none 0 0] rfl
 replace HB := hbg HB hg9 (by have g0 := HZS.out; omega)
 replace HZS := sz HZS hz9.out
 replace Hout := hx9
 clear hx9 hg9 hz9
 have out_ := Hout.out.c2
 go_wp2_with fail
 clear hq2 o2_out_ f2_out
 simp [bodyPost, results, Try.results29, go_sem, out_]
 exact eithR_none _ HB.out
theorem sPany_bad (k : Nat) (h1 : 1 ≤ k) (h3 : k ≤ 3) (label seed : ByteArray) (ss : List SetA) (n : Nat) (hn : ss.length = n) (al : Option Addr) (cl : Nat) (hz : ¬ setsE (grp k) ss = 0) (u : Value) (wh : Int) (w : World) (hC : SetsAt w al ss) :
  Calls Try.prog 29 #[.int .i64 (k : Int), .string label, .slice al n cl, .int .i64 wh, u, .string seed] w (EithR (setsE (grp k) ss : Int) [] [] w) := by
 have HBAD := Lib.hid (fun gb w hG hC => sRAll_bad (grp k) (grp_ok k h1 h3) gb ss al cl w hG hC hz)
 rw [hn] at HBAD
 have HC := Lib.hid hC
 obtain ⟨z, hz9⟩ : ∃ z, setsE (grp k) ss = z := ⟨_, rfl⟩
 rw [hz9] at HBAD hz ⊢
 have hd3 : ((z : Int) != 0) = true := by simp; omega
 clear hC hn hz hz9
 go_enter Try.func29, Try.ntmps29
 go_wp2_with fail
 obtain ⟨w1, hq1, hb9, hz9, Hout⟩ := new1 w 60 [.slice none 0 0, .slice none 0 0]
 rw [hq1]
 clear hq1
 have HB := Lib.hid hb9
 have HZS := hz9
 clear hb9 hz9
 have out_ := Hout.out.c2
 go_wp2_with fail
 refine (of_some k h1 h3 w1).mono ?_
 rintro e w2 ⟨rfl, hg9, hb9⟩
 clear out_
 replace Hout := Lib.hid (Hout.out.up hb9)
 replace HB := hbu HB hb9
 replace HZS := sz HZS hb9.size
 have HG := Lib.hid hg9
 clear hg9 hb9
 have out_ := Hout.out.c2
 go_wp2_with fail
 refine (HBAD.out _ w2 HG.out (HC.out.up HB.out)).mono ?_
 rintro e w3 ⟨rfl, hb9⟩
 clear out_
 replace Hout := Lib.hid (Hout.out.up hb9)
 replace HG := Lib.hid (HG.out.up hb9)
 replace HB := hbu HB hb9
 replace HZS := sz HZS hb9.size
 clear hb9
 have out_ := Hout.out.c2
 have f4_out := Hout.out.frozen
 have o4_out_ := out_; clear out_
 obtain ⟨w4, hq4, hg9, hz9, hx9⟩ := put2 Hout 0 (.slice none 0 0) 1 (.slice none 0 0) [.slice none 0 0, .slice none 0 0] rfl
 replace HG := Lib.hid (HG.out.grown hg9.out (sne (by have g0 := HZS.out; omega)))
 replace HB := hbg HB hg9 (by have g0 := HZS.out; omega)
 replace HZS := sz HZS hz9.out
 replace Hout := hx9
 clear hx9 hg9 hz9
 have out_ := Hout.out.c2
 go_wp2_with fail
 clear hq4 o4_out_ f4_out
 simp [bodyPost, results, Try.results29, go_sem, out_]
 exact eithR_none _ HB.out
theorem sPany_range (k : Nat) (h1 : 1 ≤ k) (h3 : k ≤ 3) (label seed : ByteArray) (ss : List SetA) (n : Nat) (hn : ss.length = n) (al : Option Addr) (cl : Nat) (hz : setsE (grp k) ss = 0) (u : Value) (wh : Int) (hw : wh < 0 ∨ (n : Int) ≤ wh) (w : World) (hC : SetsAt w al ss) :
  Calls Try.prog 29 #[.int .i64 (k : Int), .string label, .slice al n cl, .int .i64 wh, u, .string seed] w (EithR 4 [] [] w) := by
 have HRD := Lib.hid (fun gb w hG hC => sRAll_ok (grp k) (grp_ok k h1 h3) gb ss al cl w hG hC hz)
 rw [hn] at HRD
 have HC := Lib.hid hC
 have HN := Lib.hid hn
 clear hC hn hz
 by_cases hw0 : wh < 0
 ·have hd1 : decide (wh < 0) = true := decide_eq_true hw0
  clear hw hw0
  go_enter Try.func29, Try.ntmps29
  go_wp2_with fail
  obtain ⟨w1, hq1, hb9, hz9, Hout⟩ := new1 w 60 [.slice none 0 0, .slice none 0 0]
  rw [hq1]
  clear hq1
  have HB := Lib.hid hb9
  have HZS := hz9
  clear hb9 hz9
  have out_ := Hout.out.c2
  go_wp2_with fail
  refine (of_some k h1 h3 w1).mono ?_
  rintro e w2 ⟨rfl, hg9, hb9⟩
  clear out_
  replace Hout := Lib.hid (Hout.out.up hb9)
  replace HB := hbu HB hb9
  replace HZS := sz HZS hb9.size
  have HG := Lib.hid hg9
  clear hg9 hb9
  have out_ := Hout.out.c2
  go_wp2_with fail
  refine (HRD.out _ w2 HG.out (HC.out.up HB.out)).mono ?_
  rintro e w3 ⟨hb9, ts, a9, c9, rfl, hts, _⟩
  clear out_
  replace Hout := Lib.hid (Hout.out.up hb9)
  replace HG := Lib.hid (HG.out.up hb9)
  replace HB := hbu HB hb9
  replace HZS := sz HZS hb9.size
  have HTS := Lib.hid hts
  clear hts hb9
  have out_ := Hout.out.c2
  rw [show ts.length = n by rw [← HN.out, ← HTS.out, List.length_map]]
  have f4_out := Hout.out.frozen
  have o4_out_ := out_; clear out_
  obtain ⟨w4, hq4, hg9, hz9, hx9⟩ := put2 Hout 0 (.slice none 0 0) 1 (.slice none 0 0) [.slice none 0 0, .slice none 0 0] rfl
  replace HG := Lib.hid (HG.out.grown hg9.out (sne (by have g0 := HZS.out; omega)))
  replace HB := hbg HB hg9 (by have g0 := HZS.out; omega)
  replace HZS := sz HZS hz9.out
  replace Hout := hx9
  clear hx9 hg9 hz9
  have out_ := Hout.out.c2
  go_wp2_with fail
  clear hq4 o4_out_ f4_out
  simp [bodyPost, results, Try.results29, go_sem, out_]
  exact eithR_none _ HB.out
 ·have hd1 : decide (wh < 0) = false := decide_eq_false hw0
  have hd2 : decide (wh ≥ (n : Int)) = true := decide_eq_true (by omega)
  clear hw hw0
  go_enter Try.func29, Try.ntmps29
  go_wp2_with fail
  obtain ⟨w1, hq1, hb9, hz9, Hout⟩ := new1 w 60 [.slice none 0 0, .slice none 0 0]
  rw [hq1]
  clear hq1
  have HB := Lib.hid hb9
  have HZS := hz9
  clear hb9 hz9
  have out_ := Hout.out.c2
  go_wp2_with fail
  refine (of_some k h1 h3 w1).mono ?_
  rintro e w2 ⟨rfl, hg9, hb9⟩
  clear out_
  replace Hout := Lib.hid (Hout.out.up hb9)
  replace HB := hbu HB hb9
  replace HZS := sz HZS hb9.size
  have HG := Lib.hid hg9
  clear hg9 hb9
  have out_ := Hout.out.c2
  go_wp2_with fail
  refine (HRD.out _ w2 HG.out (HC.out.up HB.out)).mono ?_
  rintro e w3 ⟨hb9, ts, a9, c9, rfl, hts, _⟩
  clear out_
  replace Hout := Lib.hid (Hout.out.up hb9)
  replace HG := Lib.hid (HG.out.up hb9)
  replace HB := hbu HB hb9
  replace HZS := sz HZS hb9.size
  have HTS := Lib.hid hts
  clear hts hb9
  have out_ := Hout.out.c2
  rw [show ts.length = n by rw [← HN.out, ← HTS.out, List.length_map]]
  have f4_out := Hout.out.frozen
  have o4_out_ := out_; clear out_
  obtain ⟨w4, hq4, hg9, hz9, hx9⟩ := put2 Hout 0 (.slice none 0 0) 1 (.slice none 0 0) [.slice none 0 0, .slice none 0 0] rfl
  replace HG := Lib.hid (HG.out.grown hg9.out (sne (by have g0 := HZS.out; omega)))
  replace HB := hbg HB hg9 (by have g0 := HZS.out; omega)
  replace HZS := sz HZS hz9.out
  replace Hout := hx9
  clear hx9 hg9 hz9
  have out_ := Hout.out.c2
  go_wp2_with fail
  clear hq4 o4_out_ f4_out
  simp [bodyPost, results, Try.results29, go_sem, out_]
  exact eithR_none _ HB.out
theorem rows_map (ro : List RowA) : ro.flatMap RowA.cells = ro.map fun r => Value.slice r.a r.l.length r.c := by
 induction ro with
 | nil => rfl
 | cons r ro ih => rw [List.flatMap_cons, List.map_cons, ih]; rfl
theorem rows_set (ro : List RowA) (i : Nat) (r : RowA) : (ro.set i r).flatMap RowA.cells = (ro.flatMap RowA.cells).set i (.slice r.a r.l.length r.c) := by
 rw [rows_map, rows_map, List.map_set]
theorem Kept.transP {P Q : Nat → Prop} {w0 w w2 : World} (h : Kept P w0 w) (h1 : Kept Q w w2) (hq : ∀ q, Q q → P q) : Kept P w0 w2 :=
 ⟨h1.os.trans h.os, h1.tape.trans h.tape, h1.output.trans h.output, Nat.le_trans h.size h1.size, fun q hlt hne => (h1.block q (Nat.lt_of_lt_of_le hlt h.size) (fun e => hne (hq q e))).trans (h.block q hlt hne)⟩
theorem RowsNew.keptN {N : Nat} {w w1 : World} {ro : List RowA} (h : RowsNew N w ro) (hk : Kept (fun q => q < N) w w1) : RowsNew N w1 ro := fun r hr =>
 let ⟨h1, h2, h3⟩ := h r hr
 ⟨Sl.kept h1 hk (fun x hx e => by have := h2 x hx; have e : x.block < N := e; omega), h2, h3⟩
def NonN (N : Nat) (w : World) (b : Prop) (m n : Nat) (W : List ByteArray) (v : Value) : Prop := b → ∃ a c, v = .slice a n c ∧ Sl w w.heap.size a (W.flatMap (limC m)) ∧ ∀ x, a = some x → N ≤ x.block
theorem NonN.keptN {N m n : Nat} {w w1 : World} {b : Prop} {W : List ByteArray} {v : Value} (h : NonN N w b m n W v) (hk : Kept (fun q => q < N) w w1) : NonN N w1 b m n W v := fun hb =>
 let ⟨a, c, h1, h2, h3⟩ := h hb
 ⟨a, c, h1, Sl.kept h2 hk (fun x hx e => by have := h3 x hx; have e : x.block < N := e; omega), h3⟩
theorem madeCells_eq (z : Value) (n : Nat) : madeCells #[z] n = (List.replicate n z).toArray := by
 apply Array.ext
 ·simp [madeCells]
 ·intro i h1 h2
  simp [madeCells, Nat.mod_one]
theorem sPany_sc (k : Nat) (h1 : 1 ≤ k) (h3 : k ≤ 3) (label seed : ByteArray) (ss : List SetA) (n : Nat) (hn : ss.length = n) (al : Option Addr) (cl : Nat) (hz : setsE (grp k) ss = 0) (hcap : ∀ s ∈ ss, ∀ c ∈ s.l, CapOk c) (wh : Nat) (hwn : wh < n) (xs : List ByteArray) (ax : Option Addr) (cx : Nat) (hm : xs.length ≤ 8796093022207) (z : Nat) (hz2 : scE (grp k) (pvL (ss.map SetA.l) wh).length xs = z) (hz0 : ¬ z = 0) (w : World) (hC : SetsAt w al ss) (hS : Sl w w.heap.size ax (xs.map Value.string)) :
  Calls Try.prog 29 #[.int .i64 (k : Int), .string label, .slice al n cl, .int .i64 (wh : Int), .slice ax xs.length cx, .string seed] w (EithR (z : Int) [] [] w) := by
 have OK := Lib.hid (grp_ok k h1 h3)
 have HRD := Lib.hid (fun gb w hG hC => sRAll_ok (grp k) OK.out gb ss al cl w hG hC hz)
 rw [hn] at HRD
 have HC := Lib.hid hC
 have HS := Lib.hid hS
 have HN := Lib.hid hn
 have HZE := Lib.hid (setsE_ok hz)
 have h16 : n ≤ 16 := by have := HZE.out.2.1; omega
 have HSS := Lib.hid (fun s hs => (show (∀ c ∈ s.l, CapOk c) ∧ wrongE (grp k) s.l = 0 from ⟨hcap s hs, wrongsE_all HZE.out.2.2 s hs⟩))
 have HSC := Lib.hid (fun gb a c m (hm : m = (pvL (ss.map SetA.l) wh).length) w1 hG hS => (show Calls Try.prog 67 #[.agg #[.pointer (some ⟨gb, 0, none⟩), .slice a m c], .slice ax xs.length cx] w1 (ScalQ (grp k) z xs w1) from by
  have h := scalars_any (grp k) OK.out gb m a c xs ax cx (by assumption) w1 hG hS
  unfold ScalR at h
  rw [hm, hz2] at h
  rw [hm]
  exact h))
 unfold ScalQ at HSC
 have hd1 : decide ((wh : Int) < 0) = false := decide_eq_false (by omega)
 have hd2 : decide ((wh : Int) ≥ (n : Int)) = false := decide_eq_false (by omega)
 have hd3 : ((z : Int) != 0) = true := by simp; omega
 clear hC hS hn hz hcap hm hz2 hz0
 go_enter Try.func29, Try.ntmps29
 go_wp2_with fail
 obtain ⟨w1, hq1, hb9, hz9, Hout⟩ := new1 w 60 [.slice none 0 0, .slice none 0 0]
 rw [hq1]
 clear hq1
 have HB := Lib.hid hb9
 have HZS := hz9
 clear hb9 hz9
 have out_ := Hout.out.c2
 go_wp2_with fail
 refine (of_some k h1 h3 w1).mono ?_
 rintro e w2 ⟨rfl, hg9, hb9⟩
 clear out_
 replace Hout := Lib.hid (Hout.out.up hb9)
 replace HB := hbu HB hb9
 replace HZS := sz HZS hb9.size
 have HG := Lib.hid hg9
 clear hg9 hb9
 have out_ := Hout.out.c2
 go_wp2_with fail
 refine (HRD.out _ w2 HG.out (HC.out.up HB.out)).mono ?_
 rintro e w3 ⟨hb9, ts, a9, c9, rfl, hts, hsl, hat, hof, hfr⟩
 clear out_
 replace Hout := Lib.hid (Hout.out.up hb9)
 replace HG := Lib.hid (HG.out.up hb9)
 replace HB := hbu HB hb9
 replace HZS := sz HZS hb9.size
 have HTS := Lib.hid hts
 clear hts
 have HSL := Lib.hid hsl
 clear hsl
 have HAT := Lib.hid hat
 clear hat
 have HOF := Lib.hid hof
 clear hof hb9
 have out_ := Hout.out.c2
 have HTL := Lib.hid (show ts.length = n by rw [← HN.out, ← HTS.out, List.length_map])
 rw [HTL.out]
 clear HRD hfr
 have BQ := Lib.hid (Below.refl w3.heap.size w3)
 have HG5 := HG
 have HB5 := HB
 have HGL := Lib.hid (show w1.heap.size < w3.heap.size from HG.out.lt)
 have hjt : wh < ts.length := by rw [HTL.out]; exact hwn
 have hjs : wh < ss.length := by rw [HN.out]; exact hwn
 obtain ⟨bl, ol, rfl, hbl0, hc⟩ := HSL.out.elem (SetR.cells_len w1.heap.size) (by omega) wh hjt
 have hc_0 := hc 0 _ rfl
 rw [Nat.add_zero] at hc_0
 have hc_1 := hc 1 _ rfl
 clear hc
 have HSJ := Lib.hid (show ts[wh].s = ss[wh] by
  have h8 : (ts.map SetR.s)[wh]? = ss[wh]? := by rw [HTS.out]
  rw [List.getElem?_map, List.getElem?_eq_getElem hjt, List.getElem?_eq_getElem hjs] at h8
  exact Option.some.inj h8)
 have HST := Lib.hid (HAT.out _ (List.getElem_mem hjt)).1
 have HOJ := HOF.out _ (List.getElem_mem hjt)
 have HSZ := Lib.hid (read_sizes OK.out HOJ.w (HSS.out _ (by rw [HSJ.out]; exact List.getElem_mem hjs)).1 HOJ.k)
 have HKW := Lib.hid (show ts[wh].rs.map ClaimR.k = pvL (ss.map SetA.l) wh by unfold pvL; rw [HOJ.k, HSJ.out, List.getD_eq_getElem?_getD, List.getElem?_map, List.getElem?_eq_getElem hjs]; rfl)
 clear HOJ hjs HSJ
 obtain ⟨tw, htw⟩ : ∃ t, ts[wh]'hjt = t := ⟨_, rfl⟩
 rw [htw] at hc_1 HST HSZ HKW
 clear htw hjt
 have HLW := Lib.hid (show tw.rs.length = (pvL (ss.map SetA.l) wh).length by rw [← HKW.out, List.length_map])
 have HCW0 := Lib.hid hc_0
 have HCW1 := Lib.hid hc_1
 have HBL0 := Lib.hid hbl0
 have hjw := hwn
 go_wp2_with fail
 refine (HSC.out w1.heap.size tw.a tw.c tw.rs.length HLW.out w3 (HG5.out.up BQ.out) (HS.out.up HB.out)).mono ?_
 rintro e w4 ⟨hb9, v, rfl, hv9⟩
 clear out_
 replace Hout := Lib.hid (Hout.out.up hb9)
 replace HG := Lib.hid (HG.out.up hb9)
 replace BQ := hbu BQ hb9
 replace HB := hbu HB hb9
 replace HZS := sz HZS hb9.size
 have HVV := Lib.hid hv9
 clear hv9 hb9
 have out_ := Hout.out.c2
 clear BQ
 have f5_out := Hout.out.frozen
 have o5_out_ := out_; clear out_
 obtain ⟨w5, hq5, hg9, hz9, hx9⟩ := put2 Hout 0 (.slice none 0 0) 1 (.slice none 0 0) [.slice none 0 0, .slice none 0 0] rfl
 replace HG := Lib.hid (HG.out.grown hg9.out (sne (by have g0 := HZS.out; omega)))
 replace HB := hbg HB hg9 (by have g0 := HZS.out; omega)
 replace HZS := sz HZS hz9.out
 replace Hout := hx9
 clear hx9 hg9 hz9
 have out_ := Hout.out.c2
 go_wp2_with fail
 clear hq5 o5_out_ f5_out
 simp [bodyPost, results, Try.results29, go_sem, out_]
 exact eithR_none _ HB.out
theorem sPany_hold (k : Nat) (h1 : 1 ≤ k) (h3 : k ≤ 3) (label seed : ByteArray) (ss : List SetA) (n : Nat) (hn : ss.length = n) (al : Option Addr) (cl : Nat) (hz : setsE (grp k) ss = 0) (hcap : ∀ s ∈ ss, ∀ c ∈ s.l, CapOk c) (wh : Nat) (hwn : wh < n) (xs : List ByteArray) (ax : Option Addr) (cx : Nat) (hm : xs.length ≤ 8796093022207) (hz2 : scE (grp k) (pvL (ss.map SetA.l) wh).length xs = 0) (hhp : holdP (grp k) (pvL (ss.map SetA.l) wh) xs = false) (w : World) (hC : SetsAt w al ss) (hS : Sl w w.heap.size ax (xs.map Value.string)) :
  Calls Try.prog 29 #[.int .i64 (k : Int), .string label, .slice al n cl, .int .i64 (wh : Int), .slice ax xs.length cx, .string seed] w (EithR 8 [] [] w) := by
 have OK := Lib.hid (grp_ok k h1 h3)
 have HRD := Lib.hid (fun gb w hG hC => sRAll_ok (grp k) OK.out gb ss al cl w hG hC hz)
 rw [hn] at HRD
 have HC := Lib.hid hC
 have HS := Lib.hid hS
 have HN := Lib.hid hn
 have HZE := Lib.hid (setsE_ok hz)
 have h16 : n ≤ 16 := by have := HZE.out.2.1; omega
 have HSS := Lib.hid (fun s hs => (show (∀ c ∈ s.l, CapOk c) ∧ wrongE (grp k) s.l = 0 from ⟨hcap s hs, wrongsE_all HZE.out.2.2 s hs⟩))
 have HXL := Lib.hid (sc_len9 hz2)
 have HSC := Lib.hid (fun gb a c m (hm9 : m = (pvL (ss.map SetA.l) wh).length) w1 hG hS => (show Calls Try.prog 67 #[.agg #[.pointer (some ⟨gb, 0, none⟩), .slice a m c], .slice ax xs.length cx] w1 (ScalQ (grp k) 0 xs w1) from by
  have h := scalars_any (grp k) OK.out gb m a c xs ax cx hm w1 hG hS
  unfold ScalR at h
  rw [hm9, hz2] at h
  rw [hm9]
  exact h))
 unfold ScalQ at HSC
 have HHB := Lib.hid hhp
 have hd1 : decide ((wh : Int) < 0) = false := decide_eq_false (by omega)
 have hd2 : decide ((wh : Int) ≥ (n : Int)) = false := decide_eq_false (by omega)
 clear hC hS hn hz hcap hm hz2 hhp
 go_enter Try.func29, Try.ntmps29
 go_wp2_with fail
 obtain ⟨w1, hq1, hb9, hz9, Hout⟩ := new1 w 60 [.slice none 0 0, .slice none 0 0]
 rw [hq1]
 clear hq1
 have HB := Lib.hid hb9
 have HZS := hz9
 clear hb9 hz9
 have out_ := Hout.out.c2
 go_wp2_with fail
 refine (of_some k h1 h3 w1).mono ?_
 rintro e w2 ⟨rfl, hg9, hb9⟩
 clear out_
 replace Hout := Lib.hid (Hout.out.up hb9)
 replace HB := hbu HB hb9
 replace HZS := sz HZS hb9.size
 have HG := Lib.hid hg9
 clear hg9 hb9
 have out_ := Hout.out.c2
 go_wp2_with fail
 refine (HRD.out _ w2 HG.out (HC.out.up HB.out)).mono ?_
 rintro e w3 ⟨hb9, ts, a9, c9, rfl, hts, hsl, hat, hof, hfr⟩
 clear out_
 replace Hout := Lib.hid (Hout.out.up hb9)
 replace HG := Lib.hid (HG.out.up hb9)
 replace HB := hbu HB hb9
 replace HZS := sz HZS hb9.size
 have HTS := Lib.hid hts
 clear hts
 have HSL := Lib.hid hsl
 clear hsl
 have HAT := Lib.hid hat
 clear hat
 have HOF := Lib.hid hof
 clear hof hb9
 have out_ := Hout.out.c2
 have HTL := Lib.hid (show ts.length = n by rw [← HN.out, ← HTS.out, List.length_map])
 rw [HTL.out]
 clear HRD hfr
 have BQ := Lib.hid (Below.refl w3.heap.size w3)
 have HG5 := HG
 have HB5 := HB
 have HGL := Lib.hid (show w1.heap.size < w3.heap.size from HG.out.lt)
 have hjt : wh < ts.length := by rw [HTL.out]; exact hwn
 have hjs : wh < ss.length := by rw [HN.out]; exact hwn
 obtain ⟨bl, ol, rfl, hbl0, hc⟩ := HSL.out.elem (SetR.cells_len w1.heap.size) (by omega) wh hjt
 have hc_0 := hc 0 _ rfl
 rw [Nat.add_zero] at hc_0
 have hc_1 := hc 1 _ rfl
 clear hc
 have HSJ := Lib.hid (show ts[wh].s = ss[wh] by
  have h8 : (ts.map SetR.s)[wh]? = ss[wh]? := by rw [HTS.out]
  rw [List.getElem?_map, List.getElem?_eq_getElem hjt, List.getElem?_eq_getElem hjs] at h8
  exact Option.some.inj h8)
 have HST := Lib.hid (HAT.out _ (List.getElem_mem hjt)).1
 have HOJ := HOF.out _ (List.getElem_mem hjt)
 have HSZ := Lib.hid (read_sizes OK.out HOJ.w (HSS.out _ (by rw [HSJ.out]; exact List.getElem_mem hjs)).1 HOJ.k)
 have HKW := Lib.hid (show ts[wh].rs.map ClaimR.k = pvL (ss.map SetA.l) wh by unfold pvL; rw [HOJ.k, HSJ.out, List.getD_eq_getElem?_getD, List.getElem?_map, List.getElem?_eq_getElem hjs]; rfl)
 clear HOJ hjs HSJ
 obtain ⟨tw, htw⟩ : ∃ t, ts[wh]'hjt = t := ⟨_, rfl⟩
 rw [htw] at hc_1 HST HSZ HKW
 clear htw hjt
 have HLW := Lib.hid (show tw.rs.length = (pvL (ss.map SetA.l) wh).length by rw [← HKW.out, List.length_map])
 have HCW0 := Lib.hid hc_0
 have HCW1 := Lib.hid hc_1
 have HBL0 := Lib.hid hbl0
 have HRX := Lib.hid (show tw.rs.length = xs.length by rw [HLW.out, HXL.out])
 rw [HRX.out] at hc_1 HCW1
 have hjw := hwn
 go_wp2_with fail
 refine (HSC.out w1.heap.size tw.a tw.c xs.length HXL.out w3 (HG5.out.up BQ.out) (HS.out.up HB.out)).mono ?_
 rintro e w4 ⟨hb9, v, rfl, hv9⟩
 clear out_
 replace Hout := Lib.hid (Hout.out.up hb9)
 replace HG := Lib.hid (HG.out.up hb9)
 replace BQ := hbu BQ hb9
 replace HB := hbu HB hb9
 replace HZS := sz HZS hb9.size
 clear hb9
 have out_ := Hout.out.c2
 obtain ⟨a7, c7, rfl, hsv, hfv⟩ := hv9 trivial
 have HSV := Lib.hid hsv
 clear hc_0 hc_1 hsv hfv hv9
 have BS7 := Lib.hid (Below.refl w4.heap.size w4)
 have hc_0 := (BQ.out.cell (p := ⟨bl, ol + wh * 2, none⟩) HBL0.out).trans HCW0.out
 have hc_1 := (BQ.out.cell (p := ⟨bl, ol + wh * 2 + 1, none⟩) HBL0.out).trans HCW1.out
 go_wp2_with fail
 refine (holds_any (grp k) OK.out w1.heap.size tw.rs xs.length HRX.out tw.a tw.c xs rfl a7 c7 (by have h9 := HSZ.out.1; have h8 := HSZ.out.2.1; have h7 := HRX.out; omega) HSZ.out.2.2.2.1 false (by rw [HKW.out]; exact HHB.out) w4 (HG5.out.up BQ.out) (HST.out.up BQ.out) (HSV.out.up BS7.out)).mono ?_
 rintro e w5 ⟨rfl, hb9⟩
 clear out_
 replace Hout := Lib.hid (Hout.out.up hb9)
 replace HG := Lib.hid (HG.out.up hb9)
 replace BQ := hbu BQ hb9
 replace BS7 := hbu BS7 hb9
 replace HB := hbu HB hb9
 replace HZS := sz HZS hb9.size
 clear hb9
 have out_ := Hout.out.c2
 clear hc_0 hc_1 BQ BS7
 have f6_out := Hout.out.frozen
 have o6_out_ := out_; clear out_
 obtain ⟨w6, hq6, hg9, hz9, hx9⟩ := put2 Hout 0 (.slice none 0 0) 1 (.slice none 0 0) [.slice none 0 0, .slice none 0 0] rfl
 replace HG := Lib.hid (HG.out.grown hg9.out (sne (by have g0 := HZS.out; omega)))
 replace HB := hbg HB hg9 (by have g0 := HZS.out; omega)
 replace HZS := sz HZS hz9.out
 replace Hout := hx9
 clear hx9 hg9 hz9
 have out_ := Hout.out.c2
 go_wp2_with fail
 clear hq6 o6_out_ f6_out
 simp [bodyPost, results, Try.results29, go_sem, out_]
 exact eithR_none _ HB.out
end Go.Proofs.Ytdlnnkbigeiilaa
namespace Go.Proofs.Ytdlnnkbigeiilaa
open Go.RowKit
def pvCK (k : Int) (label seed : ByteArray) (ss : List SetA) (wh : Int) (xs : List ByteArray) : List ByteArray := if pvE k ss wh xs = 0 then pvCs (grp k.toNat) (ss.map SetA.l) wh.toNat (pvT0 k label (ss.map SetA.l) seed) ss.length else []
def pvAK (k : Int) (label seed : ByteArray) (ss : List SetA) (wh : Int) (xs : List ByteArray) : List (List ByteArray) := if pvE k ss wh xs = 0 then pvAs (grp k.toNat) (ss.map SetA.l) wh.toNat (pvT0 k label (ss.map SetA.l) seed) ss.length xs else []
theorem pvE_ok {k : Int} {ss : List SetA} {wh : Int} {xs : List ByteArray} (h : pvE k ss wh xs = 0) : ∃ (j v : Nat), k = j ∧ 1 ≤ j ∧ j ≤ 3 ∧ wh = v ∧ v < ss.length ∧ setsE (grp j) ss = 0 ∧ scE (grp j) (pvL (ss.map SetA.l) v).length xs = 0 ∧ holdP (grp j) (pvL (ss.map SetA.l) v) xs = true := by
 unfold pvE at h
 by_cases hk : 1 ≤ k ∧ k ≤ 3
 case neg => rw [if_neg hk] at h; cases h
 rw [if_pos hk] at h
 by_cases hz : setsE (grp k.toNat) ss = 0
 case neg => rw [if_pos hz] at h; exact absurd h hz
 rw [if_neg (fun e => e hz)] at h
 by_cases hw : wh < 0 ∨ (ss.length : Int) ≤ wh
 case pos => rw [if_pos hw] at h; cases h
 rw [if_neg hw] at h
 by_cases hs : scE (grp k.toNat) (pvL (ss.map SetA.l) wh.toNat).length xs = 0
 case neg => rw [if_pos hs] at h; exact absurd h hs
 rw [if_neg (fun e => e hs)] at h
 by_cases hh : holdP (grp k.toNat) (pvL (ss.map SetA.l) wh.toNat) xs = true
 case neg => rw [if_neg hh] at h; cases h
 exact ⟨k.toNat, wh.toNat, by omega, by omega, by omega, by omega, by omega, hz, hs, hh⟩
theorem pv_small (k : Int) (label seed : ByteArray) (ss : List SetA) (wh : Int) (xs : List ByteArray) : (pvCK k label seed ss wh xs).length ≤ 16 ∧ (pvAK k label seed ss wh xs).length ≤ 16 ∧ ∀ r ∈ pvAK k label seed ss wh xs, r.length ≤ 64 := by
 unfold pvCK pvAK
 by_cases h : pvE k ss wh xs = 0
 ·rw [if_pos h, if_pos h]
  obtain ⟨j, v, rfl, h1, h3, rfl, hv, hz, hs, _⟩ := pvE_ok h
  rw [Int.toNat_natCast, Int.toNat_natCast]
  have h16 := (setsE_ok hz).2.1
  have hw := wrongsE_all (setsE_ok hz).2.2
  have hl : ∀ i, i < ss.length → (pvL (ss.map SetA.l) i).length ≤ 64 := fun i hi => by
   have e : pvL (ss.map SetA.l) i = ss[i].l := by unfold pvL; rw [List.getD_eq_getElem?_getD, List.getElem?_map, List.getElem?_eq_getElem hi]; rfl
   rw [e]
   exact (shape_ok (wrong_ok (hw _ (List.getElem_mem hi))).1).2.1
  refine ⟨by unfold pvCs; simpa using h16, by unfold pvAs; simpa using h16, fun r hr => ?_⟩
  unfold pvAs at hr
  obtain ⟨i, hi, rfl⟩ := List.mem_map.1 hr
  have hi := List.mem_range.1 hi
  show (if i = v then ansL (grp j) _ _ xs else pvZ (grp j) (ss.map SetA.l) v _ i).length ≤ 64
  by_cases e : i = v
  ·rw [if_pos e, ansL_len (grp j) _ (show (pvW (grp j) (ss.map SetA.l) v _).length = (pvL (ss.map SetA.l) v).length from nonceL_len _ _ _) (sc_len9 hs)]
   exact hl v hv
  ·rw [if_neg e]
   show (nonceL _ _ _).length ≤ 64
   rw [nonceL_len]
   exact hl i hi
 ·rw [if_neg h, if_neg h]
  exact ⟨Nat.zero_le _, Nat.zero_le _, fun _ h => by cases h⟩
end Go.Proofs.Ytdlnnkbigeiilaa
namespace Go.Proofs.Ytdlnnkbigeiilaa
open Go.RowKit
theorem setsE_code (G : GP) (ss : List SetA) : setsE G ss = 0 ∨ setsE G ss = 2 ∨ setsE G ss = 3 ∨ setsE G ss = 7 := by
 have hw : ∀ l : List ClaimA, wrongE G l = 0 ∨ wrongE G l = 2 ∨ wrongE G l = 3 ∨ wrongE G l = 7 := fun l => by
  unfold wrongE shapeE
  by_cases g1 : (decide (64 < l.length) || l.any cLong) = true
  ·rw [if_pos g1]; simp
  ·rw [if_neg g1]
   by_cases g2 : (decide (l.length = 0) || l.any cForm) = true
   ·rw [if_pos g2]; simp
   ·rw [if_neg g2]
    by_cases g3 : l.all (cElems G) = true
    ·rw [if_pos g3]; simp
    ·rw [if_neg g3]; simp
 have hs : ∀ ss : List SetA, wrongsE G ss = 0 ∨ wrongsE G ss = 2 ∨ wrongsE G ss = 3 ∨ wrongsE G ss = 7 := fun ss => by
  induction ss with
  | nil => exact Or.inl rfl
  | cons s r ih =>
   unfold wrongsE
   by_cases g : wrongE G s.l = 0
   ·rw [if_pos g]; exact ih
   ·rw [if_neg g]; exact hw s.l
 unfold setsE
 by_cases g1 : 16 < ss.length
 ·rw [if_pos g1]; simp
 ·rw [if_neg g1]
  by_cases g2 : ss.length = 0
  ·rw [if_pos g2]; simp
  ·rw [if_neg g2]; exact hs ss
theorem sets_map (ss : List SetA) : ss.flatMap SetA.cells = ss.map fun s => Value.slice s.a s.l.length s.c := by
 induction ss with
 | nil => rfl
 | cons s r ih => rw [List.flatMap_cons, List.map_cons, ih]; rfl
theorem sets_set (ss : List SetA) (i : Nat) (s : SetA) : (ss.set i s).flatMap SetA.cells = (ss.flatMap SetA.cells).set i (.slice s.a s.l.length s.c) := by
 rw [sets_map, sets_map, List.map_set]
theorem either_pv {k : Nat} (h1 : 1 ≤ k) (h3 : k ≤ 3) {o : ByteArray} {xs : List ByteArray} {cs : List ClaimB} (h : cs.map ClaimB.x = xs.map (madeT (grp k) o)) (hxs : xs.all (isSc (grp k).q.m (grp k).size) = true) (ss : List SetA) (wh : Nat) (hw : wh < ss.length) (a : Option Addr) (c : Nat) :
  pvE (k : Int) (ss.set wh ⟨a, c, cs.map ClaimB.a⟩) (wh : Int) xs = setsE (grp k) (ss.set wh ⟨a, c, cs.map ClaimB.a⟩) := by
 have hl : pvL ((ss.set wh ⟨a, c, cs.map ClaimB.a⟩).map SetA.l) wh = cs.map ClaimB.a := by
  unfold pvL
  rw [List.getD_eq_getElem?_getD, List.getElem?_map, List.getElem?_set_self hw]
  rfl
 unfold pvE
 rw [if_pos (by omega), Int.toNat_natCast, Int.toNat_natCast, hl]
 by_cases hz : setsE (grp k) (ss.set wh ⟨a, c, cs.map ClaimB.a⟩) = 0
 case neg => rw [if_pos hz]
 rw [if_neg (fun e => e hz), if_neg (by rw [List.length_set]; omega)]
 have hs : scE (grp k) (cs.map ClaimB.a).length xs = 0 := by
  unfold scE
  rw [if_pos (by rw [List.length_map, (made_at h).1]), if_pos hxs]
 rw [if_neg (fun e => e hs), if_pos (made_hold h1 h3 h hxs), hz]
theorem either_van {k : Nat} (label seed : ByteArray) (ss : List SetA) (wh : Nat) (xs : List ByteArray) (h : pvE (k : Int) ss (wh : Int) xs = 0) :
  vanK (k : Int) label ss (pvCK (k : Int) label seed ss (wh : Int) xs) (pvAK (k : Int) label seed ss (wh : Int) xs) = true := by
 unfold pvCK pvAK
 rw [if_pos h, if_pos h, Int.toNat_natCast, Int.toNat_natCast]
 exact either_comp label seed ss wh xs h
end Go.Proofs.Ytdlnnkbigeiilaa
