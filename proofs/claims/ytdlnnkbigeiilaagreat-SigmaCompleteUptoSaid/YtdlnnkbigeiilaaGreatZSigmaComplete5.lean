/- SigmaComplete: what holds is proved, and the proof is found right; so is a signature. No condition. -/
import Derived.Test.YtdlnnkbigeiilaaGreatZSigmaComplete4
import Derived.Outline
import Derived.Lib.Join

set_option maxRecDepth 100000
set_option maxHeartbeats 4000000
set_option linter.unusedVariables false
set_option linter.unusedSimpArgs false
namespace Go.Proofs.YtdlnnkbigeiilaaGreat
open Go.RowKit
def SayOk (c : ClaimA) : Prop := c.bases.length ≤ 8 ∧ c.images.length ≤ 8 ∧ (∀ x ∈ c.bases, x.size ≤ 32) ∧ (∀ x ∈ c.images, x.size ≤ 32)
theorem cat_small {l : List ByteArray} (h8 : l.length ≤ 8) (h : ∀ x ∈ l, x.size ≤ 32) : (catB l).size < 140737488355328 := by
 have h1 := catB_size 32 l h
 have h2 : l.length * 32 ≤ 8 * 32 := Nat.mul_le_mul_right _ h8
 omega
end Go.Proofs.YtdlnnkbigeiilaaGreat
namespace Go.Proofs.YtdlnnkbigeiilaaGreat
open Go.RowKit
theorem catB_bytes : ∀ (l : List ByteArray) (a : ByteArray), (l.foldl (· ++ ·) a).data.toList = a.data.toList ++ (l.map (·.data.toList)).flatten
 | [], a => by simp
 | x :: l, a => by rw [List.foldl_cons, catB_bytes l (a ++ x)]; simp
theorem join_none : ∀ xs : List (List UInt8), Lib.join xs [] = xs.flatten
 | [] => rfl
 | x :: r => by rw [Lib.join_cons, Lib.joinTail]; simp
theorem join_cat (l : List ByteArray) : (⟨(Lib.join (l.map (·.data.toList)) (ByteArray.mk #[]).data.toList).toArray⟩ : ByteArray) = catB l := by
 have h := catB_bytes l ⟨#[]⟩
 have e : (ByteArray.mk #[]).data.toList = [] := rfl
 rw [e, List.nil_append] at h
 rw [e, join_none, ← h]
 rfl
theorem join_size (l : List ByteArray) : (Lib.join (l.map (·.data.toList)) (ByteArray.mk #[]).data.toList).length = (catB l).size := by
 rw [← join_cat]; rfl
theorem sJoin_any (l : List ByteArray) (h8 : l.length ≤ 4096) (hz : ∀ x ∈ l, x.size ≤ 4096) (a : Option Addr) (c : Nat) (hc : l.length ≤ c) (w : World) (hX : Sl w w.heap.size a (l.map Value.string)) :
  Calls Tryz.prog 98 #[.slice a l.length c, .string ⟨#[]⟩] w fun e w' => e = .returned (.string (catB l)) ∧ Below w.heap.size w w' := by
 by_cases h0 : l = []
 ·subst h0
  refine (Tryz.strings_Join_none a c ⟨#[]⟩ w).mono ?_
  rintro e w' ⟨rfl, rfl⟩
  exact ⟨rfl, Below.refl _ _⟩
 ·have hp : 0 < l.length := List.length_pos_iff.2 h0
  obtain ⟨b, o, rfl, hb, _⟩ := hX.at 0 (by rw [List.length_map]; exact hp)
  refine (Tryz.strings_Join b o c l ⟨#[]⟩ w (fun j x hx => ?_) hb (by omega) hc ?_).mono ?_
  ·obtain ⟨hj, rfl⟩ := List.getElem?_eq_some_iff.1 hx
   obtain ⟨b', o', he, _, h1⟩ := hX.at j (by rw [List.length_map]; exact hj)
   cases he
   rw [List.getElem_map] at h1
   exact h1
  ·rw [join_size]
   have h1 := catB_size 4096 l hz
   have h2 : l.length * 4096 ≤ 4096 * 4096 := Nat.mul_le_mul_right _ h8
   omega
  ·rintro e w' ⟨rfl, hb'⟩
   exact ⟨by rw [join_cat], hb'⟩
theorem sbegin_any (G : GP) (gb : Nat) (nm label : ByteArray) (hm : nm.size < 140737488355328) (hl : label.size < 140737488355328) (hk : G.kind < 256) (w : World) (hG : GroupAt w gb G) :
  Calls Tryz.prog 38 #[.pointer (some ⟨gb, 0, none⟩), .string nm, .string label] w fun e w' => ∃ tb, e = .returned (.pointer (some ⟨tb, 0, none⟩)) ∧ w.heap.size ≤ tb ∧ TalkAt w' tb (beginT nm label (G.kind : Int)) ∧ Below w.heap.size w w' := by
 have H1 := Lib.hid (fun w => NewTalk_any nm hm w)
 have hz1 : (tagS talkB [nm]).size < 140737488355328 := by rw [tagS_size]; decide
 have H2 := Lib.hid (fun tb w h => Say_any tb (tagS talkB [nm]) labelB label hz1 (by decide) hl w h)
 have hz2 : (say1 (tagS talkB [nm]) labelB label).size < 140737488355328 := by rw [say1_size]; decide
 have H3 := Lib.hid (fun tb w h => Say_any tb (say1 (tagS talkB [nm]) labelB label) kindB (kindS (G.kind : Int)) hz2 (by decide) (show (1 : Nat) < 140737488355328 by decide) w h)
 unfold beginT
 unfold say1 at *
 generalize tagS talkB [nm] = t0 at *
 generalize tagS sayB [t0, labelB, label] = t1 at *
 generalize tagS sayB [t1, kindB, kindS (G.kind : Int)] = t2 at *
 clear hz1 hz2 hm hl
 unfold kindS at H3
 have HG := Lib.hid hG
 have HLT := Lib.hid hG.lt
 clear hG
 go_enter Tryz.func38, Tryz.ntmps38
 go_wp2_with fail
 refine (H1.out w).mono ?_
 rintro e wa ⟨tb, rfl, hge, ht, hb⟩
 have HGE := Lib.hid hge
 have HT := Lib.hid ht
 have HB := Lib.hid hb
 clear hge ht hb
 go_wp2_with fail
 refine (H2.out tb wa HT.out).mono ?_
 rintro e wb ⟨rfl, ht, hk2⟩
 have hkc := ((HG.out.up HB.out).keptP hk2 (show ¬ gb = tb by have := HGE.out; have := HLT.out; omega)).kind
 have HT2 := Lib.hid ht
 have HB2 := Lib.hid (Below.keptP HB.out hk2 HB.out.size (fun q hq => hq ▸ HGE.out))
 clear HT HB ht hk2 HG
 generalize G.kind = k at *
 have hk0 : (0 : Int) ≤ (k : Int) := by omega
 have hk1 : (k : Int) < 256 := by omega
 have BL := Lib.hid (Below.refl wb.heap.size wb)
 obtain ⟨w1, hq1, hb9, hz9, Hr⟩ := new1 wb 5 [.int .u8 (k : Int)]
 replace BL := hbu BL hb9
 have HZS := hz9
 clear hb9 hz9
 have r_ := Hr.out.c1
 have hcv := run_convert_bytes_arg (P := Tryz.prog) w1 150 5 Tryz.underlying150 Tryz.underlying5 wb.heap.size 0 1 1 [(k : Int)] rfl (fun i hi => by
  obtain rfl : i = 0 := by omega
  exact Hr.out.cell (i := 0) rfl) 9 Tryz.underlying9
 go_wp2_with fail
 clear hq1
 refine (H3.out tb _ (Bx.up HT2.out BL.out)).mono ?_
 rintro e wz ⟨rfl, ht, hk2⟩
 have HB3 := Lib.hid (Below.keptP (below_up HB2.out BL.out) hk2 (below_up HB2.out BL.out).size (fun q hq => hq ▸ HGE.out))
 have HT3 := Lib.hid ht
 clear ht hk2
 go_wp2_with fail
 go_ret
 exact ⟨tb, rfl, HGE.out, HT3.out, HB3.out⟩
theorem said_any (tb : Nat) (s : ByteArray) (ro : List RowA) (n : Nat) (hn : ro.length = n) (h64 : n ≤ 64) (hz : s.size = 32) (sh : ∀ r ∈ ro, r.l.length ≤ 8 ∧ ∀ x ∈ r.l, x.size ≤ 32) (hok : ∀ r ∈ ro, r.l.length ≤ r.c) (al : Option Addr) (cl : Nat) (w : World) (hT : TalkAt w tb s) (hC : RowsAt w al ro) (ha : ∀ x, al = some x → ¬ x.block = tb) (hr : ∀ r ∈ ro, ∀ x, r.a = some x → ¬ x.block = tb) :
  Calls Tryz.prog 40 #[.pointer (some ⟨tb, 0, none⟩), .slice al n cl] w fun e w' => e = .returned (.tuple #[]) ∧ TalkAt w' tb (sayFi s (ro.map RowA.l)) ∧ Kept (fun q => q = tb) w w' := by
 have HTK := Lib.hid (fun j (h : j < ro.length) => by
  have h1 := sayFi_take s (ro.map RowA.l) j (by rw [List.length_map]; exact h)
  rw [List.getElem_map, ← List.map_take, ← List.map_take] at h1
  exact h1)
 unfold sayF at HTK
 have HF := Lib.hid (fun s lb x hs hl hx w h => (show Calls Tryz.prog 97 #[.pointer (some ⟨tb, 0, none⟩), .string lb, .string x] w fun e w' => e = .returned (.tuple #[]) ∧ TalkAt w' tb (say1 s lb x) ∧ Kept (fun q => q = tb) w w' from Say_any tb s lb x hs hl hx w h))
 have HS1 := Lib.hid say1_size
 have HT0 := Lib.hid (show sayFi s ([].map RowA.l) = s from rfl)
 generalize sayFi s = SC at *
 generalize say1 = S1 at *
 have HC := Lib.hid hC
 have HN := Lib.hid hn
 have HZ := Lib.hid hz
 have HSH := Lib.hid sh
 have HOK := Lib.hid hok
 have HA := Lib.hid ha
 have HR := Lib.hid hr
 have HT := Lib.hid hT
 clear hC hn hz sh hok ha hr hT
 go_enter Tryz.func40, Tryz.ntmps40
 go_wp2_with fail
 go_loopw [8] (fun i wr => ∃ (j : Nat) (y : ByteArray), j ≤ n ∧ i = .int .i64 (j : Int) ∧ Hid (y.size = 32) ∧ Hid (y = SC ((ro.take j).map RowA.l)) ∧ Hid (TalkAt wr tb y) ∧ Hid (Kept (fun q => q = tb) w wr)) (fun i _ => n - (intOf i).toNat)
 case atStart => exact ⟨0, s, Nat.zero_le _, rfl, HZ, HT0.out.symm, HT, Kept.refl _ _⟩
 case round =>
  clear HT
  obtain ⟨j, y, hj, rfl, HY, HYS, HT, HK⟩ := hrel
  by_cases hjn : j < n
  ·have hjl : j < ro.length := by rw [HN.out]; exact hjn
   obtain ⟨bl, ol, rfl, hbl0, hc⟩ := (HC.out.s.kept HK.out HA.out).elem RowA.cells_len (by omega) j hjl
   have hc_0 := hc 0 _ rfl
   rw [Nat.add_zero] at hc_0
   clear hc
   rw [Nat.mul_one] at hc_0
   have HAB := Lib.hid (Sl.kept (HC.out.one j hjl) HK.out (HR.out _ (List.getElem_mem hjl)))
   have HSJ := Lib.hid (HSH.out _ (List.getElem_mem hjl))
   have HOJ := Lib.hid (HOK.out _ (List.getElem_mem hjl))
   have HTJ := Lib.hid (HTK.out j hjl)
   generalize ro[j] = c at *
   generalize c.l = bs at *
   generalize c.a = ab at *
   generalize c.c = cb at *
   rw [← HYS.out] at HTJ
   have HCB := Lib.hid (cat_small HSJ.out.1 HSJ.out.2)
   have HJ1 := Lib.hid (fun w h => sJoin_any bs (by have := HSJ.out.1; omega) (fun x hx => Nat.le_trans (HSJ.out.2 x hx) (by decide)) ab cb HOJ.out w h)
   clear HYS HSJ HOJ
   go_wp2_with fail
   refine (HJ1.out wr HAB.out).mono ?_
   rintro e wz ⟨rfl, hb9⟩
   have HT9 := Lib.hid (Bx.up HT.out hb9)
   have HK9 := Lib.hid (HK.out.up hb9)
   clear hb9 HT HK HAB HJ1 hc_0
   go_wp2_with fail
   refine (HF.out y firstB (catB bs) (by have := HY.out; omega) (by decide) HCB.out wz HT9.out).mono ?_
   rintro e wy ⟨rfl, ht, hk⟩
   have HT8 := Lib.hid ht
   have HK8 := Lib.hid (HK9.out.trans hk)
   clear ht hk HT9 HK9
   go_wp2_with fail
   exact ⟨⟨j + 1, _, by omega, by go_num, Lib.hid (HS1.out _ _ _), Lib.hid HTJ.out.symm, HT8, HK8⟩, by simp [intOf]; omega⟩
  ·have hj' : j = n := by omega
   subst hj'
   rw [List.take_of_length_le (by rw [HN.out]; exact Nat.le_refl _)] at HYS
   go_wp2_with fail
   go_end0
   exact ⟨rfl, by rw [← HYS.out]; exact HT.out, HK.out⟩
def CapOk (c : ClaimA) : Prop := c.bases.length ≤ c.cb ∧ c.images.length ≤ c.ci
theorem say_any (G : GP) (gv : Value) (tb : Nat) (s : ByteArray) (rs : List ClaimR) (n : Nat) (hn : rs.length = n) (h64 : n ≤ 64) (hz : s.size = 32) (sh : ∀ r ∈ rs, SayOk r.k ∧ CapOk r.k) (al : Option Addr) (cl : Nat) (w0 w : World) (hb : Below w0.heap.size w0 w) (htb : w0.heap.size ≤ tb) (hT : TalkAt w tb s) (hS : SetAt G w0 al rs) (hC : ∀ r ∈ rs, r.Src w0) :
  Calls Tryz.prog 39 #[.agg #[gv, .slice al n cl], .pointer (some ⟨tb, 0, none⟩)] w fun e w' => e = .returned (.tuple #[]) ∧ TalkAt w' tb (sayCl s (rs.map ClaimR.k)) ∧ Kept (fun q => q = tb) w w' := by
 have HTK := Lib.hid (fun j (h : j < rs.length) => by
  have h1 := sayCl_take s (rs.map ClaimR.k) j (by rw [List.length_map]; exact h)
  rw [List.getElem_map, ← List.map_take, ← List.map_take] at h1
  exact h1)
 unfold sayC at HTK
 have HF := Lib.hid (fun s lb x hs hl hx w h => (show Calls Tryz.prog 97 #[.pointer (some ⟨tb, 0, none⟩), .string lb, .string x] w fun e w' => e = .returned (.tuple #[]) ∧ TalkAt w' tb (say1 s lb x) ∧ Kept (fun q => q = tb) w w' from Say_any tb s lb x hs hl hx w h))
 have HS1 := Lib.hid say1_size
 have HT0 := Lib.hid (show sayCl s ([].map ClaimR.k) = s from rfl)
 generalize sayCl s = SC at *
 generalize say1 = S1 at *
 have HC := Lib.hid hC
 have HN := Lib.hid hn
 have HZ := Lib.hid hz
 have HSH := Lib.hid sh
 have HS := Lib.hid hS
 have HT := Lib.hid hT
 have HB0 := Lib.hid hb
 have HTB := Lib.hid htb
 have HLT := Lib.hid hT.lt
 clear hC hn hz sh hS hT hb htb
 go_enter Tryz.func39, Tryz.ntmps39
 go_wp2_with fail
 obtain ⟨w1, hq1, hb9, hz9, Hp⟩ := new1 w 64 [gv, .slice al n cl]
 rw [hq1]
 clear hq1
 have HB := Lib.hid hb9
 have HZS := hz9
 clear hb9 hz9
 have p_ := Hp.out.c2
 have HKP := Lib.hid ((Kept.refl (fun q => q = tb) w).up HB.out)
 have HT1 := Lib.hid (Bx.up HT.out HB.out)
 have HP0 := Lib.hid (show ¬ w.heap.size = tb by have := HLT.out; omega)
 go_wp2_with fail
 go_loopw [9] (fun i wr => ∃ (j : Nat) (y : ByteArray), j ≤ n ∧ i = .int .i64 (j : Int) ∧ Hid (y.size = 32) ∧ Hid (y = SC ((rs.take j).map ClaimR.k)) ∧ Hid (TalkAt wr tb y) ∧ Hid (Kept (fun q => q = tb) w wr)) (fun i _ => n - (intOf i).toNat)
 case atStart => exact ⟨0, s, Nat.zero_le _, rfl, HZ, HT0.out.symm, HT1, HKP⟩
 case round =>
  clear HT HT1 HKP HB Hp p_
  obtain ⟨j, y, hj, rfl, HY, HYS, HT, HK⟩ := hrel
  have HB := Lib.hid (Below.keptP HB0.out HK.out HB0.out.size (fun q hq => hq ▸ HTB.out))
  by_cases hjn : j < n
  ·have hjl : j < rs.length := by rw [HN.out]; exact hjn
   obtain ⟨bl, ol, rfl, hbl0, hc⟩ := (HS.out.s.up HB.out).elem ClaimR.cells_len (by omega) j hjl
   have hc_0 := hc 0 _ rfl
   rw [Nat.add_zero] at hc_0
   have hc_1 := hc 1 _ rfl
   have hc_2 := hc 2 _ rfl
   clear hc
   have hsr := HC.out _ (List.getElem_mem hjl)
   have hsh := HSH.out _ (List.getElem_mem hjl)
   unfold SayOk CapOk at hsh
   have HSJ := Lib.hid hsh
   have HTJ := Lib.hid (HTK.out j hjl)
   generalize rs[j] = r at *
   have hq0 := hsr.c 0 _ rfl
   have hq1 := hsr.c 1 _ rfl
   rw [Nat.add_zero] at hq0
   have HPL := Lib.hid hsr.l
   have HAB := Lib.hid hsr.k.b
   have HAJ := Lib.hid hsr.k.i
   have HQ0 := Lib.hid hq0
   have HQ1 := Lib.hid hq1
   clear hsr hsh hq0 hq1
   generalize r.k.bases = bs at *
   generalize r.k.images = ims at *
   generalize r.k.ab = ab at *
   generalize r.k.ai = ai at *
   generalize r.k.cb = cb at *
   generalize r.k.ci = ci at *
   generalize r.pb = pb at *
   generalize r.po = po at *
   rw [← HYS.out] at HTJ
   have HCB := Lib.hid (cat_small HSJ.out.1.1 HSJ.out.1.2.2.1)
   have HCI := Lib.hid (cat_small HSJ.out.1.2.1 HSJ.out.1.2.2.2)
   have HJ1 := Lib.hid (fun w h => sJoin_any bs (by have := HSJ.out.1.1; omega) (fun x hx => Nat.le_trans (HSJ.out.1.2.2.1 x hx) (by decide)) ab cb HSJ.out.2.1 w h)
   have HJ2 := Lib.hid (fun w h => sJoin_any ims (by have := HSJ.out.1.2.1; omega) (fun x hx => Nat.le_trans (HSJ.out.1.2.2.2 x hx) (by decide)) ai ci HSJ.out.2.2 w h)
   have HRL := Lib.hid HT.out.lt
   clear HYS HSJ
   have BL := Lib.hid (Below.refl wr.heap.size wr)
   obtain ⟨w2, hq2, hb9, hz9, Hbc⟩ := new1 wr 154 [.pointer (some ⟨pb, po, none⟩), .slice (some ⟨r.bb, r.bo, none⟩) bs.length r.bc, .slice (some ⟨r.ib, r.io, none⟩) ims.length r.ic]
   replace BL := hbu BL hb9
   replace HZS := sz HZS hz9.out
   clear hb9 hz9
   have bc_ := Hbc.out.c3
   have hd0 := ((below_up HB.out BL.out).cell (p := ⟨pb, po, none⟩) HPL.out).trans HQ0.out
   go_wp2_with fail
   clear hq2
   refine (HJ1.out _ (HAB.out.up (below_up HB.out BL.out))).mono ?_
   rintro e wz ⟨rfl, hb9⟩
   have HBZ := Lib.hid (below_up BL.out hb9)
   have HT9 := Lib.hid (Bx.up HT.out HBZ.out)
   have HK9 := Lib.hid (HK.out.up HBZ.out)
   have HBC := Lib.hid (Bx.up Hbc.out hb9)
   have HB9 := Lib.hid (below_up HB.out HBZ.out)
   clear hb9 BL HT HK HB HJ1 Hbc
   go_wp2_with fail
   refine (HF.out y basesB (catB bs) (by have := HY.out; omega) (by decide) HCB.out wz HT9.out).mono ?_
   rintro e wy ⟨rfl, ht, hk⟩
   have HT8 := Lib.hid ht
   have HK8 := Lib.hid (HK9.out.trans hk)
   have HB8 := Lib.hid (Below.keptP HB9.out hk HB9.out.size (fun q hq => hq ▸ HTB.out))
   have Hbc := Lib.hid (HBC.out.keptP hk (show ¬ wr.heap.size = tb by have := HRL.out; omega))
   have hcc := Hbc.out.cell (i := 0) rfl
   have hd1 := (HB8.out.cell (p := ⟨pb, po + 1, none⟩) HPL.out).trans HQ1.out
   clear ht hk HT9 HK9 HB9 HBC HBZ
   go_wp2_with fail
   refine (HJ2.out wy (HAJ.out.up HB8.out)).mono ?_
   rintro e wx ⟨rfl, hb9⟩
   have HT7 := Lib.hid (Bx.up HT8.out hb9)
   have HK7 := Lib.hid (HK8.out.up hb9)
   clear hb9 HT8 HK8 HB8 HJ2
   go_wp2_with fail
   refine (HF.out (S1 y basesB (catB bs)) imagesB (catB ims) (by rw [HS1.out]; decide) (by decide) HCI.out wx HT7.out).mono ?_
   rintro e wv ⟨rfl, ht, hk⟩
   have HT6 := Lib.hid ht
   have HK6 := Lib.hid (HK7.out.trans hk)
   clear ht hk HT7 HK7
   go_wp2_with fail
   exact ⟨⟨j + 1, _, by omega, by go_num, Lib.hid (HS1.out _ _ _), Lib.hid HTJ.out.symm, HT6, HK6⟩, by simp [intOf]; omega⟩
  ·have hj' : j = n := by omega
   subst hj'
   rw [List.take_of_length_le (by rw [HN.out]; exact Nat.le_refl _)] at HYS
   go_wp2_with fail
   go_end0
   exact ⟨rfl, by rw [← HYS.out]; exact HT.out, HK.out⟩
end Go.Proofs.YtdlnnkbigeiilaaGreat
namespace Go.Proofs.YtdlnnkbigeiilaaGreat
open Go.RowKit Go.Lib
def chT (s label : ByteArray) : ByteArray := tagS askedB [tagS askedB [s, label], label]
def chN (s label : ByteArray) : Nat := numOf (tagS askB [s, label] ++ tagS askB [tagS askedB [s, label], label])
theorem chT_size (s label : ByteArray) : (chT s label).size = 32 := tagS_size _ _
theorem ask2_size (a b : List ByteArray) : (tagS askB a ++ tagS askB b).size = 64 := by rw [ByteArray.size_append, tagS_size, tagS_size]
theorem gChallenge_any (G : GP) (ok : G.Ok) (gb tb : Nat) (s label : ByteArray) (hs : s.size < 140737488355328) (hl : label.size < 140737488355328) (w : World) (hG : GroupAt w gb G) (hT : TalkAt w tb s) (hne : ¬ gb = tb) :
  Calls Tryz.prog 42 #[.pointer (some ⟨gb, 0, none⟩), .pointer (some ⟨tb, 0, none⟩), .string label] w fun e w' => e = .returned (scV G (chN s label)) ∧ TalkAt w' tb (chT s label) ∧ Kept (fun q => q = tb) w w' := by
 obtain ⟨s1, hs1⟩ : ∃ x, tagS askedB [s, label] = x := ⟨_, rfl⟩
 have hz1 : s1.size < 140737488355328 := by rw [← hs1, tagS_size]; decide
 have HA1 := Lib.hid (fun w h => Ask_any tb s label hs hl w h)
 have HA2 := Lib.hid (fun w h => Ask_any tb s1 label hz1 hl w h)
 unfold chN chT
 rw [hs1] at HA1 ⊢
 obtain ⟨s2, hs2⟩ : ∃ x, tagS askedB [s1, label] = x := ⟨_, rfl⟩
 rw [hs2] at HA2 ⊢
 obtain ⟨A, hA⟩ : ∃ x, tagS askB [s, label] = x := ⟨_, rfl⟩
 obtain ⟨D, hD⟩ : ∃ x, tagS askB [s1, label] = x := ⟨_, rfl⟩
 have hsz : (A ++ D).size ≤ maxLen := by rw [← hA, ← hD, ask2_size]; decide
 have hcc : ¬ (9223372036854775807 < A.size + D.size) := by rw [← hA, ← hD, tagS_size, tagS_size]; decide
 rw [hA] at HA1 ⊢
 rw [hD] at HA2 ⊢
 have HR := Lib.hid (fun w h => gReduce_any G ok gb (A ++ D) hsz w h)
 unfold scV limbV at HR ⊢
 generalize mont G.q.m (numOf (A ++ D)) = n at HR ⊢
 have HG := Lib.hid hG
 have HT := Lib.hid hT
 have HNE := Lib.hid hne
 have HLT := Lib.hid hT.lt
 clear hG hT hne ok hs hl hz1 hs1 hs2 hA hD hsz
 go_enter Tryz.func42, Tryz.ntmps42
 go_wp2_with fail
 obtain ⟨w1, hq1, hb9, hz9, Ho⟩ := new1 w 72 [.int .u64 0, .int .u64 0, .int .u64 0, .int .u64 0]
 rw [hq1]
 clear hq1
 have HB := Lib.hid hb9
 have HZS := hz9
 clear hb9 hz9
 have o_ := Ho.out.c4
 go_wp2_with fail
 refine (HA1.out _ (HT.out.up HB.out)).mono ?_
 rintro e wz ⟨rfl, ht, hk⟩
 have HG1 := Lib.hid ((HG.out.up HB.out).keptP hk HNE.out)
 have Ht := Lib.hid ht
 have HK := Lib.hid (((Kept.refl (fun q => q = tb) w).up HB.out).trans hk)
 have Ho1 := Lib.hid (Ho.out.keptP hk (show ¬ w.heap.size = tb by have := HLT.out; omega))
 clear HB HT HG Ho o_ ht hk HA1
 have Ho := Ho1
 clear Ho1
 go_wp2_with fail
 refine (HA2.out _ Ht.out).mono ?_
 rintro e wy ⟨rfl, ht, hk⟩
 have HG2 := Lib.hid (HG1.out.keptP hk HNE.out)
 have HK2 := Lib.hid (HK.out.trans hk)
 have Ho2 := Lib.hid (Ho.out.keptP hk (show ¬ w.heap.size = tb by have := HLT.out; omega))
 have HT2 := Lib.hid ht
 clear HG1 HK Ho Ht ht hk HA2
 go_wp2_with fail
 refine (HR.out _ HG2.out).mono ?_
 rintro e wx ⟨rfl, hb9⟩
 have Ht := Lib.hid (HT2.out.up hb9)
 have HK := Lib.hid (HK2.out.up hb9)
 have Ho := Lib.hid (Ho2.out.up hb9)
 have HZS : Hid (w.heap.size < wx.heap.size) := HK.out.size |> fun _ => Ho.out.lt
 clear HG2 HK2 Ho2 HT2 hb9 HR HNE
 have o_ := Ho.out.c4
 replace HZS := sz HZS HLT.out
 have f2_o := Ho.out.frozen
 have o2_o_ := o_; clear o_
 obtain ⟨w2, hq2, hg9, hz9, hx9⟩ := put4 Ho 0 (.int .u64 (dig n 0 : Int)) 1 (.int .u64 (dig n 1 : Int)) 2 (.int .u64 (dig n 2 : Int)) 3 (.int .u64 (dig n 3 : Int)) [.int .u64 (dig n 0 : Int), .int .u64 (dig n 1 : Int), .int .u64 (dig n 2 : Int), .int .u64 (dig n 3 : Int)] rfl
 replace Ht := Lib.hid (Ht.out.grown hg9.out (sne (by have g0 := HZS.out; omega)))
 replace HK := Lib.hid (Kept.grown HK.out hg9.out (fun q9 e9 => by obtain rfl := Option.some.inj e9; exact Or.inl (show w.heap.size ≤ w.heap.size by have g0 := HZS.out; omega)))
 replace HZS := sz HZS hz9.out
 replace Ho := hx9
 clear hx9 hg9 hz9
 have o_ := Ho.out.c4
 go_wp2_with fail
 clear hq2 o2_o_ f2_o
 simp [bodyPost, results, Tryz.results42, go_sem, o_]
 exact ⟨Ht.out, HK.out⟩
end Go.Proofs.YtdlnnkbigeiilaaGreat
namespace Go.Proofs.YtdlnnkbigeiilaaGreat
open Go.RowKit
theorem kept_grown {b : Nat} {W w : World} (h : Kept (fun q => q = b) W w) : W.grownBy w (some b) :=
 ⟨h.os, h.tape, h.output, h.size, fun q hq hne => h.block q hq (fun e => hne (by rw [e]))⟩
theorem grp_kind (k : Nat) (h1 : 1 ≤ k) (h3 : k ≤ 3) : (grp k).kind = k := by
 obtain rfl | rfl | rfl : k = 1 ∨ k = 2 ∨ k = 3 := by omega
 all_goals rfl
theorem eachA_small {G : GP} {val : Nat → Nat → Nat} {ms : List Nat} {n : Nat} (hs : G.size ≤ 32) (h8 : ∀ i, ms.getD i 0 ≤ 8) {ro : List RowA} (hm : ro.map RowA.l = eachA G val ms n) : ∀ r ∈ ro, r.l.length ≤ 8 ∧ ∀ x ∈ r.l, x.size ≤ 32 := by
 intro r hr
 have h1 : r.l ∈ ro.map RowA.l := List.mem_map.2 ⟨r, hr, rfl⟩
 rw [hm] at h1
 unfold eachA at h1
 obtain ⟨i, _, hi⟩ := List.mem_map.1 h1
 rw [← hi]
 refine ⟨by rw [eachL_len]; exact h8 i, fun x hx => ?_⟩
 unfold eachL at hx
 obtain ⟨t, _, rfl⟩ := List.mem_map.1 hx
 rw [textS_size]
 exact hs
theorem lens_small {l : List ClaimA} (h : ∀ c ∈ l, c.bases.length ≤ 8) (i : Nat) : (lens l).getD i 0 ≤ 8 := by
 unfold lens
 by_cases hi : i < l.length
 ·rw [List.getD_eq_getElem?_getD, List.getElem?_map, List.getElem?_eq_getElem hi]
  exact h _ (List.getElem_mem hi)
 ·rw [List.getD_eq_getElem?_getD, List.getElem?_map, List.getElem?_eq_none (by omega)]
  exact Nat.zero_le _
def verT (k : Int) (label : ByteArray) (l : List ClaimA) (rows : List (List ByteArray)) : ByteArray := sayFi (sayCl (beginT claimsB label k) l) rows
def verR (k : Int) (l : List ClaimA) (ch : ByteArray) (xs : List ByteArray) : List (List ByteArray) := eachA (grp k.toNat) (valB (grp k.toNat) ((grp k.toNat).q.m - numOf ch) l xs) (lens l) l.length
def verK (k : Int) (label : ByteArray) (l : List ClaimA) (ch : ByteArray) (xs : List ByteArray) : Bool :=
 decide (openK k l xs = 0) && (isSc (grp k.toNat).q.m (grp k.toNat).size ch && decide (mont (grp k.toNat).q.m (chN (verT k label l (verR k l ch xs)) challengeB) = mont (grp k.toNat).q.m (numOf ch)))
theorem sVerify_any (k : Int) (label : ByteArray) (hlb : label.size < 140737488355328) (l : List ClaimA) (al : Option Addr) (cl : Nat) (ch : ByteArray) (xs : List ByteArray) (ax : Option Addr) (cx : Nat) (hn : xs.length ≤ 8796093022207) (hcap : ∀ c ∈ l, CapOk c) (w : World) (hC : ClaimsAt w al l) (hS : Sl w w.heap.size ax (xs.map Value.string)) :
  Calls Tryz.prog 10 #[.int .i64 k, .string label, .slice al l.length cl, .agg #[.string ch, .slice ax xs.length cx]] w fun e w' => e = .returned (.bool (verK k label l ch xs)) ∧ Below w.heap.size w w' := by
 have HCAP := Lib.hid hcap
 have HO := Lib.hid (fun w1 (hb : Below w.heap.size w w1) => open_any k l al cl xs ax cx hn w1 (hC.up hb) (hS.up hb))
 obtain ⟨V, hV⟩ : ∃ b, verK k label l ch xs = b := ⟨_, rfl⟩
 rw [hV]
 obtain ⟨z, hz⟩ : ∃ z, openK k l xs = z := ⟨_, rfl⟩
 obtain ⟨bc, hbc⟩ : ∃ b, isSc (grp k.toNat).q.m (grp k.toNat).size ch = b := ⟨_, rfl⟩
 have HV := Lib.hid (show V = (decide (z = 0) && (bc && decide (mont (grp k.toNat).q.m (chN (verT k label l (verR k l ch xs)) challengeB) = mont (grp k.toNat).q.m (numOf ch)))) by rw [← hV]; unfold verK; rw [hz, hbc])
 rw [hz] at HO
 have HBC := Lib.hid hbc
 clear hC hS hbc hV hcap
 by_cases h0 : z = 0
 ·subst h0
  unfold verT at HV
  have HF1 := Lib.hid (fun (h : 1 ≤ k ∧ k ≤ 3) gb w hG => sbegin_any (grp k.toNat) gb claimsB label (by decide) hlb (by rw [grp_kind k.toNat (by omega) (by omega)]; omega) w hG)
  have HF2 := Lib.hid (fun gv tb s rs hz' h64 sh al cl w0 w hb htb hT hS hC => say_any (grp k.toNat) gv tb s rs rs.length rfl h64 hz' sh al cl w0 w hb htb hT hS hC)
  have HF3 := Lib.hid (fun tb s ro hz' h64 sh hok al cl w hT hC ha hr => said_any tb s ro ro.length rfl h64 hz' sh hok al cl w hT hC ha hr)
  have HF4 := Lib.hid (fun ok gb tb s hs w hG hT hne => gChallenge_any (grp k.toNat) ok gb tb s challengeB hs (by decide) w hG hT hne)
  have HZ1 := Lib.hid (show ∀ k, (beginT claimsB label k).size = 32 from fun k => say1_size _ _ _)
  have HZ2 := Lib.hid sayCl_size
  have HZ3 := Lib.hid sayFi_size
  generalize beginT claimsB label = BT at HF1 HZ1 HV
  generalize sayCl = SC at HF2 HZ2 HV
  generalize sayFi = SF at HF3 HZ3 HV
  generalize chN = CN at HF4 HV
  generalize chT = CT at HF4
  go_enter Tryz.func10, Tryz.ntmps10
  go_wp2_with fail
  obtain ⟨w1, hq1, hb9, hz9, Hbp⟩ := new1 w 25 [.string ch, .slice ax xs.length cx]
  rw [hq1]
  clear hq1
  have HB := Lib.hid hb9
  have HZS := hz9
  clear hb9 hz9
  have bp_ := Hbp.out.c2
  go_wp2_with fail
  refine (HO.out _ HB.out).mono ?_
  rintro e w2 ⟨hb9, pp, qa, qn, qc, v, rfl, hok⟩
  clear bp_
  replace Hbp := Lib.hid (Hbp.out.up hb9)
  replace HB := hbu HB hb9
  replace HZS := sz HZS hb9.size
  have HOK := Lib.hid hok
  clear hok hb9
  have bp_ := Hbp.out.c2
  obtain ⟨gb, rs, a, c, a', c', e1, e2, rfl, hrk, hg9, hs9, hp9, hx9⟩ := HOK.out rfl
  obtain rfl := Value.pointer.inj e1
  obtain ⟨rfl, rfl, rfl⟩ := Value.slice.inj e2
  obtain ⟨hk9, hsh, hel, hxl, hxa⟩ := openK_ok hz
  have HRK := Lib.hid hrk
  have HRL := Lib.hid (show rs.length = l.length by rw [← hrk, List.length_map])
  have HG := Lib.hid hg9
  have HST := Lib.hid hs9
  have HXX := Lib.hid hx9
  have HSP := Lib.hid hp9
  have HXL := Lib.hid hxl
  have HK9 := Lib.hid hk9
  have hl64 := (shape_ok hsh).2.1
  have HSHP := Lib.hid (show ∀ r ∈ rs, r.k.bases.length ≤ 8 ∧ r.k.images.length = r.k.bases.length from fun r hr => by
   have h9 := (shape_ok hsh).2.2 r.k (by rw [← hrk]; exact List.mem_map.2 ⟨r, hr, rfl⟩)
   exact ⟨h9.2.1, h9.2.2⟩)
  have OK := Lib.hid (grp_ok k.toNat (by omega) (by omega))
  have HSY := Lib.hid (show ∀ r ∈ rs, SayOk r.k ∧ CapOk r.k from fun r hr => by
   have hm : r.k ∈ l := by rw [← hrk]; exact List.mem_map.2 ⟨r, hr, rfl⟩
   have h9 := (shape_ok hsh).2.2 r.k hm
   have h8 := List.all_eq_true.1 hel r.k hm
   unfold cElems at h8
   rw [Bool.and_eq_true] at h8
   have hs := OK.out.size_le
   have hsm : ∀ s, isEl (grp k.toNat).q.m (grp k.toNat).size s = true → s.size ≤ 32 := fun s h => by
    unfold isEl at h
    simp only [Bool.and_eq_true, decide_eq_true_eq] at h
    omega
   exact ⟨⟨h9.2.1, by omega, fun x hx => hsm x (List.all_eq_true.1 h8.1 x hx), fun x hx => hsm x (List.all_eq_true.1 h8.2 x hx)⟩, HCAP.out _ hm⟩)
  rw [show xs.length = rs.length by rw [HXL.out, HRL.out]]
  clear hrk hg9 hs9 hp9 hx9 hsh hel hxl hxa hk9 HOK
  have BS := Lib.hid (Below.refl w2.heap.size w2)
  have o3_bp_ := bp_; clear bp_
  obtain ⟨w3, hq3, hb9, hz9, Hbs⟩ := new1 w2 64 [.pointer (some ⟨gb, 0, none⟩), .slice qa rs.length qc]
  replace Hbp := Lib.hid (Hbp.out.up hb9)
  replace BS := hbu BS hb9
  replace HB := hbu HB hb9
  replace HZS := sz HZS hz9.out
  clear hb9 hz9
  have bp_ := Hbp.out.c2
  have bs_ := Hbs.out.c2
  go_wp2_with fail
  clear hq3 o3_bp_
  refine (gScalar_m (grp k.toNat) OK.out gb ch bc HBC.out w3 (HG.out.up BS.out)).mono ?_
  rintro e w4 ⟨x, rfl, hb9, hx9⟩
  clear bp_
  replace Hbp := Lib.hid (Hbp.out.up hb9)
  clear bs_
  replace Hbs := Lib.hid (Hbs.out.up hb9)
  replace BS := hbu BS hb9
  replace HB := hbu HB hb9
  replace HZS := sz HZS hb9.size
  have HX := Lib.hid hx9
  clear hx9 hb9
  have bp_ := Hbp.out.c2
  have bs_ := Hbs.out.c2
  unfold limbV
  have o5_bp_ := bp_; clear bp_
  have o5_bs_ := bs_; clear bs_
  obtain ⟨w5, hq5, hb9, hz9, Hbx⟩ := new1 w4 72 [.int .u64 (dig (x) 0 : Int), .int .u64 (dig (x) 1 : Int), .int .u64 (dig (x) 2 : Int), .int .u64 (dig (x) 3 : Int)]
  replace Hbp := Lib.hid (Hbp.out.up hb9)
  replace Hbs := Lib.hid (Hbs.out.up hb9)
  replace BS := hbu BS hb9
  replace HB := hbu HB hb9
  replace HZS := sz HZS hz9.out
  clear hb9 hz9
  have bp_ := Hbp.out.c2
  have bs_ := Hbs.out.c2
  have bx_ := Hbx.out.c4
  cases bc
  ·obtain rfl : V = false := HV.out
   go_wp2_with fail
   clear hq5 o5_bs_ o5_bp_
   go_ret
   exact ⟨rfl, HB.out⟩
  ·obtain rfl : x = mont (grp k.toNat).q.m (numOf ch) := HX.out rfl
   go_wp2_with fail
   clear hq5 o5_bs_ o5_bp_
   have HST5 := Lib.hid (HST.out.up BS.out)
   have HSP5 := Lib.hid (fun r hr => (HSP.out r hr).up BS.out)
   have HGL := Lib.hid (Nat.lt_of_lt_of_le HG.out.lt BS.out.size)
   have HZW := Lib.hid HB.out.size
   have HZB := Lib.hid BS.out.size
   have HKK := Lib.hid (show ((grp k.toNat).kind : Int) = k by rw [grp_kind k.toNat (by have := HK9.out; omega) (by have := HK9.out; omega)]; have := HK9.out; omega)
   have BQ := Lib.hid (Below.refl w5.heap.size w5)
   refine (HF1.out HK9.out gb w5 (HG.out.up BS.out)).mono ?_
   rintro e wa ⟨tb, rfl, hge, ht, hb9⟩
   rw [HKK.out] at ht
   have HGE := Lib.hid (show w5.heap.size ≤ tb from hge)
   have Ht := Lib.hid (show Bx wa tb 192 [.string (BT k)] from ht)
   clear hge ht bp_
   replace Hbp := Lib.hid (Hbp.out.up hb9)
   clear bs_
   replace Hbs := Lib.hid (Hbs.out.up hb9)
   clear bx_
   replace Hbx := Lib.hid (Hbx.out.up hb9)
   replace BS := hbu BS hb9
   replace BQ := hbu BQ hb9
   replace HB := hbu HB hb9
   replace HZS := sz HZS hb9.size
   clear hb9
   have bp_ := Hbp.out.c2
   have bs_ := Hbs.out.c2
   have bx_ := Hbx.out.c4
   replace HZS := sz HZS HGE.out
   replace HZS := sz HZS HZW.out
   replace HZS := sz HZS HZB.out
   have t_ := Ht.out.c1
   go_wp2_with fail
   refine (HF2.out _ tb (BT k) rs (HZ1.out k) (by rw [HRL.out]; exact hl64) HSY.out qa qc w5 wa BQ.out HGE.out Ht.out HST5.out HSP5.out).mono ?_
   rintro e wb ⟨rfl, ht, hk⟩
   have HK1 := Lib.hid hk
   have Ht1 := Lib.hid (show Bx wb tb 192 [.string (SC (BT k) (rs.map ClaimR.k))] from ht)
   clear ht hk
   have hg9 := HK1.out
   clear bp_ bs_ bx_ t_ Ht
   replace Hbp := Lib.hid (Hbp.out.keptP hg9 (show ¬ (_ = tb) by have g0 := HZS.out; omega))
   replace Hbs := Lib.hid (Hbs.out.keptP hg9 (show ¬ (_ = tb) by have g0 := HZS.out; omega))
   replace Hbx := Lib.hid (Hbx.out.keptP hg9 (show ¬ (_ = tb) by have g0 := HZS.out; omega))
   replace BS := Lib.hid (Below.keptP BS.out hg9 (by have g0 := HZS.out; omega) (fun q9 h9 => (show w2.heap.size ≤ _ by subst h9; have g0 := HZS.out; omega)))
   replace BQ := Lib.hid (Below.keptP BQ.out hg9 (by have g0 := HZS.out; omega) (fun q9 h9 => (show w5.heap.size ≤ _ by subst h9; have g0 := HZS.out; omega)))
   replace HB := Lib.hid (Below.keptP HB.out hg9 (by have g0 := HZS.out; omega) (fun q9 h9 => (show w.heap.size ≤ _ by subst h9; have g0 := HZS.out; omega)))
   replace HZS := sz HZS (show wa.heap.size ≤ wb.heap.size from hg9.size)
   clear hg9
   have bp_ := Hbp.out.c2
   have bs_ := Hbs.out.c2
   have bx_ := Hbx.out.c4
   have Ht := Ht1
   clear Ht1
   have t_ := Ht.out.c1
   have HTL := Lib.hid Ht.out.lt
   replace HZS := sz HZS HTL.out
   go_wp2_with fail
   refine (back_any (grp k.toNat) OK.out gb (numOf ch) (isSc_le HBC.out) rs rs.length rfl (by rw [HRL.out]; exact hl64) HSHP.out qa qc xs (by rw [HXL.out, HRL.out]) a' c' wb (HG.out.up BS.out) (HST.out.up BS.out) (HXX.out.up BS.out)).mono ?_
   rintro e w6 ⟨hb9, a9, c9, ro, rfl, hm9, hr9, hz9⟩
   clear bp_
   replace Hbp := Lib.hid (Hbp.out.up hb9)
   clear bs_
   replace Hbs := Lib.hid (Hbs.out.up hb9)
   clear bx_
   replace Hbx := Lib.hid (Hbx.out.up hb9)
   clear t_
   replace Ht := Lib.hid (Ht.out.up hb9)
   replace BS := hbu BS hb9
   replace BQ := hbu BQ hb9
   replace HK1 := Lib.hid (Kept.up HK1.out hb9)
   replace HB := hbu HB hb9
   replace HZS := sz HZS hb9.size
   have HMR := Lib.hid hm9
   clear hm9
   have HRR := Lib.hid hr9
   clear hr9
   have HZR := Lib.hid hz9
   clear hz9 hb9
   have bp_ := Hbp.out.c2
   have bs_ := Hbs.out.c2
   have bx_ := Hbx.out.c4
   have t_ := Ht.out.c1
   have HRO := Lib.hid (show ro.length = rs.length by have h9 := congrArg List.length HMR.out; rw [List.length_map, eachA_len] at h9; exact h9)
   rw [← HMR.out, List.length_map]
   go_wp2_with fail
   refine (HF3.out tb (SC (BT k) (rs.map ClaimR.k)) ro (HZ2.out _ _ (HZ1.out k)) (by rw [HRO.out, HRL.out]; exact hl64) (eachA_small OK.out.size_le (lens_small fun c hc => by obtain ⟨r, hr, rfl⟩ := List.mem_map.1 hc; exact (HSHP.out r hr).1) HMR.out) (fun r hr => (HZR.out.1 r hr).2) a9 c9 w6 Ht.out HRR.out (fun x hx e => by have h1 := HZR.out.2.1 x hx; have h2 := HTL.out; omega) (fun r hr x hx e => by have h1 := HZR.out.2.2 r hr x hx; have h2 := HTL.out; omega)).mono ?_
   rintro e wc ⟨rfl, ht, hk⟩
   have HK2 := Lib.hid hk
   have Ht1 := Lib.hid (show Bx wc tb 192 [.string (SF (SC (BT k) (rs.map ClaimR.k)) (ro.map RowA.l))] from ht)
   clear ht hk
   have hg9 := HK2.out
   clear bp_ bs_ bx_ t_ Ht
   replace Hbp := Lib.hid (Hbp.out.keptP hg9 (show ¬ (_ = tb) by have g0 := HZS.out; omega))
   replace Hbs := Lib.hid (Hbs.out.keptP hg9 (show ¬ (_ = tb) by have g0 := HZS.out; omega))
   replace Hbx := Lib.hid (Hbx.out.keptP hg9 (show ¬ (_ = tb) by have g0 := HZS.out; omega))
   replace BS := Lib.hid (Below.keptP BS.out hg9 (by have g0 := HZS.out; omega) (fun q9 h9 => (show w2.heap.size ≤ _ by subst h9; have g0 := HZS.out; omega)))
   replace BQ := Lib.hid (Below.keptP BQ.out hg9 (by have g0 := HZS.out; omega) (fun q9 h9 => (show w5.heap.size ≤ _ by subst h9; have g0 := HZS.out; omega)))
   replace HB := Lib.hid (Below.keptP HB.out hg9 (by have g0 := HZS.out; omega) (fun q9 h9 => (show w.heap.size ≤ _ by subst h9; have g0 := HZS.out; omega)))
   replace HZS := sz HZS (show w6.heap.size ≤ wc.heap.size from hg9.size)
   clear hg9
   have bp_ := Hbp.out.c2
   have bs_ := Hbs.out.c2
   have bx_ := Hbx.out.c4
   have Ht := Ht1
   clear Ht1
   have t_ := Ht.out.c1
   have HTS := Lib.hid (HZ3.out (ro.map RowA.l) _ (HZ2.out (rs.map ClaimR.k) _ (HZ1.out k)))
   have HVV := HV.out
   rw [show verR k l ch xs = ro.map RowA.l by rw [HMR.out, HRK.out, HRL.out]; rfl, ← HRK.out] at HVV
   generalize SF (SC (BT k) (rs.map ClaimR.k)) (ro.map RowA.l) = TT at *
   obtain ⟨be, hbe⟩ : ∃ b, decide (mont (grp k.toNat).q.m (CN TT challengeB) = mont (grp k.toNat).q.m (numOf ch)) = b := ⟨_, rfl⟩
   rw [hbe] at HVV
   have HEQ := Lib.hid fun W => binScal (w := W) (eqScal (mont (grp k.toNat).q.m (CN TT challengeB)) (mont (grp k.toNat).q.m (numOf ch)) (OK.out.q.mont _) (OK.out.q.mont _) W be hbe.symm)
   obtain rfl : V = be := by rw [HVV]; simp
   clear HVV hbe
   have HG9 := Lib.hid (HG.out.up BS.out)
   go_wp2_with fail
   have HT := Lib.hid (show Below wc.heap.size wc wc.drew from (Below.refl _ _).drew)
   have hl_bp := Hbp.out.lt
   have hl_bs := Hbs.out.lt
   have hl_bx := Hbx.out.lt
   refine wp_region_tree (fun wq9 => ∃ E : But wc (some (tb)), wq9 = E.w) ((.qs [0, 1, 2, 4] (.a 3 (.qs [5, 6] .done)))) (by kernel_rfl) (by kernel_rfl) (fun _ _ d _ _ h => by cases d <;> exact h) ⟨⟨_, ((below_grown HT.out).but _)⟩, rfl⟩ ?_
   have hov_bp := fun (E : But wc (some (tb))) o => E.cell (b := w.heap.size) o hl_bp (by intro e9; have a0 := Option.some.inj e9; have g0 := HZS.out; omega)
   have hov_bs := fun (E : But wc (some (tb))) o => E.cell (b := w2.heap.size) o hl_bs (by intro e9; have a0 := Option.some.inj e9; have g0 := HZS.out; omega)
   have hov_bx := fun (E : But wc (some (tb))) o => E.cell (b := w4.heap.size) o hl_bx (by intro e9; have a0 := Option.some.inj e9; have g0 := HZS.out; omega)
   simp only [Tree.qs]
   repeat (refine tree_q rfl rfl ?_; go_big_quiet_step (fail); refine wpQuiet_nil ?_)
   refine tree_a rfl (fun K hK => ?_)
   go_simp
   refine (HF4.out OK.out gb tb TT (by have := HTS.out; omega) _ (HG9.out.up HT.out) (Bx.up Ht.out HT.out) (show ¬ gb = tb by have h1 := HGL.out; have h2 := HGE.out; omega)).mono ?_
   rintro e wz ⟨rfl, ht, hk⟩
   have HBZ := Lib.hid (Below.keptP (below_up HB.out HT.out) hk (below_up HB.out HT.out).size (fun q hq => hq ▸ (show w.heap.size ≤ tb by have h1 := HZW.out; have h2 := HGE.out; omega)))
   refine hK _ _ ⟨⟨⟨wz, ((below_grown HT.out).but _).trans (kept_grown hk)⟩, rfl⟩, ?_⟩
   clear hK K ht hk
   refine tree_q rfl rfl ?_
   unfold scV limbV
   refine wpQuiet_bin rfl .eql _ _ 72 _ rfl _ _ (.bool V) rfl rfl (fun _ => guardScal _ _ _ _ _ _) (fun _ => HEQ.out _) ?_
   simp only [Act.put, List.setIfInBounds_toArray, List.set_cons_succ, List.set_cons_zero]
   refine wpQuiet_nil ?_
   refine tree_q rfl rfl ?_
   go_big_quiet_step (fail)
   refine wpQuiet_nil ?_
   refine tree_end ?_
   go_wp2_with fail
   go_ret
   exact ⟨rfl, HBZ.out⟩
 ·obtain rfl : V = false := by rw [HV.out, decide_eq_false h0]; rfl
  have hd : ((z : Int) != 0) = true := by simp; omega
  clear h0 hz
  go_enter Tryz.func10, Tryz.ntmps10
  go_wp2_with fail
  obtain ⟨w1, hq1, hb9, hz9, Hbp⟩ := new1 w 25 [.string ch, .slice ax xs.length cx]
  rw [hq1]
  clear hq1
  have HB := Lib.hid hb9
  have HZS := hz9
  clear hb9 hz9
  have bp_ := Hbp.out.c2
  go_wp2_with fail
  refine (HO.out _ HB.out).mono ?_
  rintro e w2 ⟨hb9, pp, qa, qn, qc, v, rfl, _⟩
  clear bp_
  replace Hbp := Lib.hid (Hbp.out.up hb9)
  replace HB := hbu HB hb9
  replace HZS := sz HZS hb9.size
  clear hb9
  have bp_ := Hbp.out.c2
  have o3_bp_ := bp_; clear bp_
  obtain ⟨w3, hq3, hb9, hz9, Hbs⟩ := new1 w2 64 [.pointer pp, .slice qa qn qc]
  replace Hbp := Lib.hid (Hbp.out.up hb9)
  replace HB := hbu HB hb9
  replace HZS := sz HZS hz9.out
  clear hb9 hz9
  have bp_ := Hbp.out.c2
  have bs_ := Hbs.out.c2
  go_wp2_with fail
  clear hq3 o3_bp_
  go_ret
  exact ⟨rfl, HB.out⟩
end Go.Proofs.YtdlnnkbigeiilaaGreat
namespace Go.Proofs.YtdlnnkbigeiilaaGreat
open Go.RowKit
def askT (s : ByteArray) : Nat → ByteArray
 | 0 => s
 | j + 1 => chT (askT s j) nonceB
theorem askT_size {s : ByteArray} (h : s.size = 32) : ∀ j, (askT s j).size = 32
 | 0 => h
 | _ + 1 => chT_size _ _
def nonceS (G : GP) (s : ByteArray) (j : Nat) : ByteArray := textS (chN (askT s j) nonceB % G.q.m) G.size
def nonceL (G : GP) (s : ByteArray) (n : Nat) : List ByteArray := (List.range n).map (nonceS G s)
theorem nonceL_len (G : GP) (s : ByteArray) (n : Nat) : (nonceL G s n).length = n := by simp [nonceL]
theorem nonceL_succ (G : GP) (s : ByteArray) (n : Nat) : nonceL G s (n + 1) = nonceL G s n ++ [nonceS G s n] := by simp [nonceL, List.range_succ]
theorem numOf_mod {G : GP} (ok : G.Ok) (N : Nat) : numOf (textS (N % G.q.m) G.size) = N % G.q.m := by
 rw [numOf_textS, Nat.mod_eq_of_lt (Nat.lt_of_lt_of_le (Nat.mod_lt _ ok.q.pos) ok.fits)]
theorem limC_text {G : GP} (ok : G.Ok) (N : Nat) : limC G.q.m (textS (N % G.q.m) G.size) = [.int .u64 (dig (mont G.q.m N) 0 : Int), .int .u64 (dig (mont G.q.m N) 1 : Int), .int .u64 (dig (mont G.q.m N) 2 : Int), .int .u64 (dig (mont G.q.m N) 3 : Int)] := by
 unfold limC
 rw [numOf_mod ok, mont_mod]
def ansF (G : GP) (N : Nat) (w x : ByteArray) : ByteArray := textS ((numOf w + N * numOf x) % G.q.m) G.size
def ansL (G : GP) (N : Nat) (ws xs : List ByteArray) : List ByteArray := List.zipWith (ansF G N) ws xs
end Go.Proofs.YtdlnnkbigeiilaaGreat
namespace Go.Proofs.YtdlnnkbigeiilaaGreat
open Go.RowKit
theorem RowO.room {N n m c size : Nat} {a : Option Addr} {w : World} {e : TypeId} {xs : List Value} (h : RowO N w e size (.slice a m c) n xs) : m ≤ c := by
 rcases h.2 with ⟨h1, _⟩ | ⟨g, cap, cur, hv, _, _, h1, _⟩
 ·cases h1; exact Nat.le_refl _
 ·cases hv; exact h1
theorem RowO.none0 {N n m c size : Nat} {a : Option Addr} {w : World} {e : TypeId} {xs : List Value} (h : RowO N w e size (.slice a m c) n xs) : a = none → c = 0 := by
 intro e
 rcases h.2 with ⟨h1, _⟩ | ⟨g, cap, cur, hv, _⟩
 ·cases h1; rfl
 ·cases hv; cases e
theorem kept_gw {b : Nat} {W w : World} (h : Kept (fun q => q = b) W w) : W.grownBy w (some b) :=
 ⟨h.os, h.tape, h.output, h.size, fun q hq hne => h.block q hq (fun e => hne (by rw [e]))⟩
theorem seeded_any (tb : Nat) (s seed : ByteArray) (hs : s.size = 32) (hd : seed.size < 140737488355328) (w : World) (hT : TalkAt w tb s) :
  Calls Tryz.prog 66 #[.pointer (some ⟨tb, 0, none⟩), .string seed] w fun e w' => ∃ fb, e = .returned (.pointer (some ⟨fb, 0, none⟩)) ∧ w.heap.size ≤ fb ∧ TalkAt w' fb (say1 s seedB seed) ∧ Below w.heap.size w w' := by
 have H1 := Lib.hid (fun w h => Fork_any tb s w h)
 have H2 := Lib.hid (fun fb w h => Say_any fb s seedB seed (by omega) (by decide) hd w h)
 unfold say1
 generalize tagS sayB [s, seedB, seed] = t at *
 have HT := Lib.hid hT
 clear hT hs hd
 go_enter Tryz.func66, Tryz.ntmps66
 go_wp2_with fail
 refine (H1.out w HT.out).mono ?_
 rintro e wa ⟨fb, rfl, hge, ht, hb⟩
 have HGE := Lib.hid hge
 have HT1 := Lib.hid ht
 have HB := Lib.hid hb
 clear hge ht hb
 go_wp2_with fail
 refine (H2.out fb wa HT1.out).mono ?_
 rintro e wb ⟨rfl, ht, hk⟩
 have HB2 := Lib.hid (Below.keptP HB.out hk HB.out.size (fun q hq => hq ▸ HGE.out))
 have HT2 := Lib.hid ht
 clear ht hk
 go_wp2_with fail
 go_ret
 exact ⟨fb, rfl, HGE.out, HT2.out, HB2.out⟩
theorem asked_any (G : GP) (ok : G.Ok) (gb tb : Nat) (a : Option Addr) (n c : Nat) (hn : n ≤ 64) (s : ByteArray) (hs : s.size = 32) (w : World) (hG : GroupAt w gb G) (hT : TalkAt w tb s) (hne : ¬ gb = tb) :
  Calls Tryz.prog 65 #[.agg #[.pointer (some ⟨gb, 0, none⟩), .slice a n c], .pointer (some ⟨tb, 0, none⟩)] w fun e w' => ∃ a' c', e = .returned (.slice a' n c') ∧ Sl w' w'.heap.size a' ((nonceL G s n).flatMap (limC G.q.m)) ∧ (∀ x, a' = some x → w.heap.size ≤ x.block) ∧ TalkAt w' tb (askT s n) ∧ Kept (fun q => q = tb) w w' := by
 have HCH := Lib.hid (fun t (ht : t.size = 32) w h1 h2 => gChallenge_any G ok gb tb t nonceB (by omega) (by decide) w h1 h2 hne)
 have HSC := Lib.hid (fun j => limC_text ok (chN (askT s j) nonceB))
 have HSU := Lib.hid (show ∀ j, (nonceL G s (j + 1)).flatMap (limC G.q.m) = (nonceL G s j).flatMap (limC G.q.m) ++ limC G.q.m (nonceS G s j) from fun j => by rw [nonceL_succ, List.flatMap_append]; simp)
 unfold nonceS at HSU
 have HAZ := Lib.hid (fun j => askT_size hs j)
 have HAS := Lib.hid (show ∀ j, askT s (j + 1) = chT (askT s j) nonceB from fun _ => rfl)
 have H0 := Lib.hid (show askT s 0 = s ∧ (nonceL G s 0).flatMap (limC G.q.m) = [] from ⟨rfl, rfl⟩)
 generalize askT s = AT at *
 generalize nonceL G s = NL at *
 generalize chN = CN at *
 generalize chT = CT at *
 have HG := Lib.hid hG
 have HGL := Lib.hid hG.lt
 have HTL := Lib.hid hT.lt
 have HT := Lib.hid (show TalkAt w tb (AT 0) from H0.out.1 ▸ hT)
 clear hG hT hs
 go_enter Tryz.func65, Tryz.ntmps65
 go_wp2_with fail
 obtain ⟨w1, hq1, hb9, hz9, Hbs⟩ := new1 w 64 [.pointer (some ⟨gb, 0, none⟩), .slice a n c]
 rw [hq1]
 clear hq1
 have HB := Lib.hid hb9
 have HZS := hz9
 clear hb9 hz9
 have bs_ := Hbs.out.c2
 have HK1 := Lib.hid ((Kept.refl (fun q => q = tb) w).up HB.out)
 have HT1 := Lib.hid (Bx.up HT.out HB.out)
 have HBS := Lib.hid Hbs.out.lt
 go_wp2_with fail
 go_loopw [9, 5] (fun i v wr => ∃ (j : Nat) (g : Option Addr) (c9 : Nat), j ≤ n ∧ i = .int .i64 (j : Int) ∧ v = .slice g j c9 ∧ Hid (TalkAt wr tb (AT j)) ∧ Hid (Bx wr w.heap.size 64 [.pointer (some ⟨gb, 0, none⟩), .slice a n c]) ∧ Hid (Kept (fun q => q = tb) w wr) ∧ Hid (RowO w1.heap.size wr 72 4 (.slice g j c9) j ((NL j).flatMap (limC G.q.m)))) (fun i _ _ => n - (intOf i).toNat)
 case atStart => exact ⟨0, none, 0, Nat.zero_le _, rfl, rfl, HT1, Hbs, HK1, by rw [H0.out.2]; exact RowO.nil⟩
 case round =>
  clear HT HT1 HK1 HB Hbs bs_
  obtain ⟨j, g, c9, hj, rfl, rfl, HT, Hbs, HK, Hr⟩ := hrel
  have HZ1 := Lib.hid HK.out.size
  have HZ2 := Lib.hid Hbs.out.lt
  by_cases hjn : j < n
  ·have bs_ := Hbs.out.c2
   go_wp2_with fail
   refine (HCH.out (AT j) (HAZ.out j) wr ((HG.out.keptP HK.out hne)) HT.out).mono ?_
   rintro e wz ⟨rfl, ht, hk⟩
   have Hbs9 := Lib.hid (Hbs.out.keptP hk (show ¬ w.heap.size = tb by have := HTL.out; omega))
   have HK9 := Lib.hid (HK.out.trans hk)
   have Hr9 := Lib.hid (Hr.out.grown (kept_gw hk) (fun q9 e8 e9 => by have a1 := (Hr.out.lt _ e8).1; have a0 := Option.some.inj e9; have := HTL.out; have := HBS.out; omega))
   have Ht := Lib.hid (show Bx wz tb 192 [.string (AT (j + 1))] from HAS.out j ▸ ht)
   have HZ3 := Lib.hid HK9.out.size
   have HZ4 := Lib.hid Ht.out.lt
   have HZ5 := Lib.hid Hbs9.out.lt
   clear ht hk Hbs HK Hr HT bs_
   have Hbs := Hbs9
   have HK := HK9
   have Hr := Hr9
   clear Hbs9 HK9 Hr9
   unfold scV limbV
   replace HZS := sz HZS HZ3.out
   replace HZS := sz HZS HZ4.out
   replace HZS := sz HZS HZ5.out
   replace HZS := sz HZS HTL.out
   replace HZS := sz HZS HBS.out
   replace HZS := sz HZS HGL.out
   have bs_ := Hbs.out.c2
   have t_ := Ht.out.c1
   obtain ⟨i9, hi9, hz90, hz91, hz92⟩ := info_parts infoScalar
   go_wp2_with (at_builtin; refine wpList_pushR (w1.heap.size) wz (by have g0 := HZS.out; omega) rfl _ _ 65 rfl 72 i9 _ 4 32 Tryz.underlying65 hi9 hz90 hz91 hz92 rfl (by omega) ((.slice g j c9)) (j) (((NL j).flatMap (limC G.q.m))) rfl Hr.out _ _ _ rfl rfl rfl (by simp [Value.oneCell']) (by omega) (by unfold maxLen; omega) ?_)
   intro g2 c2 w2 hown9 hg9
   clear bs_ t_
   replace Hbs := Lib.hid (Hbs.out.grown hg9 (fun e9 => by have a1 := Hr.out.lt _ e9; have g0 := HZS.out; omega))
   replace Ht := Lib.hid (Ht.out.grown hg9 (fun e9 => by have a1 := Hr.out.lt _ e9; have g0 := HZS.out; omega))
   replace HK := Lib.hid (Kept.grown HK.out hg9 (fun q hq => Or.inl (Nat.le_trans (show w.heap.size ≤ w1.heap.size by have g0 := HZS.out; omega) (Hr.out.lt q hq).1)))
   replace HZS := sz HZS hg9.size
   clear Hr
   have Hr := Lib.hid hown9
   clear hown9 hg9 hi9 hz90 hz91 hz92
   have bs_ := Hbs.out.c2
   have t_ := Ht.out.c1
   go_wp2_with fail
   go_roundw
   case rel => exact ⟨j + 1, _, _, hjn, by go_num, rfl, Ht, Hbs, HK, Hr.out.eq (by rw [HSU.out, HSC.out]) rfl⟩
   case measure => simp [intOf]; omega
  ·have hj' : j = n := by omega
   subst hj'
   have bs_ := Hbs.out.c2
   go_wp2_with fail
   go_ret
   exact ⟨g, c9, rfl, Hr.out.sl, fun x hx => by have := Hr.out.lt x.block (by rw [hx]; rfl); have := HBS.out; omega, HT.out, HK.out⟩
theorem ans_snoc (G : GP) (N : Nat) {ws xs : List ByteArray} {j : Nat} (h1 : j < ws.length) (h2 : j < xs.length) : ((ansL G N ws xs).take (j + 1)).map Value.string = ((ansL G N ws xs).take j).map Value.string ++ [.string (textS ((numOf ws[j] + N * numOf xs[j]) % G.q.m) G.size)] := by
 unfold ansL
 have hl : j < (List.zipWith (ansF G N) ws xs).length := by rw [List.length_zipWith]; omega
 rw [List.take_succ_eq_append_getElem hl, List.map_append, List.map_cons, List.map_nil, List.getElem_zipWith]
 rfl
theorem ansL_len (G : GP) (N : Nat) {ws xs : List ByteArray} {n : Nat} (h1 : ws.length = n) (h2 : xs.length = n) : (ansL G N ws xs).length = n := by unfold ansL; rw [List.length_zipWith, h1, h2, Nat.min_self]
theorem answers_any (G : GP) (ok : G.Ok) (gb N : Nat) (a : Option Addr) (m c : Nat) (ws xs : List ByteArray) (n : Nat) (hw : ws.length = n) (hx : xs.length = n) (hn : n ≤ 64) (aw ax : Option Addr) (cw cx : Nat) (w : World) (hG : GroupAt w gb G) (hW : Sl w w.heap.size aw (ws.flatMap (limC G.q.m))) (hX : Sl w w.heap.size ax (xs.flatMap (limC G.q.m))) :
  Calls Tryz.prog 69 #[.agg #[.pointer (some ⟨gb, 0, none⟩), .slice a m c], .slice aw n cw, scV G N, .slice ax n cx] w fun e w' => ∃ a' c', e = .returned (.slice a' n c') ∧ Sl w' w'.heap.size a' ((ansL G N ws xs).map Value.string) ∧ (∀ x, a' = some x → w.heap.size ≤ x.block) ∧ n ≤ c' ∧ (a' = none → c' = 0) ∧ Below w.heap.size w w' := by
 have OK := Lib.hid ok
 have HSN := Lib.hid (fun j h1 h2 => ans_snoc G N (ws := ws) (xs := xs) (j := j) h1 h2)
 have HAL := Lib.hid (ansL_len G N hw hx)
 generalize ansL G N ws xs = AL at *
 have HG := Lib.hid hG
 have HW := Lib.hid hW
 have HX := Lib.hid hX
 have HWN := Lib.hid hw
 have HXN := Lib.hid hx
 clear ok hG hW hX hw hx
 unfold scV limbV
 go_enter Tryz.func69, Tryz.ntmps69
 go_wp2_with fail
 obtain ⟨w1, hq1, hb9, hz9, Hbs, Hbc⟩ := new2 w 64 [.pointer (some ⟨gb, 0, none⟩), .slice a m c] 72 [.int .u64 (dig (mont G.q.m N) 0 : Int), .int .u64 (dig (mont G.q.m N) 1 : Int), .int .u64 (dig (mont G.q.m N) 2 : Int), .int .u64 (dig (mont G.q.m N) 3 : Int)]
 rw [hq1]
 clear hq1
 have HB := Lib.hid hb9
 have HZS := hz9
 clear hb9 hz9
 have bs_ := Hbs.out.c2
 have bc_ := Hbc.out.c4
 have HWZ := Lib.hid HB.out.size
 have BL := Lib.hid (Below.refl w1.heap.size w1)
 go_wp2_with fail
 go_loopw [14, 9] (fun i v wr => ∃ (j : Nat) (g : Option Addr) (c9 : Nat), j ≤ n ∧ i = .int .i64 (j : Int) ∧ v = .slice g j c9 ∧ Hid (Below w1.heap.size w1 wr) ∧ Hid (RowO w1.heap.size wr 9 1 (.slice g j c9) j ((AL.take j).map Value.string))) (fun i _ _ => n - (intOf i).toNat)
 case atStart => exact ⟨0, none, 0, Nat.zero_le _, rfl, rfl, BL, RowO.nil⟩
 case round =>
  obtain ⟨j, g, c9, hj, rfl, rfl, HL9, Hr⟩ := hrel
  have hb9 := HL9.out
  clear HL9 bs_
  replace Hbs := Lib.hid (Hbs.out.up hb9)
  clear bc_
  replace Hbc := Lib.hid (Hbc.out.up hb9)
  replace BL := hbu BL hb9
  replace HB := hbu HB hb9
  replace HZS := sz HZS hb9.size
  clear hb9
  have bs_ := Hbs.out.c2
  have bc_ := Hbc.out.c4
  by_cases hjn : j < n
  ·have hjw : j < ws.length := by rw [HWN.out]; exact hjn
   have hjx : j < xs.length := by rw [HXN.out]; exact hjn
   obtain ⟨bw, ow, rfl, hbw, hcw⟩ := HW.out.elem (limC_len _) (by omega) j hjw
   obtain ⟨bx, ox, rfl, hbx, hcx⟩ := HX.out.elem (limC_len _) (by omega) j hjx
   have hcw_0 := hcw 0 _ rfl
   rw [Nat.add_zero] at hcw_0
   have hcw_1 := hcw 1 _ rfl
   have hcw_2 := hcw 2 _ rfl
   have hcw_3 := hcw 3 _ rfl
   clear hcw
   have hcx_0 := hcx 0 _ rfl
   rw [Nat.add_zero] at hcx_0
   have hcx_1 := hcx 1 _ rfl
   have hcx_2 := hcx 2 _ rfl
   have hcx_3 := hcx 3 _ rfl
   clear hcx
   replace hcw_0 := cell_up HB.out hbw hcw_0
   replace hcw_1 := cell_up HB.out hbw hcw_1
   replace hcw_2 := cell_up HB.out hbw hcw_2
   replace hcw_3 := cell_up HB.out hbw hcw_3
   have hlw := HWZ.out
   have HNP := Lib.hid (fun q e => (Hr.out.lt q e).2)
   have HSJ := Lib.hid (HSN.out j hjw hjx)
   generalize ws[j] = x at *
   generalize xs[j] = y at *
   have o2_bs_ := bs_; clear bs_
   have o2_bc_ := bc_; clear bc_
   obtain ⟨w2, hq2, hb9, hz9, Hbn⟩ := new1 wr 72 [.int .u64 (dig (mont G.q.m (numOf x)) 0 : Int), .int .u64 (dig (mont G.q.m (numOf x)) 1 : Int), .int .u64 (dig (mont G.q.m (numOf x)) 2 : Int), .int .u64 (dig (mont G.q.m (numOf x)) 3 : Int)]
   replace Hbs := Lib.hid (Hbs.out.up hb9)
   replace Hbc := Lib.hid (Hbc.out.up hb9)
   replace Hr := Lib.hid (Hr.out.up hb9)
   replace BL := hbu BL hb9
   replace HB := hbu HB hb9
   replace HZS := sz HZS hz9.out
   clear hb9 hz9
   have bs_ := Hbs.out.c2
   have bc_ := Hbc.out.c4
   have bn_ := Hbn.out.c4
   go_wp2_with fail
   clear hq2 o2_bc_ o2_bs_
   replace hcx_0 := cell_up HB.out hbx hcx_0
   replace hcx_1 := cell_up HB.out hbx hcx_1
   replace hcx_2 := cell_up HB.out hbx hcx_2
   replace hcx_3 := cell_up HB.out hbx hcx_3
   have hbx2 := Nat.lt_of_lt_of_le hbx HB.out.size
   have HT := Lib.hid (show Below w2.heap.size w2 w2.drew from (Below.refl _ _).drew)
   have hl_bs := Hbs.out.lt
   have hl_bc := Hbc.out.lt
   have hl_bn := Hbn.out.lt
   refine wp_region_tree (fun wq9 => ∃ E : But w2 (Value.ownBlock (.slice g j c9)), wq9 = E.w) ((.qs [0, 1, 2, 3, 4, 5, 6, 7, 8, 9, 10, 11, 12] (.a 13 (.a 14 (.a 15 (.a 16 (.a 17 (.qs [18] .done)))))))) (by kernel_rfl) (by kernel_rfl) (fun _ _ d _ _ h => by cases d <;> exact h) ⟨⟨_, ((below_grown HT.out).but _)⟩, rfl⟩ ?_
   have hov_bs := fun (E : But w2 (Value.ownBlock (.slice g j c9))) o => E.cell (b := w.heap.size) o hl_bs (by intro e9; have a2 := HNP.out _ e9; have a1 := Hr.out.lt _ e9; have g0 := HZS.out; omega)
   have hov_bc := fun (E : But w2 (Value.ownBlock (.slice g j c9))) o => E.cell (b := w.heap.size + 1) o hl_bc (by intro e9; have a2 := HNP.out _ e9; have a1 := Hr.out.lt _ e9; have g0 := HZS.out; omega)
   have hov_bn := fun (E : But w2 (Value.ownBlock (.slice g j c9))) o => E.cell (b := wr.heap.size) o hl_bn (by intro e9; have a2 := HNP.out _ e9; have a1 := Hr.out.lt _ e9; have g0 := HZS.out; omega)
   have hov_bx := fun (E : But w2 (Value.ownBlock (.slice g j c9))) o => E.cell (b := bx) o hbx2 (by intro e9; have a2 := HNP.out _ e9; have a1 := Hr.out.lt _ e9; have g0 := HZS.out; omega)
   simp only [Tree.qs]
   repeat (refine tree_q rfl rfl ?_; go_big_quiet_step (fail); refine wpQuiet_nil ?_)
   refine tree_a rfl (fun K hK => ?_)
   go_simp
   refine (gMul_any G OK.out gb N (numOf y) _ (HG.out.up (below_up HB.out HT.out))).mono ?_
   rintro e w3 ⟨rfl, hb9⟩
   replace HT := Lib.hid (below_up HT.out hb9)
   replace HZS := sz HZS (show w2.heap.size ≤ w3.heap.size from HT.out.size)
   clear hb9
   refine hK _ _ ⟨⟨⟨w3, ((below_grown HT.out).but _)⟩, rfl⟩, ?_⟩
   clear hK K
   repeat (refine tree_q rfl rfl ?_; go_big_quiet_step (fail); refine wpQuiet_nil ?_)
   refine tree_a rfl (fun K hK => ?_)
   go_simp
   refine (gAdd_any G OK.out gb (numOf x) (N * numOf y) _ (HG.out.up (below_up HB.out HT.out))).mono ?_
   rintro e w4 ⟨rfl, hb9⟩
   replace HT := Lib.hid (below_up HT.out hb9)
   replace HZS := sz HZS (show w2.heap.size ≤ w4.heap.size from HT.out.size)
   clear hb9
   refine hK _ _ ⟨⟨⟨w4, ((below_grown HT.out).but _)⟩, rfl⟩, ?_⟩
   clear hK K
   repeat (refine tree_q rfl rfl ?_; go_big_quiet_step (fail); refine wpQuiet_nil ?_)
   refine tree_a rfl (fun K hK => ?_)
   go_simp
   refine (gPut_any G OK.out gb (numOf x + N * numOf y) _ (HG.out.up (below_up HB.out HT.out))).mono ?_
   rintro e w5 ⟨rfl, hb9⟩
   replace HT := Lib.hid (below_up HT.out hb9)
   replace HZS := sz HZS (show w2.heap.size ≤ w5.heap.size from HT.out.size)
   clear hb9
   refine hK _ _ ⟨⟨⟨w5, ((below_grown HT.out).but _)⟩, rfl⟩, ?_⟩
   clear hK K
   repeat (refine tree_q rfl rfl ?_; go_big_quiet_step (fail); refine wpQuiet_nil ?_)
   clear hov_bs hl_bs hov_bc hl_bc hov_bn hl_bn hov_bx
   refine tree_a rfl (fun K hK => ?_)
   go_simp
   refine hK _ _ ⟨⟨⟨_, (below_grown (HT.out.alloc HT.out.size _)).but _⟩, rfl⟩, ?_⟩
   clear hK K
   obtain ⟨i9, hi9, hz90, hz91, hz92⟩ := info_parts infoStr
   have HG1 := Lib.hid ((below_grown HT.out).but (Value.ownBlock (.slice g j c9)))
   clear bs_
   replace Hbs := Lib.hid (Hbs.out.up HT.out)
   clear bc_
   replace Hbc := Lib.hid (Hbc.out.up HT.out)
   clear bn_
   replace Hbn := Lib.hid (Hbn.out.up HT.out)
   replace Hr := Lib.hid (Hr.out.up HT.out)
   replace BL := hbu BL HT.out
   replace HB := hbu HB HT.out
   replace HZS := sz HZS HT.out.size
   refine tree_a rfl (fun K hK => ?_)
   refine step_pushR (w1.heap.size) w5 (by have g0 := HZS.out; omega) rfl _ _ 23 rfl 9 i9 _ 1 16 Tryz.underlying23 hi9 hz90 hz91 hz92 rfl (by omega) ((.slice g j c9)) (j) (((AL.take j).map Value.string)) rfl Hr.out _ _ _ rfl rfl rfl (by simp [Value.oneCell']) (by omega) (by unfold maxLen; omega) ?_
   intro g6 c6 w6 hown9 hg9
   have HGR := Lib.hid (HG1.out.trans hg9)
   have hb9 := Below.grown HB.out hg9 (by have g0 := HZS.out; omega) (fun q hq => Nat.le_trans (show w.heap.size ≤ w1.heap.size by have g0 := HZS.out; omega) (Hr.out.lt q hq).1)
   replace Hbs := Lib.hid (Hbs.out.grown hg9 (fun e9 => by have a2 := HNP.out _ e9; have a1 := Hr.out.lt _ e9; have g0 := HZS.out; omega))
   replace Hbc := Lib.hid (Hbc.out.grown hg9 (fun e9 => by have a2 := HNP.out _ e9; have a1 := Hr.out.lt _ e9; have g0 := HZS.out; omega))
   replace Hbn := Lib.hid (Hbn.out.grown hg9 (fun e9 => by have a2 := HNP.out _ e9; have a1 := Hr.out.lt _ e9; have g0 := HZS.out; omega))
   replace BL := Lib.hid (Below.grown BL.out hg9 (by have g0 := HZS.out; omega) (fun q hq => Nat.le_trans (show w1.heap.size ≤ w1.heap.size by have g0 := HZS.out; omega) (Hr.out.lt q hq).1))
   replace HZS := sz HZS hg9.size
   clear Hr HB HT HG1
   have Hr := Lib.hid hown9
   have HB := Lib.hid hb9
   clear hb9 hown9 hg9 hi9 hz90 hz91 hz92
   refine hK _ _ ⟨⟨⟨w6, HGR.out⟩, rfl⟩, ?_⟩
   clear hK K HGR
   have bs_ := Hbs.out.c2
   have bc_ := Hbc.out.c4
   have bn_ := Hbn.out.c4
   try simp only [Act.put, List.setIfInBounds_toArray, List.set_cons_succ, List.set_cons_zero]
   repeat (refine tree_q rfl rfl ?_; go_big_quiet_step (fail); refine wpQuiet_nil ?_)
   refine tree_end ?_
   go_wp2_with fail
   go_roundw
   case rel => exact ⟨j + 1, _, _, hjn, by go_num, rfl, BL, Hr.out.eq HSJ.out.symm rfl⟩
   case measure => simp [intOf]; omega
  ·have hj' : j = n := by omega
   subst hj'
   rw [List.take_of_length_le (by rw [HAL.out]; exact Nat.le_refl _)] at Hr
   go_wp2_with fail
   go_ret
   exact ⟨g, c9, rfl, Hr.out.sl, fun x hx => by have h1 := Hr.out.lt x.block (by rw [hx]; rfl); have h2 := HWZ.out; omega, RowO.room Hr.out, RowO.none0 Hr.out, HB.out⟩
end Go.Proofs.YtdlnnkbigeiilaaGreat
namespace Go.Proofs.YtdlnnkbigeiilaaGreat
open Go.RowKit
def prvT (k : Int) (label : ByteArray) (l : List ClaimA) : ByteArray := sayCl (beginT claimsB label k) l
def prvL (k : Int) (label : ByteArray) (l : List ClaimA) (seed : ByteArray) : List ByteArray := nonceL (grp k.toNat) (say1 (prvT k label l) seedB seed) l.length
def prvF (k : Int) (label : ByteArray) (l : List ClaimA) (seed : ByteArray) : List (List ByteArray) := eachA (grp k.toNat) (valF (grp k.toNat) l (prvL k label l seed)) (lens l) l.length
def prvN (k : Int) (label : ByteArray) (l : List ClaimA) (seed : ByteArray) : Nat := chN (sayFi (prvT k label l) (prvF k label l seed)) challengeB
def prvC (k : Int) (label : ByteArray) (l : List ClaimA) (seed : ByteArray) : ByteArray := textS (prvN k label l seed % (grp k.toNat).q.m) (grp k.toNat).size
def prvA (k : Int) (label : ByteArray) (l : List ClaimA) (xs : List ByteArray) (seed : ByteArray) : List ByteArray := ansL (grp k.toNat) (prvN k label l seed) (prvL k label l seed) xs
def prvE (k : Int) (l : List ClaimA) (xs : List ByteArray) : Nat := if openK k l xs = 0 then (if holdP (grp k.toNat) l xs = true then 0 else 8) else openK k l xs
def ProveR (er : Int) (C : ByteArray) (A : List ByteArray) (w : World) (e : Ending) (w' : World) : Prop :=
 Below w.heap.size w w' ∧ ∃ a c, e = .returned (.tuple #[.agg #[.string C, .slice a A.length c], .int .i64 er]) ∧ Sl w' w'.heap.size a (A.map Value.string) ∧ (a = none → c = 0) ∧ A.length ≤ c ∧ ∀ y, a = some y → w.heap.size ≤ y.block
theorem proveR_none (er : Int) {w w' : World} (h : Below w.heap.size w w') : ProveR er ⟨#[]⟩ [] w (.returned (.tuple #[.agg #[.string ⟨#[]⟩, .slice none 0 0], .int .i64 er])) w' := ⟨h, none, 0, rfl, Or.inl rfl, fun _ => rfl, Nat.le_refl _, fun _ h => nomatch h⟩
end Go.Proofs.YtdlnnkbigeiilaaGreat
namespace Go.Proofs.YtdlnnkbigeiilaaGreat
open Go.RowKit
theorem Sl.setO {W : World} {b : Nat} {a : Option Addr} {xs : List Value} (h : Sl W W.heap.size a xs) (hne : ∀ x, a = some x → x.block ≠ b) (i : Nat) (v : Value) : Sl (W.setCell ⟨b, i, none⟩ v) (W.setCell ⟨b, i, none⟩ v).heap.size a xs := by
 rcases h with h | ⟨q, o, rfl, hq, hc⟩
 ·exact Or.inl h
 ·refine Or.inr ⟨q, o, rfl, by simpa [World.setCell] using hq, fun j u hu => ?_⟩
  rw [World.cell?_setCell_other _ _ _ _ (by intro e; exact hne _ rfl (congrArg Addr.block e).symm)]
  exact hc j u hu
theorem sProve_any (k : Int) (label : ByteArray) (hlb : label.size < 140737488355328) (l : List ClaimA) (al : Option Addr) (cl : Nat) (xs : List ByteArray) (ax : Option Addr) (cx : Nat) (hn : xs.length ≤ 8796093022207) (seed : ByteArray) (hsd : seed.size < 140737488355328) (hcap : ∀ c ∈ l, CapOk c) (w : World) (hC : ClaimsAt w al l) (hS : Sl w w.heap.size ax (xs.map Value.string)) :
  Calls Tryz.prog 14 #[.int .i64 k, .string label, .slice al l.length cl, .slice ax xs.length cx, .string seed] w (ProveR (prvE k l xs : Int) (if prvE k l xs = 0 then prvC k label l seed else ⟨#[]⟩) (if prvE k l xs = 0 then prvA k label l xs seed else []) w) := by
 have HCAP := Lib.hid hcap
 have HO := Lib.hid (fun w1 (hb : Below w.heap.size w w1) => open_any k l al cl xs ax cx hn w1 (hC.up hb) (hS.up hb))
 obtain ⟨z, hz⟩ : ∃ z, openK k l xs = z := ⟨_, rfl⟩
 have HE := Lib.hid (show prvE k l xs = if z = 0 then (if holdP (grp k.toNat) l xs = true then 0 else 8) else z by rw [← hz]; rfl)
 rw [hz] at HO
 clear hC hS hcap
 by_cases h0 : z = 0
 ·subst h0
  obtain ⟨b, hb0⟩ : ∃ b, holdP (grp k.toNat) l xs = b := ⟨_, rfl⟩
  have HHB := Lib.hid hb0
  obtain ⟨hk9, hsh9, hr99⟩ := openK_ok hz
  clear hr99
  have hl64' := (shape_ok hsh9).2.1
  have OK0 := Lib.hid (grp_ok k.toNat (by omega) (by omega))
  have hs1 : (prvT k label l).size = 32 := sayCl_size _ _ (say1_size _ _ _)
  have hs2 : (say1 (prvT k label l) seedB seed).size = 32 := say1_size _ _ _
  have hs3 : (sayFi (prvT k label l) (prvF k label l seed)).size = 32 := sayFi_size _ _ hs1
  have HF1 := Lib.hid (fun gb w hG => sbegin_any (grp k.toNat) gb claimsB label (by decide) hlb (by rw [grp_kind k.toNat (by omega) (by omega)]; omega) w hG)
  have HF2 := Lib.hid (fun gv tb (rs : List ClaimR) (hrs : rs.map ClaimR.k = l) sh al cl w0 w hb htb hT hS hC => (show Calls Tryz.prog 39 #[.agg #[gv, .slice al l.length cl], .pointer (some ⟨tb, 0, none⟩)] w fun e w' => e = .returned (.tuple #[]) ∧ TalkAt w' tb (prvT k label l) ∧ Kept (fun q => q = tb) w w' from by
   have h := say_any (grp k.toNat) gv tb (beginT claimsB label k) rs rs.length rfl (by rw [← hrs, List.length_map] at hl64'; exact hl64') (say1_size _ _ _) sh al cl w0 w hb htb hT hS hC
   rw [hrs, show rs.length = l.length by rw [← hrs, List.length_map]] at h
   exact h))
  have HF3 := Lib.hid (fun tb w hT => seeded_any tb (prvT k label l) seed hs1 hsd w hT)
  have HF4 := Lib.hid (fun gb fb a c w hG hT hne => asked_any (grp k.toNat) OK0.out gb fb a l.length c hl64' (say1 (prvT k label l) seedB seed) hs2 w hG hT hne)
  have HF5 := Lib.hid (fun tb (ro : List RowA) (hro : ro.map RowA.l = prvF k label l seed) sh hok al cl w hT hC ha hr => (show Calls Tryz.prog 40 #[.pointer (some ⟨tb, 0, none⟩), .slice al ro.length cl] w fun e w' => e = .returned (.tuple #[]) ∧ TalkAt w' tb (sayFi (prvT k label l) (prvF k label l seed)) ∧ Kept (fun q => q = tb) w w' from by
   have h := said_any tb (prvT k label l) ro ro.length rfl (by rw [show ro.length = l.length by have h9 := congrArg List.length hro; rw [List.length_map] at h9; rw [h9]; unfold prvF; rw [eachA_len]]; exact hl64') hs1 sh hok al cl w hT hC ha hr
   rw [hro] at h
   exact h))
  have HF6 := Lib.hid (fun gb tb w hG hT hne => gChallenge_any (grp k.toNat) OK0.out gb tb (sayFi (prvT k label l) (prvF k label l seed)) challengeB (by rw [hs3]; decide) (by decide) w hG hT hne)
  have HNL := Lib.hid (show (prvL k label l seed).length = l.length from nonceL_len _ _ _)
  have HFF := Lib.hid (show prvF k label l seed = eachA (grp k.toNat) (valF (grp k.toNat) l (prvL k label l seed)) (lens l) l.length from rfl)
  have HRC := Lib.hid (show prvC k label l seed = textS (prvN k label l seed % (grp k.toNat).q.m) (grp k.toNat).size from rfl)
  have HRA := Lib.hid (show prvA k label l xs seed = ansL (grp k.toNat) (prvN k label l seed) (prvL k label l seed) xs from rfl)
  have HRN := Lib.hid (show prvN k label l seed = chN (sayFi (prvT k label l) (prvF k label l seed)) challengeB from rfl)
  generalize prvC k label l seed = PC at *
  generalize prvA k label l xs seed = PA at *
  generalize hqn : prvN k label l seed = PN at *
  generalize prvF k label l seed = PF at *
  generalize sayFi (prvT k label l) PF = t3 at *
  rw [← HRN.out] at HF6
  generalize chT t3 challengeB = t4 at *
  have hLL : nonceL (grp k.toNat) (say1 (prvT k label l) seedB seed) l.length = prvL k label l seed := rfl
  rw [hLL] at HF4
  generalize prvL k label l seed = NL at *
  generalize askT (say1 (prvT k label l) seedB seed) l.length = t5 at *
  generalize say1 (prvT k label l) seedB seed = t2 at *
  generalize prvT k label l = t1 at *
  generalize beginT claimsB label = BT at *
  clear hs1 hs2 hs3 hqn hLL hb0 hsd hlb hl64' hsh9 hk9
  cases b
  ·have HE2 := Lib.hid (show prvE k l xs = 8 by rw [HE.out, if_pos rfl, if_neg (by rw [HHB.out]; simp)])
   rw [HE2.out, if_neg (by decide), if_neg (by decide)]
   clear HE HE2
   go_enter Tryz.func14, Tryz.ntmps14
   go_wp2_with fail
   obtain ⟨w1, hq1, hb9, hz9, Hout⟩ := new1 w 25 [.string ⟨#[]⟩, .slice none 0 0]
   rw [hq1]
   clear hq1
   have HB := Lib.hid hb9
   have HZS := hz9
   clear hb9 hz9
   have out_ := Hout.out.c2
   go_wp2_with fail
   refine (HO.out _ HB.out).mono ?_
   rintro e w2 ⟨hb9, pp, qa, qn, qc, v, rfl, hok⟩
   clear out_
   replace Hout := Lib.hid (Hout.out.up hb9)
   replace HB := hbu HB hb9
   replace HZS := sz HZS hb9.size
   have HOK := Lib.hid hok
   clear hok hb9
   have out_ := Hout.out.c2
   obtain ⟨gb, rs, a, c, a', c', e1, e2, rfl, hrk, hg9, hs9, hp9, hx9⟩ := HOK.out rfl
   obtain rfl := Value.pointer.inj e1
   obtain ⟨rfl, rfl, rfl⟩ := Value.slice.inj e2
   obtain ⟨hk9, hsh, hel, hxl, hxa⟩ := openK_ok hz
   have HRK := Lib.hid hrk
   have HRL := Lib.hid (show rs.length = l.length by rw [← hrk, List.length_map])
   have HG := Lib.hid hg9
   have HST := Lib.hid hs9
   have HXX := Lib.hid hx9
   have HSP := Lib.hid hp9
   have HXL := Lib.hid hxl
   have HK9 := Lib.hid hk9
   have hl64 := (shape_ok hsh).2.1
   have HSHP := Lib.hid (show ∀ r ∈ rs, r.k.bases.length ≤ 8 ∧ r.k.images.length = r.k.bases.length from fun r hr => by
    have h9 := (shape_ok hsh).2.2 r.k (by rw [← hrk]; exact List.mem_map.2 ⟨r, hr, rfl⟩)
    exact ⟨h9.2.1, h9.2.2⟩)
   have OK := Lib.hid (grp_ok k.toNat (by omega) (by omega))
   have HSY := Lib.hid (show ∀ r ∈ rs, SayOk r.k ∧ CapOk r.k from fun r hr => by
    have hm : r.k ∈ l := by rw [← hrk]; exact List.mem_map.2 ⟨r, hr, rfl⟩
    have h9 := (shape_ok hsh).2.2 r.k hm
    have h8 := List.all_eq_true.1 hel r.k hm
    unfold cElems at h8
    rw [Bool.and_eq_true] at h8
    have hs := OK.out.size_le
    have hsm : ∀ s, isEl (grp k.toNat).q.m (grp k.toNat).size s = true → s.size ≤ 32 := fun s h => by
     unfold isEl at h
     simp only [Bool.and_eq_true, decide_eq_true_eq, beq_iff_eq] at h
     omega
    exact ⟨⟨h9.2.1, by omega, fun x hx => hsm x (List.all_eq_true.1 h8.1 x hx), fun x hx => hsm x (List.all_eq_true.1 h8.2 x hx)⟩, HCAP.out _ hm⟩)
   rw [show xs.length = rs.length by rw [HXL.out, HRL.out]]
   clear hrk hg9 hs9 hp9 hx9 hsh hel hxl hxa hk9 HOK
   rw [HRL.out]
   have BS := Lib.hid (Below.refl w2.heap.size w2)
   have o3_out_ := out_; clear out_
   obtain ⟨w3, hq3, hb9, hz9, Hbs⟩ := new1 w2 64 [.pointer (some ⟨gb, 0, none⟩), .slice qa l.length qc]
   replace Hout := Lib.hid (Hout.out.up hb9)
   replace BS := hbu BS hb9
   replace HB := hbu HB hb9
   replace HZS := sz HZS hz9.out
   clear hb9 hz9
   have out_ := Hout.out.c2
   have bs_ := Hbs.out.c2
   go_wp2_with fail
   clear hq3 o3_out_
   refine (holds_any (grp k.toNat) OK.out gb rs l.length HRL.out qa qc xs HXL.out a' c' hl64 HSHP.out false (by rw [HRK.out, ← HHB.out]) w3 (HG.out.up BS.out) (HST.out.up BS.out) (HXX.out.up BS.out)).mono ?_
   rintro e w4 ⟨rfl, hb9⟩
   clear out_
   replace Hout := Lib.hid (Hout.out.up hb9)
   clear bs_
   replace Hbs := Lib.hid (Hbs.out.up hb9)
   replace BS := hbu BS hb9
   replace HB := hbu HB hb9
   replace HZS := sz HZS hb9.size
   clear hb9
   have out_ := Hout.out.c2
   have bs_ := Hbs.out.c2
   clear BS
   have f5_out := Hout.out.frozen
   have o5_out_ := out_; clear out_
   have o5_bs_ := bs_; clear bs_
   obtain ⟨w5, hq5, hg9, hz9, hx9⟩ := put2 Hout 0 (.string ⟨#[]⟩) 1 (.slice none 0 0) [.string ⟨#[]⟩, .slice none 0 0] rfl
   replace Hbs := Lib.hid (Hbs.out.grown hg9.out (sne (by have g0 := HZS.out; omega)))
   replace HB := hbg HB hg9 (by have g0 := HZS.out; omega)
   replace HZS := sz HZS hz9.out
   replace Hout := hx9
   clear hx9 hg9 hz9
   have out_ := Hout.out.c2
   have bs_ := Hbs.out.c2
   go_wp2_with fail
   clear hq5 o5_bs_ o5_out_ f5_out
   simp [bodyPost, results, Tryz.results14, go_sem, out_]
   exact proveR_none _ HB.out
  ·have HE2 := Lib.hid (show prvE k l xs = 0 by rw [HE.out, if_pos rfl, if_pos HHB.out])
   rw [HE2.out, if_pos rfl, if_pos rfl]
   clear HE HE2
   go_enter Tryz.func14, Tryz.ntmps14
   go_wp2_with fail
   obtain ⟨w1, hq1, hb9, hz9, Hout⟩ := new1 w 25 [.string ⟨#[]⟩, .slice none 0 0]
   rw [hq1]
   clear hq1
   have HB := Lib.hid hb9
   have HZS := hz9
   clear hb9 hz9
   have out_ := Hout.out.c2
   go_wp2_with fail
   refine (HO.out _ HB.out).mono ?_
   rintro e w2 ⟨hb9, pp, qa, qn, qc, v, rfl, hok⟩
   clear out_
   replace Hout := Lib.hid (Hout.out.up hb9)
   replace HB := hbu HB hb9
   replace HZS := sz HZS hb9.size
   have HOK := Lib.hid hok
   clear hok hb9
   have out_ := Hout.out.c2
   obtain ⟨gb, rs, a, c, a', c', e1, e2, rfl, hrk, hg9, hs9, hp9, hx9⟩ := HOK.out rfl
   obtain rfl := Value.pointer.inj e1
   obtain ⟨rfl, rfl, rfl⟩ := Value.slice.inj e2
   obtain ⟨hk9, hsh, hel, hxl, hxa⟩ := openK_ok hz
   have HRK := Lib.hid hrk
   have HRL := Lib.hid (show rs.length = l.length by rw [← hrk, List.length_map])
   have HG := Lib.hid hg9
   have HST := Lib.hid hs9
   have HXX := Lib.hid hx9
   have HSP := Lib.hid hp9
   have HXL := Lib.hid hxl
   have HK9 := Lib.hid hk9
   have hl64 := (shape_ok hsh).2.1
   have HSHP := Lib.hid (show ∀ r ∈ rs, r.k.bases.length ≤ 8 ∧ r.k.images.length = r.k.bases.length from fun r hr => by
    have h9 := (shape_ok hsh).2.2 r.k (by rw [← hrk]; exact List.mem_map.2 ⟨r, hr, rfl⟩)
    exact ⟨h9.2.1, h9.2.2⟩)
   have OK := Lib.hid (grp_ok k.toNat (by omega) (by omega))
   have HSY := Lib.hid (show ∀ r ∈ rs, SayOk r.k ∧ CapOk r.k from fun r hr => by
    have hm : r.k ∈ l := by rw [← hrk]; exact List.mem_map.2 ⟨r, hr, rfl⟩
    have h9 := (shape_ok hsh).2.2 r.k hm
    have h8 := List.all_eq_true.1 hel r.k hm
    unfold cElems at h8
    rw [Bool.and_eq_true] at h8
    have hs := OK.out.size_le
    have hsm : ∀ s, isEl (grp k.toNat).q.m (grp k.toNat).size s = true → s.size ≤ 32 := fun s h => by
     unfold isEl at h
     simp only [Bool.and_eq_true, decide_eq_true_eq, beq_iff_eq] at h
     omega
    exact ⟨⟨h9.2.1, by omega, fun x hx => hsm x (List.all_eq_true.1 h8.1 x hx), fun x hx => hsm x (List.all_eq_true.1 h8.2 x hx)⟩, HCAP.out _ hm⟩)
   rw [show xs.length = rs.length by rw [HXL.out, HRL.out]]
   clear hrk hg9 hs9 hp9 hx9 hsh hel hxl hxa hk9 HOK
   rw [HRL.out]
   have BS := Lib.hid (Below.refl w2.heap.size w2)
   have o3_out_ := out_; clear out_
   obtain ⟨w3, hq3, hb9, hz9, Hbs⟩ := new1 w2 64 [.pointer (some ⟨gb, 0, none⟩), .slice qa l.length qc]
   replace Hout := Lib.hid (Hout.out.up hb9)
   replace BS := hbu BS hb9
   replace HB := hbu HB hb9
   replace HZS := sz HZS hz9.out
   clear hb9 hz9
   have out_ := Hout.out.c2
   have bs_ := Hbs.out.c2
   go_wp2_with fail
   clear hq3 o3_out_
   refine (holds_any (grp k.toNat) OK.out gb rs l.length HRL.out qa qc xs HXL.out a' c' hl64 HSHP.out true (by rw [HRK.out, ← HHB.out]) w3 (HG.out.up BS.out) (HST.out.up BS.out) (HXX.out.up BS.out)).mono ?_
   rintro e w4 ⟨rfl, hb9⟩
   clear out_
   replace Hout := Lib.hid (Hout.out.up hb9)
   clear bs_
   replace Hbs := Lib.hid (Hbs.out.up hb9)
   replace BS := hbu BS hb9
   replace HB := hbu HB hb9
   replace HZS := sz HZS hb9.size
   clear hb9
   have out_ := Hout.out.c2
   have bs_ := Hbs.out.c2
   go_wp2_with fail
   have HST5 := Lib.hid (HST.out.up BS.out)
   have HSP5 := Lib.hid (fun r hr => (HSP.out r hr).up BS.out)
   have HGL := Lib.hid (Nat.lt_of_lt_of_le HG.out.lt BS.out.size)
   have HZW := Lib.hid HB.out.size
   have HZB := Lib.hid BS.out.size
   have HKK := Lib.hid (show ((grp k.toNat).kind : Int) = k by rw [grp_kind k.toNat (by have := HK9.out; omega) (by have := HK9.out; omega)]; have := HK9.out; omega)
   have BQ := Lib.hid (Below.refl w4.heap.size w4)
   refine (HF1.out gb w4 (HG.out.up BS.out)).mono ?_
   rintro e wa ⟨tb, rfl, hge, ht, hb9⟩
   rw [HKK.out] at ht
   have HGE := Lib.hid (show w4.heap.size ≤ tb from hge)
   have Ht := Lib.hid (show Bx wa tb 192 [.string (BT k)] from ht)
   clear hge ht out_
   replace Hout := Lib.hid (Hout.out.up hb9)
   clear bs_
   replace Hbs := Lib.hid (Hbs.out.up hb9)
   replace BS := hbu BS hb9
   replace BQ := hbu BQ hb9
   replace HB := hbu HB hb9
   replace HZS := sz HZS hb9.size
   clear hb9
   have out_ := Hout.out.c2
   have bs_ := Hbs.out.c2
   replace HZS := sz HZS HGE.out
   replace HZS := sz HZS HZW.out
   replace HZS := sz HZS HZB.out
   have t_ := Ht.out.c1
   go_wp2_with fail
   refine (HF2.out _ tb rs HRK.out HSY.out qa qc w4 wa BQ.out HGE.out Ht.out HST5.out HSP5.out).mono ?_
   rintro e wb ⟨rfl, ht, hk⟩
   have HK1 := Lib.hid hk
   have Ht1 := Lib.hid (show Bx wb tb 192 [.string t1] from ht)
   clear ht hk
   have hg9 := HK1.out
   clear out_ bs_ t_ Ht
   replace Hout := Lib.hid (Hout.out.keptP hg9 (show ¬ (_ = tb) by have g0 := HZS.out; omega))
   replace Hbs := Lib.hid (Hbs.out.keptP hg9 (show ¬ (_ = tb) by have g0 := HZS.out; omega))
   replace BS := Lib.hid (Below.keptP BS.out hg9 (by have g0 := HZS.out; omega) (fun q9 h9 => (show w2.heap.size ≤ _ by subst h9; have g0 := HZS.out; omega)))
   replace BQ := Lib.hid (Below.keptP BQ.out hg9 (by have g0 := HZS.out; omega) (fun q9 h9 => (show w4.heap.size ≤ _ by subst h9; have g0 := HZS.out; omega)))
   replace HB := Lib.hid (Below.keptP HB.out hg9 (by have g0 := HZS.out; omega) (fun q9 h9 => (show w.heap.size ≤ _ by subst h9; have g0 := HZS.out; omega)))
   replace HZS := sz HZS (show wa.heap.size ≤ wb.heap.size from hg9.size)
   clear hg9
   have out_ := Hout.out.c2
   have bs_ := Hbs.out.c2
   have Ht := Ht1
   clear Ht1
   have t_ := Ht.out.c1
   have HTL := Lib.hid Ht.out.lt
   replace HZS := sz HZS HTL.out
   have BP := Lib.hid (Below.refl wb.heap.size wb)
   go_wp2_with fail
   have HT := Lib.hid (show Below wb.heap.size wb wb.drew from (Below.refl _ _).drew)
   have hl_out := Hout.out.lt
   have hl_bs := Hbs.out.lt
   have hl_t := Ht.out.lt
   refine wp_region_tree (fun wq9 => ∃ E : Over wb, wq9 = E.w) ((.qs [0, 1, 2] (.a 3 (.a 4 (.qs [5] .done))))) (by kernel_rfl) (by kernel_rfl) (fun _ _ d _ _ h => by cases d <;> exact h) ⟨⟨_, HT.out⟩, rfl⟩ ?_
   have hov_out := fun (E : Over wb) o => E.cell (b := w.heap.size) o hl_out
   have hov_bs := fun (E : Over wb) o => E.cell (b := w2.heap.size) o hl_bs
   have hov_t := fun (E : Over wb) o => E.cell (b := tb) o hl_t
   simp only [Tree.qs]
   repeat (refine tree_q rfl rfl ?_; go_big_quiet_step (fail); refine wpQuiet_nil ?_)
   refine tree_a rfl (fun K hK => ?_)
   go_simp
   refine (HF3.out tb _ (Bx.up Ht.out HT.out)).mono ?_
   rintro e wc ⟨fb, rfl, hfg, hft, hfb⟩
   replace HT := Lib.hid (below_up HT.out hfb)
   have HFG := Lib.hid (show wb.heap.size ≤ fb from hfg)
   have HFT := Lib.hid hft
   refine hK _ _ ⟨⟨⟨wc, HT.out⟩, rfl⟩, ?_⟩
   have HWC := Lib.hid (show wb.heap.size ≤ wc.heap.size from hfb.size)
   clear hK K hfg hft hfb
   repeat (refine tree_q rfl rfl ?_; go_big_quiet_step (fail); refine wpQuiet_nil ?_)
   refine tree_a rfl (fun K hK => ?_)
   go_simp
   refine (HF4.out gb fb qa qc _ ((HG.out.up BS.out).up HT.out) HFT.out (show ¬ gb = fb by have h1 := HGL.out; have h2 := HFG.out; have h3 := HZS.out; omega)).mono ?_
   rintro e wd ⟨a2, c2, rfl, hs2, hf2, ht2, hk2⟩
   have HS2 := Lib.hid hs2
   have HFR := Lib.hid hf2
   replace HT := Lib.hid (Below.keptP HT.out hk2 HT.out.size (fun q hq => hq ▸ HFG.out))
   refine hK _ _ ⟨⟨⟨wd, HT.out⟩, rfl⟩, ?_⟩
   clear hK K hs2 hf2 ht2 hk2 HFT
   repeat (refine tree_q rfl rfl ?_; go_big_quiet_step (fail); refine wpQuiet_nil ?_)
   refine tree_end ?_
   clear hov_out hl_out hov_bs hl_bs hov_t hl_t out_
   replace Hout := Lib.hid (Hout.out.up HT.out)
   clear bs_
   replace Hbs := Lib.hid (Hbs.out.up HT.out)
   clear t_
   replace Ht := Lib.hid (Ht.out.up HT.out)
   replace BS := hbu BS HT.out
   replace BQ := hbu BQ HT.out
   replace BP := hbu BP HT.out
   replace HK1 := Lib.hid (Kept.up HK1.out HT.out)
   replace HB := hbu HB HT.out
   replace HZS := sz HZS HT.out.size
   clear HT
   have out_ := Hout.out.c2
   have bs_ := Hbs.out.c2
   have t_ := Ht.out.c1
   have BD := Lib.hid (Below.refl wd.heap.size wd)
   go_wp2_with fail
   have HFE := Lib.hid (show eachA (grp k.toNat) (valF (grp k.toNat) (rs.map ClaimR.k) NL) (lens (rs.map ClaimR.k)) l.length = PF by rw [HRK.out]; exact HFF.out.symm)
   refine (firsts_any (grp k.toNat) OK.out gb rs l.length HRL.out hl64 (fun r hr => (HSHP.out r hr).1) qa qc NL HNL.out a2 c2 wd (HG.out.up BS.out) (HST.out.up BS.out) HS2.out).mono ?_
   rintro e w5 ⟨hb9, a9, c9, ro, rfl, hm9, hr9, hz9⟩
   clear out_
   replace Hout := Lib.hid (Hout.out.up hb9)
   clear bs_
   replace Hbs := Lib.hid (Hbs.out.up hb9)
   clear t_
   replace Ht := Lib.hid (Ht.out.up hb9)
   replace BS := hbu BS hb9
   replace BQ := hbu BQ hb9
   replace BP := hbu BP hb9
   replace BD := hbu BD hb9
   replace HK1 := Lib.hid (Kept.up HK1.out hb9)
   replace HB := hbu HB hb9
   replace HZS := sz HZS hb9.size
   have HMR := Lib.hid hm9
   clear hm9
   have HRR := Lib.hid hr9
   clear hr9
   have HZR := Lib.hid hz9
   clear hz9 hb9
   have out_ := Hout.out.c2
   have bs_ := Hbs.out.c2
   have t_ := Ht.out.c1
   rw [HFE.out] at HMR
   rw [HFE.out, ← HMR.out, List.length_map]
   go_wp2_with fail
   refine (HF5.out tb ro HMR.out (eachA_small OK.out.size_le (lens_small fun c hc => by obtain ⟨r, hr, rfl⟩ := List.mem_map.1 hc; exact (HSHP.out r hr).1) (HMR.out.trans HFE.out.symm)) (fun r hr => (HZR.out.1 r hr).2) a9 c9 w5 Ht.out HRR.out (fun x hx e => by have h1 := HZR.out.2.1 x hx; have h2 := HTL.out; have h3 := HZS.out; omega) (fun r hr x hx e => by have h1 := HZR.out.2.2 r hr x hx; have h2 := HTL.out; have h3 := HZS.out; omega)).mono ?_
   rintro e we ⟨rfl, ht, hk⟩
   have HK2 := Lib.hid hk
   have Ht1 := Lib.hid (show Bx we tb 192 [.string t3] from ht)
   have HS9 := Lib.hid (Sl.kept (HS2.out.up BD.out) hk (fun x hx e => by have h1 := HFR.out x hx; have h2 := HTL.out; have h3 := HWC.out; omega))
   clear ht hk BP BD
   have hg9 := HK2.out
   clear out_ bs_ t_ Ht
   replace Hout := Lib.hid (Hout.out.keptP hg9 (show ¬ (_ = tb) by have g0 := HZS.out; omega))
   replace Hbs := Lib.hid (Hbs.out.keptP hg9 (show ¬ (_ = tb) by have g0 := HZS.out; omega))
   replace BS := Lib.hid (Below.keptP BS.out hg9 (by have g0 := HZS.out; omega) (fun q9 h9 => (show w2.heap.size ≤ _ by subst h9; have g0 := HZS.out; omega)))
   replace BQ := Lib.hid (Below.keptP BQ.out hg9 (by have g0 := HZS.out; omega) (fun q9 h9 => (show w4.heap.size ≤ _ by subst h9; have g0 := HZS.out; omega)))
   replace HB := Lib.hid (Below.keptP HB.out hg9 (by have g0 := HZS.out; omega) (fun q9 h9 => (show w.heap.size ≤ _ by subst h9; have g0 := HZS.out; omega)))
   replace HZS := sz HZS (show w5.heap.size ≤ we.heap.size from hg9.size)
   clear hg9
   have out_ := Hout.out.c2
   have bs_ := Hbs.out.c2
   have Ht := Ht1
   clear Ht1
   have t_ := Ht.out.c1
   go_wp2_with fail
   refine (HF6.out gb tb we (HG.out.up BS.out) Ht.out (show ¬ gb = tb by have h1 := HGL.out; have h2 := HGE.out; omega)).mono ?_
   rintro e wf ⟨rfl, ht, hk⟩
   have HK3 := Lib.hid hk
   have HS8 := Lib.hid (Sl.kept HS9.out hk (fun x hx e => by have h1 := HFR.out x hx; have h2 := HTL.out; have h3 := HWC.out; omega))
   clear ht hk HS9
   have hg9 := HK3.out
   clear out_ bs_ t_ Ht
   replace Hout := Lib.hid (Hout.out.keptP hg9 (show ¬ (_ = tb) by have g0 := HZS.out; omega))
   replace Hbs := Lib.hid (Hbs.out.keptP hg9 (show ¬ (_ = tb) by have g0 := HZS.out; omega))
   replace BS := Lib.hid (Below.keptP BS.out hg9 (by have g0 := HZS.out; omega) (fun q9 h9 => (show w2.heap.size ≤ _ by subst h9; have g0 := HZS.out; omega)))
   replace BQ := Lib.hid (Below.keptP BQ.out hg9 (by have g0 := HZS.out; omega) (fun q9 h9 => (show w4.heap.size ≤ _ by subst h9; have g0 := HZS.out; omega)))
   replace HB := Lib.hid (Below.keptP HB.out hg9 (by have g0 := HZS.out; omega) (fun q9 h9 => (show w.heap.size ≤ _ by subst h9; have g0 := HZS.out; omega)))
   replace HZS := sz HZS (show we.heap.size ≤ wf.heap.size from hg9.size)
   clear hg9
   have out_ := Hout.out.c2
   have bs_ := Hbs.out.c2
   have BF := Lib.hid (Below.refl wf.heap.size wf)
   unfold scV limbV
   have o6_out_ := out_; clear out_
   have o6_bs_ := bs_; clear bs_
   obtain ⟨w6, hq6, hb9, hz9, Hbc⟩ := new1 wf 72 [.int .u64 (dig (mont (grp k.toNat).q.m PN) 0 : Int), .int .u64 (dig (mont (grp k.toNat).q.m PN) 1 : Int), .int .u64 (dig (mont (grp k.toNat).q.m PN) 2 : Int), .int .u64 (dig (mont (grp k.toNat).q.m PN) 3 : Int)]
   replace Hout := Lib.hid (Hout.out.up hb9)
   replace Hbs := Lib.hid (Hbs.out.up hb9)
   replace BS := hbu BS hb9
   replace BQ := hbu BQ hb9
   replace BF := hbu BF hb9
   replace HK3 := Lib.hid (Kept.up HK3.out hb9)
   replace HB := hbu HB hb9
   replace HZS := sz HZS hz9.out
   clear hb9 hz9
   have out_ := Hout.out.c2
   have bs_ := Hbs.out.c2
   have bc_ := Hbc.out.c4
   go_wp2_with fail
   clear hq6 o6_bs_ o6_out_
   have HGW := Lib.hid (HG.out.up BS.out)
   have HSW := Lib.hid (HS8.out.up BF.out)
   have HXW := Lib.hid (HXX.out.up BS.out)
   clear BS BQ BF HK3
   have HT := Lib.hid (show Below w6.heap.size w6 w6.drew from (Below.refl _ _).drew)
   have hl_bs := Hbs.out.lt
   have hl_bc := Hbc.out.lt
   refine wp_region_tree (fun wq9 => ∃ E : But w6 (some (w.heap.size)), wq9 = E.w) ((.qs [0, 1, 2, 4, 5, 6, 7] (.a 3 (.a 8 (.qs [9] (.a 10 (.qs [11] .done))))))) (by kernel_rfl) (by kernel_rfl) (fun _ _ d _ _ h => by cases d <;> exact h) ⟨⟨_, ((below_grown HT.out).but _)⟩, rfl⟩ ?_
   have hov_bs := fun (E : But w6 (some (w.heap.size))) o => E.cell (b := w2.heap.size) o hl_bs (by intro e9; have a0 := Option.some.inj e9; have g0 := HZS.out; omega)
   have hov_bc := fun (E : But w6 (some (w.heap.size))) o => E.cell (b := wf.heap.size) o hl_bc (by intro e9; have a0 := Option.some.inj e9; have g0 := HZS.out; omega)
   simp only [Tree.qs]
   repeat (refine tree_q rfl rfl ?_; go_big_quiet_step (fail); refine wpQuiet_nil ?_)
   refine tree_a rfl (fun K hK => ?_)
   go_simp
   refine (gPut_any (grp k.toNat) OK.out gb PN _ (HGW.out.up HT.out)).mono ?_
   rintro e w7 ⟨rfl, hb9⟩
   replace HT := Lib.hid (below_up HT.out hb9)
   replace HZS := sz HZS (show w6.heap.size ≤ w7.heap.size from HT.out.size)
   clear hb9
   refine hK _ _ ⟨⟨⟨w7, ((below_grown HT.out).but _)⟩, rfl⟩, ?_⟩
   clear hK K
   repeat (refine tree_q rfl rfl ?_; go_big_quiet_step (fail); refine wpQuiet_nil ?_)
   refine tree_a rfl (fun K hK => ?_)
   go_simp
   refine (answers_any (grp k.toNat) OK.out gb PN qa l.length qc NL xs l.length HNL.out HXL.out hl64 a2 a' c2 c' _ (HGW.out.up HT.out) (HSW.out.up HT.out) (HXW.out.up HT.out)).mono ?_
   rintro e w8 ⟨a5, c5, rfl, hs5, hf5, hc5, hc6, hb9⟩
   replace HT := Lib.hid (below_up HT.out hb9)
   replace HZS := sz HZS (show w6.heap.size ≤ w8.heap.size from HT.out.size)
   clear hb9
   have HS5 := Lib.hid hs5
   clear hs5
   have HF5 := Lib.hid hf5
   clear hf5
   have HC5 := Lib.hid hc5
   clear hc5
   have HC6 := Lib.hid hc6
   clear hc6
   refine hK _ _ ⟨⟨⟨w8, ((below_grown HT.out).but _)⟩, rfl⟩, ?_⟩
   clear hK K
   repeat (refine tree_q rfl rfl ?_; go_big_quiet_step (fail); refine wpQuiet_nil ?_)
   have HN5 := Lib.hid (show ∀ x, a5 = some x → x.block ≠ w.heap.size from fun x hx e => by have h1 := HF5.out x hx; have h2 := HZS.out; omega)
   clear hov_bs hl_bs hov_bc hl_bc
   refine tree_a rfl (fun K hK => ?_)
   clear out_
   replace Hout := Lib.hid (Hout.out.up HT.out)
   clear bs_
   replace Hbs := Lib.hid (Hbs.out.up HT.out)
   clear bc_
   replace Hbc := Lib.hid (Hbc.out.up HT.out)
   replace HB := hbu HB HT.out
   replace HZS := sz HZS HT.out.size
   have out_ := Hout.out.c2
   have bs_ := Hbs.out.c2
   have bc_ := Hbc.out.c4
   replace HS5 := Lib.hid (Sl.setO HS5.out HN5.out 0 (.string (textS (PN % (grp k.toNat).q.m) (grp k.toNat).size)))
   replace HS5 := Lib.hid (Sl.setO HS5.out HN5.out 1 (.slice a5 l.length c5))
   have f9_out := Hout.out.frozen
   have o9_out_ := out_; clear out_
   have o9_bs_ := bs_; clear bs_
   have o9_bc_ := bc_; clear bc_
   obtain ⟨w9, hq9, hg9, hz9, hx9⟩ := put2 Hout 0 (.string (textS (PN % (grp k.toNat).q.m) (grp k.toNat).size)) 1 (.slice a5 l.length c5) [.string (textS (PN % (grp k.toNat).q.m) (grp k.toNat).size), .slice a5 l.length c5] rfl
   replace Hbs := Lib.hid (Hbs.out.grown hg9.out (sne (by have g0 := HZS.out; omega)))
   replace Hbc := Lib.hid (Hbc.out.grown hg9.out (sne (by have g0 := HZS.out; omega)))
   replace HB := hbg HB hg9 (by have g0 := HZS.out; omega)
   replace HZS := sz HZS hz9.out
   replace Hout := hx9
   have HGR := Lib.hid (((below_grown HT.out).but _).trans hg9.out)
   clear hx9 hg9 hz9
   have out_ := Hout.out.c2
   have bs_ := Hbs.out.c2
   have bc_ := Hbc.out.c4
   rw [hq9] at HS5
   clear HT
   go_simp
   try rw [hq9]
   refine hK _ _ ⟨⟨⟨w9, HGR.out⟩, rfl⟩, ?_⟩
   clear hK K HGR hq9 o9_bc_ o9_bs_ o9_out_ f9_out
   repeat (refine tree_q rfl rfl ?_; go_big_quiet_step (fail); refine wpQuiet_nil ?_)
   refine tree_end ?_
   go_wp2_with fail
   have HPL := Lib.hid (show PA.length = l.length by rw [HRA.out]; exact ansL_len _ _ HNL.out HXL.out)
   have HFP := Lib.hid (show ∀ x, a5 = some x → w.heap.size ≤ x.block from fun x hx => by have h1 := HF5.out x hx; have h2 := HZS.out; omega)
   have HRP := Lib.hid (show ∀ W, Below w.heap.size w W → Sl W W.heap.size a5 ((ansL (grp k.toNat) PN NL xs).map Value.string) → ProveR 0 PC PA w (.returned (.tuple #[.agg #[.string (textS (PN % (grp k.toNat).q.m) (grp k.toNat).size), .slice a5 l.length c5], .int .i64 0])) W from fun W h1 h2 => ⟨h1, a5, c5, by rw [HRC.out, HPL.out], by rw [HRA.out]; exact h2, fun e => HC6.out e, by rw [HPL.out]; exact HC5.out, HFP.out⟩)
   simp [bodyPost, results, Tryz.results14, go_sem, out_]
   exact HRP.out _ HB.out HS5.out
 ·have HE2 := Lib.hid (show prvE k l xs = z by rw [HE.out, if_neg h0])
  rw [HE2.out, if_neg h0, if_neg h0]
  have hd : ((z : Int) != 0) = true := by simp; omega
  clear h0 hz HE HE2
  go_enter Tryz.func14, Tryz.ntmps14
  go_wp2_with fail
  obtain ⟨w1, hq1, hb9, hz9, Hout⟩ := new1 w 25 [.string ⟨#[]⟩, .slice none 0 0]
  rw [hq1]
  clear hq1
  have HB := Lib.hid hb9
  have HZS := hz9
  clear hb9 hz9
  have out_ := Hout.out.c2
  go_wp2_with fail
  refine (HO.out _ HB.out).mono ?_
  rintro e w2 ⟨hb9, pp, qa, qn, qc, v, rfl, _⟩
  clear out_
  replace Hout := Lib.hid (Hout.out.up hb9)
  replace HB := hbu HB hb9
  replace HZS := sz HZS hb9.size
  clear hb9
  have out_ := Hout.out.c2
  have o3_out_ := out_; clear out_
  obtain ⟨w3, hq3, hb9, hz9, Hbs⟩ := new1 w2 64 [.pointer pp, .slice qa qn qc]
  replace Hout := Lib.hid (Hout.out.up hb9)
  replace HB := hbu HB hb9
  replace HZS := sz HZS hz9.out
  clear hb9 hz9
  have out_ := Hout.out.c2
  have bs_ := Hbs.out.c2
  have f4_out := Hout.out.frozen
  have o4_out_ := out_; clear out_
  have o4_bs_ := bs_; clear bs_
  obtain ⟨w4, hq4, hg9, hz9, hx9⟩ := put2 Hout 0 (.string ⟨#[]⟩) 1 (.slice none 0 0) [.string ⟨#[]⟩, .slice none 0 0] rfl
  replace Hbs := Lib.hid (Hbs.out.grown hg9.out (sne (by have g0 := HZS.out; omega)))
  replace HB := hbg HB hg9 (by have g0 := HZS.out; omega)
  replace HZS := sz HZS hz9.out
  replace Hout := hx9
  clear hx9 hg9 hz9
  have out_ := Hout.out.c2
  have bs_ := Hbs.out.c2
  go_wp2_with fail
  clear hq4 o4_bs_ o4_out_ f4_out hq3 o3_out_
  simp [bodyPost, results, Tryz.results14, go_sem, out_]
  exact proveR_none _ HB.out
end Go.Proofs.YtdlnnkbigeiilaaGreat
namespace Go.Proofs.YtdlnnkbigeiilaaGreat
open Go.RowKit
def ownA (ab ai : Option Addr) (cb ci : Nat) (B p : ByteArray) : ClaimA := ⟨ab, cb, [B], ai, ci, [p]⟩
def ownC (B p : ByteArray) : ClaimA := ownA none none 0 0 B p
theorem own_prvE (k : Int) (ab ai : Option Addr) (cb ci : Nat) (B p : ByteArray) (xs : List ByteArray) : prvE k [ownA ab ai cb ci B p] xs = prvE k [ownC B p] xs := by
 have h1 : openK k [ownA ab ai cb ci B p] xs = openK k [ownC B p] xs := rfl
 have h2 : holdP (grp k.toNat) [ownA ab ai cb ci B p] xs = holdP (grp k.toNat) [ownC B p] xs := by cases xs <;> rfl
 unfold prvE
 rw [h1, h2]
theorem own_prvC (k : Int) (label seed : ByteArray) (ab ai : Option Addr) (cb ci : Nat) (B p : ByteArray) : prvC k label [ownA ab ai cb ci B p] seed = prvC k label [ownC B p] seed := rfl
theorem own_prvA (k : Int) (label seed : ByteArray) (ab ai : Option Addr) (cb ci : Nat) (B p : ByteArray) (xs : List ByteArray) : prvA k label [ownA ab ai cb ci B p] xs seed = prvA k label [ownC B p] xs seed := rfl
theorem own_verK (k : Int) (label : ByteArray) (ab ai : Option Addr) (cb ci : Nat) (B p ch : ByteArray) (xs : List ByteArray) : verK k label [ownA ab ai cb ci B p] ch xs = verK k label [ownC B p] ch xs := rfl
theorem own_any (G : GP) (ok : G.Ok) (gb : Nat) (p : ByteArray) (w : World) (hG : GroupAt w gb G) :
  Calls Tryz.prog 82 #[.pointer (some ⟨gb, 0, none⟩), .string p] w fun e w' => ∃ ab ai a : Option Addr, e = .returned (.slice a 1 1) ∧ ClaimsAt w' a [ownA ab ai 1 1 (textS (lowN G 2) G.size) p] ∧ Below w.heap.size w w' := by
 have OK := Lib.hid ok
 have HG := Lib.hid hG
 clear hG ok
 go_enter Tryz.func82, Tryz.ntmps82
 go_wp2_with fail
 refine (gBase_any G OK.out gb w HG.out).mono ?_
 rintro e w1 ⟨rfl, hb9⟩
 have HB := Lib.hid hb9
 have HZS := Lib.hid hb9.size
 clear hb9
 go_wp2_with fail
 refine (gText_any G OK.out gb 2 w1 (HG.out.up HB.out)).mono ?_
 rintro e w2 ⟨rfl, hb9⟩
 replace HB := hbu HB hb9
 replace HZS := sz HZS hb9.size
 clear hb9
 obtain ⟨w3, hq3, hb9, hz9, Hrb, Hri, Hrc⟩ := new3 w2 9 [.string (textS (lowN G 2) G.size)] 9 [.string p] 50 [.slice (some ⟨w2.heap.size, 0, none⟩) 1 1, .slice (some ⟨w2.heap.size + 1, 0, none⟩) 1 1]
 replace HB := hbu HB hb9
 replace HZS := sz HZS hz9.out
 clear hb9 hz9
 have rb_ := Hrb.out.c1
 have ri_ := Hri.out.c1
 have rc_ := Hrc.out.c2
 go_wp2_with fail
 clear hq3
 go_ret
 exact ⟨_, _, _, rfl, ⟨Sl.ofB Hrc.out, fun c hc => by rw [List.mem_singleton.1 hc]; exact ⟨Sl.ofB Hrb.out, Sl.ofB Hri.out⟩⟩, HB.out⟩
end Go.Proofs.YtdlnnkbigeiilaaGreat
namespace Go.Proofs.YtdlnnkbigeiilaaGreat
open Go.RowKit
def ciphV (a b : ByteArray) : Value := .agg #[.string a, .string b]
theorem gRaise_any (G : GP) (ok : G.Ok) (gb x : Nat) (w : World) (hG : GroupAt w gb G) :
  Calls Tryz.prog 79 #[.pointer (some ⟨gb, 0, none⟩), scV G x] w (Gives (elV G (2 ^ (x % G.q.m))) w) := by
 have OK := Lib.hid ok
 clear ok
 unfold elV scV limbV Gives
 go_enter Tryz.func79, Tryz.ntmps79
 go_wp2_with fail
 obtain ⟨W0, hW0⟩ : ∃ W9 : World, ((w.alloc (Obj.cells #[.int .u64 (dig (mont G.q.m x) 0 : Int), .int .u64 (dig (mont G.q.m x) 1 : Int), .int .u64 (dig (mont G.q.m x) 2 : Int), .int .u64 (dig (mont G.q.m x) 3 : Int)] 72)).alloc (Obj.cells #[.int .u64 0, .int .u64 0, .int .u64 0, .int .u64 0] 127)) = W9 := ⟨_, rfl⟩
 rw [hW0]
 have hA : Bx W0 (w.heap.size) 72 [.int .u64 (dig (mont G.q.m x) 0 : Int), .int .u64 (dig (mont G.q.m x) 1 : Int), .int .u64 (dig (mont G.q.m x) 2 : Int), .int .u64 (dig (mont G.q.m x) 3 : Int)] := by
  rw [← hW0]
  have h := ((Bx.new w 72 [.int .u64 (dig (mont G.q.m x) 0 : Int), .int .u64 (dig (mont G.q.m x) 1 : Int), .int .u64 (dig (mont G.q.m x) 2 : Int), .int .u64 (dig (mont G.q.m x) 3 : Int)] _ rfl).alloc (Obj.cells #[.int .u64 0, .int .u64 0, .int .u64 0, .int .u64 0] 127))
  exact h
 have hC : Bx W0 (w.heap.size + 1) 127 [.int .u64 0, .int .u64 0, .int .u64 0, .int .u64 0] := by
  rw [← hW0]
  have h := (Bx.new (w.alloc (Obj.cells #[.int .u64 (dig (mont G.q.m x) 0 : Int), .int .u64 (dig (mont G.q.m x) 1 : Int), .int .u64 (dig (mont G.q.m x) 2 : Int), .int .u64 (dig (mont G.q.m x) 3 : Int)] 72)) 127 [.int .u64 0, .int .u64 0, .int .u64 0, .int .u64 0] _ rfl)
  rw [World.size_alloc] at h
  exact h
 have hBW : Below w.heap.size w W0 := by rw [← hW0]; exact (((Below.refl w.heap.size w).alloc (Nat.le_refl _) _).alloc (by simp) _)
 clear hW0
 have hG0 := hG.up hBW
 have hgl := hG0.lt
 have ha_0 := hA.cell (i := 0) rfl
 have ha_1 := hA.cell (i := 1) rfl
 have ha_2 := hA.cell (i := 2) rfl
 have ha_3 := hA.cell (i := 3) rfl
 have hla := hA.lt
 have HC := Lib.hid hC
 have HBW := Lib.hid hBW
 clear hA hC hBW hG
 refine wp_region_otail 5 (by kernel_rfl) (by kernel_rfl) ?_
 simp only [List.take_succ_cons, List.take_zero, List.drop_succ_cons, List.drop_zero]
 have hova := fun (E : Over W0) o => E.cell (b := w.heap.size) o hla
 repeat (go_big_quiet_step (first | (go_at_call 130; exact calls_over (gBase_any G OK.out gb _ (hG0.up (Over.h _)))) | (go_at_call 103; exact calls_over (gPower_any G OK.out gb _ _ _ (hG0.up (Over.h _))))))
 all_goals (try unfold elV limbV)
 repeat (go_big_quiet_step (first | (go_at_call 130; exact calls_over (gBase_any G OK.out gb _ (hG0.up (Over.h _)))) | (go_at_call 103; exact calls_over (gPower_any G OK.out gb _ _ _ (hG0.up (Over.h _))))))
 all_goals (try unfold elV limbV)
 repeat (go_big_quiet_step (first | (go_at_call 130; exact calls_over (gBase_any G OK.out gb _ (hG0.up (Over.h _)))) | (go_at_call 103; exact calls_over (gPower_any G OK.out gb _ _ _ (hG0.up (Over.h _))))))
 refine wpQuiet_nil ?_
 rintro _ ⟨E, rfl⟩
 have HZ := Lib.hid (HC.out.below E.h HC.out.lt)
 have HBB := Lib.hid (below_up HBW.out E.h)
 clear hova
 generalize E.w = w3 at *
 have HS5 : Hid (Bx ((((w3.setCell ⟨w.heap.size + 1, 0, none⟩ (.int .u64 (dig (mont G.p.m (2 ^ (x % G.q.m))) 0 : Int))).setCell ⟨w.heap.size + 1, 1, none⟩ (.int .u64 (dig (mont G.p.m (2 ^ (x % G.q.m))) 1 : Int))).setCell ⟨w.heap.size + 1, 2, none⟩ (.int .u64 (dig (mont G.p.m (2 ^ (x % G.q.m))) 2 : Int))).setCell ⟨w.heap.size + 1, 3, none⟩ (.int .u64 (dig (mont G.p.m (2 ^ (x % G.q.m))) 3 : Int))) (w.heap.size + 1) 127 [.int .u64 (dig (mont G.p.m (2 ^ (x % G.q.m))) 0 : Int), .int .u64 (dig (mont G.p.m (2 ^ (x % G.q.m))) 1 : Int), .int .u64 (dig (mont G.p.m (2 ^ (x % G.q.m))) 2 : Int), .int .u64 (dig (mont G.p.m (2 ^ (x % G.q.m))) 3 : Int)]) := ((((HZ.out.set 0 (.int .u64 (dig (mont G.p.m (2 ^ (x % G.q.m))) 0 : Int))).set 1 (.int .u64 (dig (mont G.p.m (2 ^ (x % G.q.m))) 1 : Int))).set 2 (.int .u64 (dig (mont G.p.m (2 ^ (x % G.q.m))) 2 : Int))).set 3 (.int .u64 (dig (mont G.p.m (2 ^ (x % G.q.m))) 3 : Int)))
 have HB5 : Hid (Below w.heap.size w ((((w3.setCell ⟨w.heap.size + 1, 0, none⟩ (.int .u64 (dig (mont G.p.m (2 ^ (x % G.q.m))) 0 : Int))).setCell ⟨w.heap.size + 1, 1, none⟩ (.int .u64 (dig (mont G.p.m (2 ^ (x % G.q.m))) 1 : Int))).setCell ⟨w.heap.size + 1, 2, none⟩ (.int .u64 (dig (mont G.p.m (2 ^ (x % G.q.m))) 2 : Int))).setCell ⟨w.heap.size + 1, 3, none⟩ (.int .u64 (dig (mont G.p.m (2 ^ (x % G.q.m))) 3 : Int)))) := ((((HBB.out.setCell (show w.heap.size ≤ w.heap.size + 1 by omega) _).setCell (show w.heap.size ≤ w.heap.size + 1 by omega) _).setCell (show w.heap.size ≤ w.heap.size + 1 by omega) _).setCell (show w.heap.size ≤ w.heap.size + 1 by omega) _)
 have hz_0 := HZ.out.cell (i := 0) rfl
 have hz_1 := HZ.out.cell (i := 1) rfl
 have hz_2 := HZ.out.cell (i := 2) rfl
 have hz_3 := HZ.out.cell (i := 3) rfl
 have hzf_0 := HZ.out.frozen 0
 have hzf_1 := HZ.out.frozen 1
 have hzf_2 := HZ.out.frozen 2
 have hzf_3 := HZ.out.frozen 3
 go_wp2_with fail
 generalize ((((w3.setCell ⟨w.heap.size + 1, 0, none⟩ (.int .u64 (dig (mont G.p.m (2 ^ (x % G.q.m))) 0 : Int))).setCell ⟨w.heap.size + 1, 1, none⟩ (.int .u64 (dig (mont G.p.m (2 ^ (x % G.q.m))) 1 : Int))).setCell ⟨w.heap.size + 1, 2, none⟩ (.int .u64 (dig (mont G.p.m (2 ^ (x % G.q.m))) 2 : Int))).setCell ⟨w.heap.size + 1, 3, none⟩ (.int .u64 (dig (mont G.p.m (2 ^ (x % G.q.m))) 3 : Int))) = w5 at *
 clear hz_0 hz_1 hz_2 hz_3
 have hg_0 := HS5.out.cell (i := 0) rfl
 have hg_1 := HS5.out.cell (i := 1) rfl
 have hg_2 := HS5.out.cell (i := 2) rfl
 have hg_3 := HS5.out.cell (i := 3) rfl
 simp [bodyPost, results, Tryz.results79, go_sem, hg_0, hg_1, hg_2, hg_3]
 exact HB5.out
end Go.Proofs.YtdlnnkbigeiilaaGreat
namespace Go.Proofs.YtdlnnkbigeiilaaGreat
open Go.RowKit
end Go.Proofs.YtdlnnkbigeiilaaGreat
namespace Go.Proofs.YtdlnnkbigeiilaaGreat
open Go.RowKit
end Go.Proofs.YtdlnnkbigeiilaaGreat
namespace Go.Proofs.YtdlnnkbigeiilaaGreat
open Go.RowKit
def strE (e : Int) : Value := .tuple #[.string ⟨#[]⟩, .int .i64 e]
end Go.Proofs.YtdlnnkbigeiilaaGreat
namespace Go.Proofs.YtdlnnkbigeiilaaGreat
open Go.RowKit
end Go.Proofs.YtdlnnkbigeiilaaGreat
namespace Go.Proofs.YtdlnnkbigeiilaaGreat
open Go.RowKit
theorem pub_none (k : Int) (hk : ¬ (1 ≤ k ∧ k ≤ 3)) (x : ByteArray) (w : World) : Calls Tryz.prog 20 #[.int .i64 k, .string x] w (Gives (strE 1) w) := by
 unfold Gives strE
 go_enter Tryz.func20, Tryz.ntmps20
 go_wp2_with fail
 refine (of_none k hk _).mono ?_
 rintro e w2 ⟨rfl, rfl⟩
 go_wp2_with fail
 go_ret2
 exact ⟨rfl, Below.refl _ _⟩
theorem pub_some (k : Nat) (h1 : 1 ≤ k) (h3 : k ≤ 3) (x : ByteArray) (bx : Bool) (hx : isSc (grp k).q.m (grp k).size x = bx) (w : World) :
  Calls Tryz.prog 20 #[.int .i64 (k : Int), .string x] w (Gives (if bx then .tuple #[.string (textS (lowN (grp k) (2 ^ (numOf x % (grp k).q.m))) (grp k).size), .int .i64 0] else strE 6) w) := by
 have HX := Lib.hid hx
 have OK := Lib.hid (grp_ok k h1 h3)
 clear hx
 unfold Gives strE
 go_enter Tryz.func20, Tryz.ntmps20
 go_wp2_with fail
 refine (of_some k h1 h3 w).mono ?_
 rintro e w1 ⟨rfl, hg9, hb9⟩
 have HB := Lib.hid hb9
 have HZS := Lib.hid hb9.size
 have HG := Lib.hid hg9
 clear hg9 hb9
 go_wp2_with fail
 refine (gScalar_m (grp k) OK.out _ x bx HX.out w1 HG.out).mono ?_
 rintro e w2 ⟨sn, rfl, hb9, hn9⟩
 replace HG := Lib.hid (HG.out.up hb9)
 replace HB := hbu HB hb9
 replace HZS := sz HZS hb9.size
 have HSN := Lib.hid hn9
 clear hn9 hb9
 unfold limbV
 obtain ⟨w3, hq3, hb9, hz9, Hbn⟩ := new1 w2 72 [.int .u64 (dig (sn) 0 : Int), .int .u64 (dig (sn) 1 : Int), .int .u64 (dig (sn) 2 : Int), .int .u64 (dig (sn) 3 : Int)]
 replace HG := Lib.hid (HG.out.up hb9)
 replace HB := hbu HB hb9
 replace HZS := sz HZS hz9.out
 clear hb9 hz9
 have bn_ := Hbn.out.c4
 cases bx
 ·go_wp2_with fail
  clear hq3
  go_ret2
  exact ⟨rfl, HB.out⟩
 ·obtain rfl := HSN.out rfl
  go_wp2_with fail
  clear hq3
  refine (gRaise_any (grp k) OK.out _ _ w3 HG.out).mono ?_
  rintro e w4 ⟨rfl, hb9⟩
  clear bn_
  replace Hbn := Lib.hid (Hbn.out.up hb9)
  replace HG := Lib.hid (HG.out.up hb9)
  replace HB := hbu HB hb9
  replace HZS := sz HZS hb9.size
  clear hb9
  have bn_ := Hbn.out.c4
  go_wp2_with fail
  refine (gText_any (grp k) OK.out _ _ w4 HG.out).mono ?_
  rintro e w5 ⟨rfl, hb9⟩
  clear bn_
  replace Hbn := Lib.hid (Hbn.out.up hb9)
  replace HG := Lib.hid (HG.out.up hb9)
  replace HB := hbu HB hb9
  replace HZS := sz HZS hb9.size
  clear hb9
  have bn_ := Hbn.out.c4
  go_wp2_with fail
  go_ret2
  exact ⟨rfl, HB.out⟩
end Go.Proofs.YtdlnnkbigeiilaaGreat
namespace Go.Proofs.YtdlnnkbigeiilaaGreat
open Go.RowKit
abbrev signB : ByteArray := ⟨#[115, 105, 103, 110]⟩
def sgnT (text : ByteArray) : ByteArray := tagS signB [text]
theorem sgnT_size (t : ByteArray) : (sgnT t).size = 32 := tagS_size _ _
def baseT (k : Int) : ByteArray := textS (lowN (grp k.toNat) 2) (grp k.toNat).size
def pubS (k : Int) (x : ByteArray) : ByteArray := textS (lowN (grp k.toNat) (2 ^ (numOf x % (grp k.toNat).q.m))) (grp k.toNat).size
def pubE (k : Int) (x : ByteArray) : Nat := if 1 ≤ k ∧ k ≤ 3 then (if isSc (grp k.toNat).q.m (grp k.toNat).size x = true then 0 else 6) else 1
def sgnE (k : Int) (x : ByteArray) : Nat := if pubE k x = 0 then prvE k [ownC (baseT k) (pubS k x)] [x] else pubE k x
def sgnC (k : Int) (x text seed : ByteArray) : ByteArray := if sgnE k x = 0 then prvC k (sgnT text) [ownC (baseT k) (pubS k x)] seed else ⟨#[]⟩
def sgnA (k : Int) (x text seed : ByteArray) : List ByteArray := if sgnE k x = 0 then prvA k (sgnT text) [ownC (baseT k) (pubS k x)] [x] seed else []
def sgdK (k : Int) (p text ch : ByteArray) (xs : List ByteArray) : Bool := decide (1 ≤ k ∧ k ≤ 3) && verK k (sgnT text) [ownC (baseT k) p] ch xs
theorem tag1 {text : ByteArray} (ht : text.size < 140737488355328) (a : Option Addr) (c : Nat) (w : World) (hX : Sl w w.heap.size a [.string text]) :
  Calls Tryz.prog 81 #[.string signB, .slice a 1 c] w fun e w' => e = .returned (.string (sgnT text)) ∧ Below w.heap.size w w' :=
 Tag_any signB [text] 1 rfl (join_small signB [text] 0 (by simp) (by simpa using ht) (by decide)) a c w hX
theorem sSign_er (k er : Int) (hd : (er != 0) = true) (x text seed : ByteArray) (hP : ∀ w, Calls Tryz.prog 20 #[.int .i64 k, .string x] w (Gives (strE er) w)) (w : World) :
  Calls Tryz.prog 22 #[.int .i64 k, .string x, .string text, .string seed] w (ProveR er ⟨#[]⟩ [] w) := by
 unfold Gives strE at hP
 have HP := Lib.hid hP
 clear hP
 go_enter Tryz.func22, Tryz.ntmps22
 go_wp2_with fail
 obtain ⟨w1, hq1, hb9, hz9, Hout⟩ := new1 w 25 [.string ⟨#[]⟩, .slice none 0 0]
 rw [hq1]
 clear hq1
 have HB := Lib.hid hb9
 have HZS := hz9
 clear hb9 hz9
 have out_ := Hout.out.c2
 go_wp2_with fail
 refine (HP.out w1).mono ?_
 rintro e w2 ⟨rfl, hb9⟩
 clear out_
 replace Hout := Lib.hid (Hout.out.up hb9)
 replace HB := hbu HB hb9
 replace HZS := sz HZS hb9.size
 clear hb9
 have out_ := Hout.out.c2
 have f3_out := Hout.out.frozen
 have o3_out_ := out_; clear out_
 obtain ⟨w3, hq3, hg9, hz9, hx9⟩ := put2 Hout 0 (.string ⟨#[]⟩) 1 (.slice none 0 0) [.string ⟨#[]⟩, .slice none 0 0] rfl
 replace HB := hbg HB hg9 (by have g0 := HZS.out; omega)
 replace HZS := sz HZS hz9.out
 replace Hout := hx9
 clear hx9 hg9 hz9
 have out_ := Hout.out.c2
 go_wp2_with fail
 clear hq3 o3_out_ f3_out
 simp [bodyPost, results, Tryz.results22, go_sem, out_]
 exact proveR_none _ HB.out
theorem sSign_ok (k : Nat) (h1 : 1 ≤ k) (h3 : k ≤ 3) (x text seed : ByteArray) (ht : text.size < 140737488355328) (hsd : seed.size < 140737488355328) (hx : isSc (grp k).q.m (grp k).size x = true) (E : Nat) (C : ByteArray) (A : List ByteArray) (hE : prvE k [ownC (baseT k) (pubS k x)] [x] = E) (hC : (if E = 0 then prvC k (sgnT text) [ownC (baseT k) (pubS k x)] seed else ⟨#[]⟩) = C) (hA : (if E = 0 then prvA k (sgnT text) [ownC (baseT k) (pubS k x)] [x] seed else []) = A) (w : World) :
  Calls Tryz.prog 22 #[.int .i64 (k : Int), .string x, .string text, .string seed] w (ProveR (E : Int) C A w) := by
 have OK := Lib.hid (grp_ok k h1 h3)
 have hP := fun w => pub_some k h1 h3 x true hx w
 simp only [if_true] at hP
 unfold Gives at hP
 have HPV := Lib.hid (fun ab ai ao ax w (hc : ClaimsAt w ao [ownA ab ai 1 1 (baseT k) (pubS k x)]) (hs : Sl w w.heap.size ax [.string x]) => sProve_any k (sgnT text) (by rw [sgnT_size]; decide) [ownA ab ai 1 1 (baseT k) (pubS k x)] ao 1 [x] ax 1 (by simp) seed hsd (by intro c hc; rw [List.mem_singleton.1 hc]; exact ⟨Nat.le_refl _, Nat.le_refl _⟩) w hc hs)
 simp only [own_prvE, own_prvC, own_prvA, hE, hC, hA, List.length_singleton] at HPV
 have HTG := Lib.hid (fun a c w h => tag1 ht a c w h)
 have HOW := Lib.hid (fun gb p w h => own_any (grp k) OK.out gb p w h)
 rw [show textS (lowN (grp k) 2) (grp k).size = baseT k from rfl] at HOW
 rw [show textS (lowN (grp k) (2 ^ (numOf x % (grp k).q.m))) (grp k).size = pubS k x from rfl] at hP
 have HP := Lib.hid hP
 generalize baseT k = BT at *
 generalize pubS k x = PS at *
 generalize sgnT text = TT at *
 clear hP hE hC hA hx ht hsd
 go_enter Tryz.func22, Tryz.ntmps22
 go_wp2_with fail
 obtain ⟨w1, hq1, hb9, hz9, Hout⟩ := new1 w 25 [.string ⟨#[]⟩, .slice none 0 0]
 rw [hq1]
 clear hq1
 have HB := Lib.hid hb9
 have HZS := hz9
 clear hb9 hz9
 have out_ := Hout.out.c2
 go_wp2_with fail
 refine (HP.out w1).mono ?_
 rintro e w2 ⟨rfl, hb9⟩
 clear out_
 replace Hout := Lib.hid (Hout.out.up hb9)
 replace HB := hbu HB hb9
 replace HZS := sz HZS hb9.size
 clear hb9
 have out_ := Hout.out.c2
 have o3_out_ := out_; clear out_
 obtain ⟨w3, hq3, hb9, hz9, Hrt⟩ := new1 w2 9 [.string text]
 replace Hout := Lib.hid (Hout.out.up hb9)
 replace HB := hbu HB hb9
 replace HZS := sz HZS hz9.out
 clear hb9 hz9
 have out_ := Hout.out.c2
 have rt_ := Hrt.out.c1
 go_wp2_with fail
 clear hq3 o3_out_
 refine (HTG.out _ _ w3 (Sl.ofB Hrt.out)).mono ?_
 rintro e w4 ⟨rfl, hb9⟩
 clear out_
 replace Hout := Lib.hid (Hout.out.up hb9)
 clear rt_
 replace Hrt := Lib.hid (Hrt.out.up hb9)
 replace HB := hbu HB hb9
 replace HZS := sz HZS hb9.size
 clear hb9
 have out_ := Hout.out.c2
 have rt_ := Hrt.out.c1
 go_wp2_with fail
 refine (of_some k h1 h3 w4).mono ?_
 rintro e w5 ⟨rfl, hg9, hb9⟩
 clear out_
 replace Hout := Lib.hid (Hout.out.up hb9)
 clear rt_
 replace Hrt := Lib.hid (Hrt.out.up hb9)
 replace HB := hbu HB hb9
 replace HZS := sz HZS hb9.size
 have HG := Lib.hid hg9
 clear hg9 hb9
 have out_ := Hout.out.c2
 have rt_ := Hrt.out.c1
 go_wp2_with fail
 refine (HOW.out _ PS w5 HG.out).mono ?_
 rintro e w6 ⟨ab, ai, ao, rfl, hc9, hb9⟩
 clear out_
 replace Hout := Lib.hid (Hout.out.up hb9)
 clear rt_
 replace Hrt := Lib.hid (Hrt.out.up hb9)
 replace HG := Lib.hid (HG.out.up hb9)
 replace HB := hbu HB hb9
 replace HZS := sz HZS hb9.size
 have HC := Lib.hid hc9
 clear hc9 hb9
 have out_ := Hout.out.c2
 have rt_ := Hrt.out.c1
 have o7_out_ := out_; clear out_
 have o7_rt_ := rt_; clear rt_
 obtain ⟨w7, hq7, hb9, hz9, Hrs⟩ := new1 w6 9 [.string x]
 replace Hout := Lib.hid (Hout.out.up hb9)
 replace Hrt := Lib.hid (Hrt.out.up hb9)
 replace HG := Lib.hid (HG.out.up hb9)
 replace HC := Lib.hid (HC.out.up hb9)
 replace HB := hbu HB hb9
 replace HZS := sz HZS hz9.out
 clear hb9 hz9
 have out_ := Hout.out.c2
 have rt_ := Hrt.out.c1
 have rs_ := Hrs.out.c1
 go_wp2_with fail
 clear hq7 o7_rt_ o7_out_
 refine (HPV.out ab ai ao _ w7 HC.out (Sl.ofB Hrs.out)).mono ?_
 rintro e w8 ⟨hb9, a1, c1, rfl, hs1, hz1, hc1, hf1⟩
 clear out_
 replace Hout := Lib.hid (Hout.out.up hb9)
 clear rt_
 replace Hrt := Lib.hid (Hrt.out.up hb9)
 clear rs_
 replace Hrs := Lib.hid (Hrs.out.up hb9)
 replace HG := Lib.hid (HG.out.up hb9)
 replace HC := Lib.hid (HC.out.up hb9)
 replace HB := hbu HB hb9
 replace HZS := sz HZS hb9.size
 have HS1 := Lib.hid hs1
 clear hs1
 have HZ1 := Lib.hid hz1
 clear hz1
 have HC1 := Lib.hid hc1
 clear hc1
 have HF1 := Lib.hid hf1
 clear hf1 hb9
 have out_ := Hout.out.c2
 have rt_ := Hrt.out.c1
 have rs_ := Hrs.out.c1
 have HNO := Lib.hid (show ∀ y, a1 = some y → y.block ≠ w.heap.size from fun y hy e => by have g1 := HF1.out y hy; have g2 := HZS.out; omega)
 have HFW := Lib.hid (show ∀ y, a1 = some y → w.heap.size ≤ y.block from fun y hy => by have g1 := HF1.out y hy; have g2 := HZS.out; omega)
 clear HF1
 replace HS1 := Lib.hid (Sl.setO HS1.out HNO.out 0 (.string C))
 replace HS1 := Lib.hid (Sl.setO HS1.out HNO.out 1 (.slice a1 A.length c1))
 have HRP := Lib.hid (show ∀ W, Below w.heap.size w W → Sl W W.heap.size a1 (A.map Value.string) → ProveR (E : Int) C A w (.returned (.tuple #[.agg #[.string C, .slice a1 A.length c1], .int .i64 (E : Int)])) W from fun W h1 h2 => ⟨h1, a1, c1, rfl, h2, HZ1.out, HC1.out, HFW.out⟩)
 clear HC
 have f9_out := Hout.out.frozen
 have o9_out_ := out_; clear out_
 have o9_rt_ := rt_; clear rt_
 have o9_rs_ := rs_; clear rs_
 obtain ⟨w9, hq9, hg9, hz9, hx9⟩ := put2 Hout 0 (.string C) 1 (.slice a1 A.length c1) [.string C, .slice a1 A.length c1] rfl
 replace Hrt := Lib.hid (Hrt.out.grown hg9.out (sne (by have g0 := HZS.out; omega)))
 replace Hrs := Lib.hid (Hrs.out.grown hg9.out (sne (by have g0 := HZS.out; omega)))
 replace HG := Lib.hid (HG.out.grown hg9.out (sne (by have g0 := HZS.out; omega)))
 replace HB := hbg HB hg9 (by have g0 := HZS.out; omega)
 replace HZS := sz HZS hz9.out
 replace Hout := hx9
 clear hx9 hg9 hz9
 have out_ := Hout.out.c2
 have rt_ := Hrt.out.c1
 have rs_ := Hrs.out.c1
 rw [hq9] at HS1
 go_wp2_with fail
 clear hq9 o9_rs_ o9_rt_ o9_out_ f9_out
 simp [bodyPost, results, Tryz.results22, go_sem, out_]
 exact HRP.out _ HB.out HS1.out
theorem sSign_any (k : Int) (x text seed : ByteArray) (ht : text.size < 140737488355328) (hsd : seed.size < 140737488355328) (w : World) :
  Calls Tryz.prog 22 #[.int .i64 k, .string x, .string text, .string seed] w (ProveR (sgnE k x : Int) (sgnC k x text seed) (sgnA k x text seed) w) := by
 by_cases hk : 1 ≤ k ∧ k ≤ 3
 ·obtain ⟨j, rfl⟩ : ∃ j : Nat, k = (j : Int) := ⟨k.toNat, by omega⟩
  cases hx : isSc (grp j).q.m (grp j).size x with
  | true =>
   have h0 : pubE (j : Int) x = 0 := by unfold pubE; rw [if_pos hk, Int.toNat_natCast, if_pos hx]
   have h1 : sgnE (j : Int) x = prvE j [ownC (baseT j) (pubS j x)] [x] := by unfold sgnE; rw [if_pos h0]
   exact sSign_ok j (by omega) (by omega) x text seed ht hsd hx _ _ _ h1.symm rfl rfl w
  | false =>
   have h0 : pubE (j : Int) x = 6 := by unfold pubE; rw [if_pos hk, Int.toNat_natCast, hx]; rfl
   have h1 : sgnE (j : Int) x = 6 := by unfold sgnE; rw [if_neg (by rw [h0]; decide), h0]
   unfold sgnC sgnA
   rw [h1]
   exact sSign_er j 6 (by decide) x text seed (fun w => by have h := pub_some j (by omega) (by omega) x false hx w; simpa using h) w
 ·have h0 : pubE k x = 1 := by unfold pubE; rw [if_neg hk]
  have h1 : sgnE k x = 1 := by unfold sgnE; rw [if_neg (by rw [h0]; decide), h0]
  unfold sgnC sgnA
  rw [h1]
  exact sSign_er k 1 (by decide) x text seed (fun w => pub_none k hk x w) w
theorem sSigned_none (k : Int) (hk : ¬ (1 ≤ k ∧ k ≤ 3)) (p text ch : ByteArray) (v : Value) (w : World) :
  Calls Tryz.prog 24 #[.int .i64 k, .string p, .string text, .agg #[.string ch, v]] w (Gives (.bool false) w) := by
 unfold Gives
 go_enter Tryz.func24, Tryz.ntmps24
 go_wp2_with fail
 obtain ⟨w1, hq1, hb9, hz9, Hbp⟩ := new1 w 25 [.string ch, v]
 rw [hq1]
 clear hq1
 have HB := Lib.hid hb9
 have HZS := hz9
 clear hb9 hz9
 have bp_ := Hbp.out.c2
 go_wp2_with fail
 refine (of_none k hk _).mono ?_
 rintro e w2 ⟨rfl, rfl⟩
 go_wp2_with fail
 have HT := Lib.hid (show Below w1.heap.size w1 w1.drew from (Below.refl _ _).drew)
 have hl_bp := Hbp.out.lt
 refine wp_region_tree (fun wq9 => ∃ E : Over w1, wq9 = E.w) ((.qs [0, 1, 2, 3, 4, 7, 8, 10] (.a 5 (.a 6 (.a 9 (.a 11 (.qs [12, 13] .done))))))) (by kernel_rfl) (by kernel_rfl) (fun _ _ d _ _ h => by cases d <;> exact h) ⟨⟨_, HT.out⟩, rfl⟩ ?_
 have hov_bp := fun (E : Over w1) o => E.cell (b := w.heap.size) o hl_bp
 simp only [Tree.qs]
 repeat (refine tree_q rfl rfl ?_; go_big_quiet_step (fail); refine wpQuiet_nil ?_)
 refine tree_a rfl (fun K hK => ?_)
 go_simp
 refine hK _ _ ⟨⟨⟨_, HT.out⟩, rfl⟩, ?_⟩
 clear hK K
 repeat (refine tree_q rfl rfl ?_; go_big_quiet_step (fail); refine wpQuiet_nil ?_)
 refine tree_a rfl (fun K hK => ?_)
 go_simp
 refine hK _ _ ⟨⟨⟨_, HT.out⟩, rfl⟩, ?_⟩
 clear hK K
 repeat (refine tree_q rfl rfl ?_; go_big_quiet_step (fail); refine wpQuiet_nil ?_)
 refine tree_a rfl (fun K hK => ?_)
 go_simp
 refine hK _ _ ⟨⟨⟨_, HT.out⟩, rfl⟩, ?_⟩
 clear hK K
 repeat (refine tree_q rfl rfl ?_; go_big_quiet_step (fail); refine wpQuiet_nil ?_)
 refine tree_a rfl (fun K hK => ?_)
 go_simp
 refine hK _ _ ⟨⟨⟨_, HT.out⟩, rfl⟩, ?_⟩
 clear hK K
 repeat (refine tree_q rfl rfl ?_; go_big_quiet_step (fail); refine wpQuiet_nil ?_)
 refine tree_end ?_
 clear hov_bp hl_bp bp_
 replace Hbp := Lib.hid (Hbp.out.up HT.out)
 replace HB := hbu HB HT.out
 replace HZS := sz HZS HT.out.size
 clear HT
 have bp_ := Hbp.out.c2
 go_wp2_with fail
 go_ret
 exact ⟨rfl, HB.out⟩
theorem sSigned_some (k : Nat) (h1 : 1 ≤ k) (h3 : k ≤ 3) (p text ch : ByteArray) (ht : text.size < 140737488355328) (xs : List ByteArray) (ax : Option Addr) (cx : Nat) (hn : xs.length ≤ 8796093022207) (b : Bool) (hb : verK k (sgnT text) [ownC (baseT k) p] ch xs = b) (w : World) (hS : Sl w w.heap.size ax (xs.map Value.string)) :
  Calls Tryz.prog 24 #[.int .i64 (k : Int), .string p, .string text, .agg #[.string ch, .slice ax xs.length cx]] w (Gives (.bool b) w) := by
 have OK := Lib.hid (grp_ok k h1 h3)
 have HV := Lib.hid (fun ab ai ao w (hc : ClaimsAt w ao [ownA ab ai 1 1 (baseT k) p]) (hs : Sl w w.heap.size ax (xs.map Value.string)) => sVerify_any k (sgnT text) (by rw [sgnT_size]; decide) [ownA ab ai 1 1 (baseT k) p] ao 1 ch xs ax cx hn (by intro c hc; rw [List.mem_singleton.1 hc]; exact ⟨Nat.le_refl _, Nat.le_refl _⟩) w hc hs)
 simp only [own_verK, hb, List.length_singleton] at HV
 have HTG := Lib.hid (fun a c w h => tag1 ht a c w h)
 have HOW := Lib.hid (fun gb p w h => own_any (grp k) OK.out gb p w h)
 rw [show textS (lowN (grp k) 2) (grp k).size = baseT k from rfl] at HOW
 have HS := Lib.hid hS
 generalize baseT k = BT at *
 generalize sgnT text = TT at *
 generalize xs.length = n at *
 clear hb ht hS hn
 unfold Gives
 go_enter Tryz.func24, Tryz.ntmps24
 go_wp2_with fail
 obtain ⟨w1, hq1, hb9, hz9, Hbp⟩ := new1 w 25 [.string ch, .slice ax n cx]
 rw [hq1]
 clear hq1
 have HB := Lib.hid hb9
 have HZS := hz9
 clear hb9 hz9
 have bp_ := Hbp.out.c2
 go_wp2_with fail
 refine (of_some k h1 h3 w1).mono ?_
 rintro e w2 ⟨rfl, hg9, hb9⟩
 clear bp_
 replace Hbp := Lib.hid (Hbp.out.up hb9)
 replace HB := hbu HB hb9
 replace HZS := sz HZS hb9.size
 have HG := Lib.hid hg9
 clear hg9 hb9
 have bp_ := Hbp.out.c2
 go_wp2_with fail
 have HS2 := Lib.hid (HS.out.up HB.out)
 have HT := Lib.hid (show Below w2.heap.size w2 w2.drew from (Below.refl _ _).drew)
 have hl_bp := Hbp.out.lt
 refine wp_region_tree (fun wq9 => ∃ E : Over w2, wq9 = E.w) ((.qs [0, 1, 2, 3, 4, 7, 8, 10] (.a 5 (.a 6 (.a 9 (.a 11 (.qs [12, 13] .done))))))) (by kernel_rfl) (by kernel_rfl) (fun _ _ d _ _ h => by cases d <;> exact h) ⟨⟨_, HT.out⟩, rfl⟩ ?_
 have hov_bp := fun (E : Over w2) o => E.cell (b := w.heap.size) o hl_bp
 simp only [Tree.qs]
 repeat (refine tree_q rfl rfl ?_; go_big_quiet_step (fail); refine wpQuiet_nil ?_)
 refine tree_a rfl (fun K hK => ?_)
 go_simp
 obtain ⟨w3, hq9, hb9, hz9, Hrt⟩ := new1D w2 9 [.string text]
 rw [hq9]
 clear hq9
 have HArt := Lib.hid HT.out.size
 replace HT := Lib.hid hb9
 replace HZS := sz HZS (show w2.heap.size ≤ w3.heap.size from HT.out.size)
 clear hb9 hz9
 refine hK _ _ ⟨⟨⟨w3, HT.out⟩, rfl⟩, ?_⟩
 clear hK K
 repeat (refine tree_q rfl rfl ?_; go_big_quiet_step (fail); refine wpQuiet_nil ?_)
 refine tree_a rfl (fun K hK => ?_)
 go_simp
 refine (HTG.out _ _ _ (Sl.ofB Hrt.out)).mono ?_
 rintro e w4 ⟨rfl, hb9⟩
 replace Hrt := Lib.hid (Hrt.out.up hb9)
 replace HT := Lib.hid (below_up HT.out hb9)
 replace HZS := sz HZS (show w2.heap.size ≤ w4.heap.size from HT.out.size)
 clear hb9
 refine hK _ _ ⟨⟨⟨w4, HT.out⟩, rfl⟩, ?_⟩
 clear hK K
 repeat (refine tree_q rfl rfl ?_; go_big_quiet_step (fail); refine wpQuiet_nil ?_)
 refine tree_a rfl (fun K hK => ?_)
 go_simp
 refine (HOW.out _ p _ (HG.out.up HT.out)).mono ?_
 rintro e w5 ⟨ab, ai, ao, rfl, hc9, hb9⟩
 replace Hrt := Lib.hid (Hrt.out.up hb9)
 replace HT := Lib.hid (below_up HT.out hb9)
 replace HZS := sz HZS (show w2.heap.size ≤ w5.heap.size from HT.out.size)
 clear hb9
 have HC := Lib.hid hc9
 clear hc9
 refine hK _ _ ⟨⟨⟨w5, HT.out⟩, rfl⟩, ?_⟩
 clear hK K
 repeat (refine tree_q rfl rfl ?_; go_big_quiet_step (fail); refine wpQuiet_nil ?_)
 refine tree_a rfl (fun K hK => ?_)
 go_simp
 refine (HV.out ab ai ao _ HC.out (HS2.out.up HT.out)).mono ?_
 rintro e w6 ⟨rfl, hb9⟩
 replace Hrt := Lib.hid (Hrt.out.up hb9)
 replace HC := Lib.hid (HC.out.up hb9)
 replace HT := Lib.hid (below_up HT.out hb9)
 replace HZS := sz HZS (show w2.heap.size ≤ w6.heap.size from HT.out.size)
 clear hb9
 refine hK _ _ ⟨⟨⟨w6, HT.out⟩, rfl⟩, ?_⟩
 clear hK K
 repeat (refine tree_q rfl rfl ?_; go_big_quiet_step (fail); refine wpQuiet_nil ?_)
 refine tree_end ?_
 clear hov_bp hl_bp bp_
 replace Hbp := Lib.hid (Hbp.out.up HT.out)
 replace HG := Lib.hid (HG.out.up HT.out)
 replace HB := hbu HB HT.out
 replace HZS := sz HZS HT.out.size
 clear HT
 have bp_ := Hbp.out.c2
 go_wp2_with fail
 go_ret
 exact ⟨rfl, HB.out⟩
theorem sSigned_any (k : Int) (p text ch : ByteArray) (ht : text.size < 140737488355328) (xs : List ByteArray) (ax : Option Addr) (cx : Nat) (hn : xs.length ≤ 8796093022207) (w : World) (hS : Sl w w.heap.size ax (xs.map Value.string)) :
  Calls Tryz.prog 24 #[.int .i64 k, .string p, .string text, .agg #[.string ch, .slice ax xs.length cx]] w (Gives (.bool (sgdK k p text ch xs)) w) := by
 by_cases hk : 1 ≤ k ∧ k ≤ 3
 ·obtain ⟨j, rfl⟩ : ∃ j : Nat, k = (j : Int) := ⟨k.toNat, by omega⟩
  have h1 : sgdK (j : Int) p text ch xs = verK j (sgnT text) [ownC (baseT j) p] ch xs := by unfold sgdK; rw [decide_eq_true hk, Bool.true_and]
  rw [h1]
  exact sSigned_some j (by omega) (by omega) p text ch ht xs ax cx hn _ rfl w hS
 ·have h1 : sgdK k p text ch xs = false := by unfold sgdK; rw [decide_eq_false hk, Bool.false_and]
  rw [h1]
  exact sSigned_none k hk p text ch _ w
end Go.Proofs.YtdlnnkbigeiilaaGreat
namespace Go.Proofs.YtdlnnkbigeiilaaGreat
open Go.RowKit
section
variable {G : GP} {aq ap : Option Addr} {cq cp : Nat}
end
section
variable {G : GP} {aq ap : Option Addr} {cq cp : Nat}
end
end Go.Proofs.YtdlnnkbigeiilaaGreat
namespace Go.Proofs.YtdlnnkbigeiilaaGreat
open Go.RowKit
section
variable {G : GP} {aq ap : Option Addr} {cq cp : Nat}
end
end Go.Proofs.YtdlnnkbigeiilaaGreat
namespace Go.Proofs.YtdlnnkbigeiilaaGreat
open Go.RowKit
section
variable {G : GP} {aq ap : Option Addr} {cq cp : Nat}
end
end Go.Proofs.YtdlnnkbigeiilaaGreat
namespace Go.Proofs.YtdlnnkbigeiilaaGreat
open Go.RowKit
section
variable {G : GP} {aq ap : Option Addr} {cq cp : Nat}
end
end Go.Proofs.YtdlnnkbigeiilaaGreat
namespace Go.Proofs.YtdlnnkbigeiilaaGreat
open Go.RowKit
section
variable {G : GP} {aq ap : Option Addr} {cq cp : Nat}
end
section
variable {G : GP} {aq ap : Option Addr} {cq cp : Nat}
end
end Go.Proofs.YtdlnnkbigeiilaaGreat
namespace Go.Proofs.YtdlnnkbigeiilaaGreat
open Go.RowKit
end Go.Proofs.YtdlnnkbigeiilaaGreat
namespace Go.Proofs.YtdlnnkbigeiilaaGreat
open Go.RowKit
end Go.Proofs.YtdlnnkbigeiilaaGreat
namespace Go.Proofs.YtdlnnkbigeiilaaGreat
open Go.RowKit
end Go.Proofs.YtdlnnkbigeiilaaGreat
namespace Go.Proofs.YtdlnnkbigeiilaaGreat
open Go.RowKit
end Go.Proofs.YtdlnnkbigeiilaaGreat
namespace Go.Proofs.YtdlnnkbigeiilaaGreat
open Go.RowKit
end Go.Proofs.YtdlnnkbigeiilaaGreat
namespace Go.Proofs.YtdlnnkbigeiilaaGreat
open Go.RowKit
theorem prvA_len (k : Int) (label : ByteArray) (l : List ClaimA) (xs : List ByteArray) (seed : ByteArray) : (prvA k label l xs seed).length ≤ xs.length := by
 unfold prvA ansL
 rw [List.length_zipWith]
 exact Nat.min_le_right _ _
end Go.Proofs.YtdlnnkbigeiilaaGreat
namespace Go.Proofs.YtdlnnkbigeiilaaGreat
open Go.RowKit
section
variable {G : GP} {aq ap : Option Addr} {cq cp : Nat}
end
end Go.Proofs.YtdlnnkbigeiilaaGreat
namespace Go.Proofs.YtdlnnkbigeiilaaGreat
open Go.ChangeShapes Go.WideShapes Go.ChangeAt Go.RowKit
end Go.Proofs.YtdlnnkbigeiilaaGreat
namespace Go.Proofs.YtdlnnkbigeiilaaGreat
open Go.RowKit
end Go.Proofs.YtdlnnkbigeiilaaGreat
namespace Go.Proofs.YtdlnnkbigeiilaaGreat
open Go.RowKit
def pubP (k : Int) (x : ByteArray) : ByteArray := if pubE k x = 0 then pubS k x else ⟨#[]⟩
end Go.Proofs.YtdlnnkbigeiilaaGreat
namespace Go.Proofs.YtdlnnkbigeiilaaGreat
open Go.RowKit
theorem pm_expC {q p a : Nat} (hpp : IsPrime p) (hp : p = 2 * q + 1) (h0 : 0 < a) (ha : a < p) (m : Nat) : PM p (a ^ m) (a ^ (m % q)) := by
 have h := ((pm_euler hpp hp h0 ha).pow (m / q)).mul (PM.refl p (a ^ (m % q)))
 rw [Nat.one_pow, Nat.one_mul, ← Nat.pow_mul, ← Nat.pow_add, Nat.div_add_mod] at h
 exact h
theorem exp_law {q : Nat} (w N x : Nat) (hq : 0 < q) : (((w + N * x) % q) % q + (x % q) * ((q - N % q) % q)) % q = w % q := by
 have hc := Nat.mod_lt N hq
 have e : (w + N * x + x * (q - N % q)) % q = w % q := by
  have h1 : N * x = q * (N / q * x) + (N % q) * x := by
   conv => lhs; rw [← Nat.div_add_mod N q]
   rw [Nat.add_mul, Nat.mul_assoc]
  have h2 : (N % q) * x + x * (q - N % q) = q * x := by
   rw [Nat.mul_comm (N % q) x, ← Nat.mul_add, Nat.add_sub_cancel' (Nat.le_of_lt hc), Nat.mul_comm]
  have h3 : w + N * x + x * (q - N % q) = w + q * (N / q * x + x) := by
   rw [Nat.mul_add q, h1]
   omega
  rw [h3, Nat.add_mul_mod_self_left]
 rw [← e, Nat.mod_mod, Nat.add_mod (w + N * x), Nat.add_mod ((w + N * x) % q), Nat.mod_mod, Nat.mul_mod (x % q), Nat.mod_mod, Nat.mod_mod, ← Nat.mul_mod]
section
variable {G : GP}
theorem comp_one (ok : G.Ok) (hpp : IsPrime G.p.m) {b im : Nat} (hb : 0 < b) (hbq : b ≤ G.q.m) (w x N : Nat) (h : lowN G (b ^ (x % G.q.m)) = lowN G im) : lowN G (b ^ (((w + N * x) % G.q.m) % G.q.m) * im ^ ((G.q.m - N % G.q.m) % G.q.m)) = lowN G (b ^ (w % G.q.m)) := by
 refine lowN_eq ok ?_
 have hq := ok.q.pos
 have h1 : PM G.p.m im (b ^ (x % G.q.m)) := ((lowN_iff ok _ _).1 h).symm
 have h2 := (PM.refl G.p.m (b ^ (((w + N * x) % G.q.m) % G.q.m))).mul (h1.pow ((G.q.m - N % G.q.m) % G.q.m))
 rw [← Nat.pow_mul, ← Nat.pow_add] at h2
 have h3 := pm_expC hpp ok.twice hb (by have := ok.twice; omega) (((w + N * x) % G.q.m) % G.q.m + (x % G.q.m) * ((G.q.m - N % G.q.m) % G.q.m))
 rw [exp_law w N x hq] at h3
 exact h2.trans h3
theorem each_congr {v v' : Nat → Nat → Nat} {ms : List Nat} {j : Nat} (h : ∀ i, i < j → ∀ t, t < ms.getD i 0 → lowN G (v i t) = lowN G (v' i t)) : eachA G v ms j = eachA G v' ms j := by
 unfold eachA
 refine List.map_congr_left fun i hi => ?_
 unfold eachL
 refine List.map_congr_left fun t ht => ?_
 rw [h i (List.mem_range.1 hi) t (List.mem_range.1 ht)]
theorem zip_allC {α β : Type} {f : α → β → Bool} {l : List α} {m : List β} (h : (List.zipWith f l m).all id = true) (i : Nat) (hl : i < l.length) (hm : i < m.length) : f l[i] m[i] = true := by
 have h1 := List.all_eq_true.1 h ((List.zipWith f l m)[i]'(by rw [List.length_zipWith]; omega)) (List.getElem_mem _)
 rw [List.getElem_zipWith] at h1
 exact h1
theorem isSc_text (ok : G.Ok) (N : Nat) : isSc G.q.m G.size (textS (N % G.q.m) G.size) = true := by
 unfold isSc
 rw [textS_size, numOf_mod ok]
 simp [Nat.mod_lt _ ok.q.pos]
theorem ansL_get (G : GP) (N : Nat) {ws xs : List ByteArray} {i : Nat} (hw : i < ws.length) (hx : i < xs.length) : (ansL G N ws xs)[i]? = some (ansF G N ws[i] xs[i]) := by
 unfold ansL
 rw [List.getElem?_eq_getElem (by rw [List.length_zipWith]; omega), List.getElem_zipWith]
end
theorem complete_any (k : Int) (label : ByteArray) (l : List ClaimA) (xs : List ByteArray) (seed : ByteArray) (h : prvE k l xs = 0) : verK k label l (prvC k label l seed) (prvA k label l xs seed) = true := by
 have ho : openK k l xs = 0 := by
  unfold prvE at h
  by_cases g : openK k l xs = 0
  ·exact g
  ·rw [if_neg g] at h; exact absurd h g
 have hh : holdP (grp k.toNat) l xs = true := by
  unfold prvE at h
  rw [if_pos ho] at h
  by_cases g : holdP (grp k.toNat) l xs = true
  ·exact g
  ·rw [if_neg g] at h; cases h
 obtain ⟨hk, hsh, hel, hxl, hxs⟩ := openK_ok ho
 obtain ⟨_, hl64, hc⟩ := shape_ok hsh
 have ok : (grp k.toNat).Ok := grp_ok _ (by omega) (by omega)
 have hpp := grp_prime_p k.toNat (by omega) (by omega)
 obtain ⟨N, hN⟩ : ∃ N, prvN k label l seed = N := ⟨_, rfl⟩
 have hNN : chN (sayFi (prvT k label l) (prvF k label l seed)) challengeB = N := hN
 obtain ⟨NL, hL⟩ : ∃ L, prvL k label l seed = L := ⟨_, rfl⟩
 have hNL : NL.length = l.length := by rw [← hL]; exact nonceL_len _ _ _
 have eC : prvC k label l seed = textS (N % (grp k.toNat).q.m) (grp k.toNat).size := by unfold prvC; rw [hN]
 have eA : prvA k label l xs seed = ansL (grp k.toNat) N NL xs := by unfold prvA; rw [hN, hL]
 have hAl : (ansL (grp k.toNat) N NL xs).length = l.length := ansL_len _ _ hNL hxl
 have hAs : (ansL (grp k.toNat) N NL xs).all (isSc (grp k.toNat).q.m (grp k.toNat).size) = true := List.all_eq_true.2 fun y hy => by
  obtain ⟨i, hi, rfl⟩ := List.getElem_of_mem (show y ∈ List.zipWith (ansF (grp k.toNat) N) NL xs from hy)
  rw [List.getElem_zipWith]
  exact isSc_text ok _
 have hw : wrongE (grp k.toNat) l = 0 := by unfold wrongE; rw [hsh, if_neg (by simp), if_pos hel]
 have hoA : openK k l (ansL (grp k.toNat) N NL xs) = 0 := by
  unfold openK openE scE
  rw [if_pos hk, if_neg (by rw [hw]; simp), if_pos hAl, if_pos hAs]
 have hR : verR k l (textS (N % (grp k.toNat).q.m) (grp k.toNat).size) (ansL (grp k.toNat) N NL xs) = prvF k label l seed := by
  unfold verR prvF
  rw [hL, numOf_mod ok]
  refine each_congr fun i hi t ht => ?_
  have e1 : (lens l).getD i 0 = l[i].bases.length := by unfold lens; simp [List.getD, hi]
  rw [e1] at ht
  obtain ⟨_, _, him⟩ := hc l[i] (List.getElem_mem _)
  have hti : t < l[i].images.length := by omega
  have hxi : i < xs.length := by omega
  have hni : i < NL.length := by omega
  have eL : l.getD i claim0 = l[i] := by simp [List.getD, hi]
  have eB : l[i].bases.getD t ⟨#[]⟩ = l[i].bases[t] := by simp [List.getD, ht]
  have eI : l[i].images.getD t ⟨#[]⟩ = l[i].images[t] := by simp [List.getD, hti]
  have eW : NL.getD i ⟨#[]⟩ = NL[i] := by simp [List.getD, hni]
  have eX : (ansL (grp k.toNat) N NL xs).getD i ⟨#[]⟩ = textS ((numOf NL[i] + N * numOf xs[i]) % (grp k.toNat).q.m) (grp k.toNat).size := by
   unfold List.getD
   rw [ansL_get (grp k.toNat) N hni hxi]
   rfl
  unfold valB valF
  rw [eL, eB, eI, eW, eX, numOf_mod ok]
  have he := List.all_eq_true.1 hel l[i] (List.getElem_mem _)
  unfold cElems at he
  have hb := List.all_eq_true.1 (Bool.and_eq_true _ _ ▸ he).1 l[i].bases[t] (List.getElem_mem _)
  unfold isEl at hb
  simp only [Bool.and_eq_true, decide_eq_true_eq] at hb
  have h2 := zip_allC hh i hi hxi
  have h3 := zip_allC (show (List.zipWith (hold2 (grp k.toNat) xs[i]) l[i].bases l[i].images).all id = true from h2) t ht hti
  exact comp_one ok hpp hb.1.2 hb.2 _ _ _ (of_decide_eq_true h3)
 rw [eC, eA]
 unfold verK
 rw [hoA, hR, isSc_text ok, numOf_mod ok, mont_mod]
 have hT : verT k label l (prvF k label l seed) = sayFi (prvT k label l) (prvF k label l seed) := rfl
 rw [hT, hNN]
 simp
end Go.Proofs.YtdlnnkbigeiilaaGreat
namespace Go.Proofs.YtdlnnkbigeiilaaGreat
open Go.RowKit
end Go.Proofs.YtdlnnkbigeiilaaGreat
namespace Go.Proofs.YtdlnnkbigeiilaaGreat
open Go.ChangeShapes Go.WideShapes Go.ChangeAt Go.RowKit
theorem bulk_one {H : Type} (d : DataW H) : 1 ≤ Rows.uptoBulk d := by
 cases d with
 | lit l => cases l <;> simp [Rows.uptoBulk]
 | nil => simp [Rows.uptoBulk]
 | ptr d => simp [Rows.uptoBulk]
 | slice elems spare => simp [Rows.uptoBulk]
 | agg parts => simp [Rows.uptoBulk]
 | iface t d => simp [Rows.uptoBulk]
 | map entries => simp [Rows.uptoBulk]
 | held h => simp [Rows.uptoBulk]
theorem bulk_part {H : Type} {d : DataW H} {l : List (DataW H)} (h : d ∈ l) : Rows.uptoBulk d ≤ Rows.uptoBulkAll l := by
 induction l with
 | nil => cases h
 | cons x r ih =>
  simp only [Rows.uptoBulkAll]
  rcases List.mem_cons.1 h with rfl | e
  ·omega
  ·have := ih e; omega
theorem bulk_length {H : Type} (l : List (DataW H)) : l.length ≤ Rows.uptoBulkAll l := by
 induction l with
 | nil => simp [Rows.uptoBulkAll]
 | cons x r ih => have := bulk_one x; simp only [Rows.uptoBulkAll, List.length_cons]; omega
theorem bulk_slice {H : Type} {elems spare : List (DataW H)} {B : Nat} (h : Rows.uptoBulk (.slice elems spare) ≤ B) : elems.length ≤ B ∧ ∀ d ∈ elems, Rows.uptoBulk d ≤ B := by
 simp only [Rows.uptoBulk] at h
 refine ⟨by have := bulk_length elems; omega, fun d hd => by have := bulk_part hd; omega⟩
theorem flat_range (g : Nat → Value) (k len : Nat) : ((List.range len).map fun i => (List.range k).map fun j => g (i * k + j)).flatten = (List.range (len * k)).map g := by
 induction len with
 | zero => simp
 | succ m ih =>
  rw [List.range_succ, List.map_append, List.flatten_append, ih, Nat.succ_mul, List.range_add, List.map_append]
  simp [List.map_map, Function.comp_def]
section
variable {H : Type} {enc : TypeId × Value → H} {P : Program} {w : World}
theorem open_flat {sp : Nat → Bool} {held : Bool} {t e : TypeId} {k fuel : Nat} {c : Value} {y : DataW H × List MemPlace} (ht : P.underlying t = some (.slice e)) (hk : P.cellsOf e = k) (hk0 : 0 < k) {B : Nat} (hB : Rows.uptoBulk y.1 ≤ B)
  (h : DataW.trod enc P w 0 sp held fuel t [c] = some y) :
  ∃ (a : Option Addr) (cap : Nat) (css : List (List Value)), c = .slice a css.length cap ∧ css.length ≤ B ∧ (∀ l ∈ css, l.length = k) ∧ Sl w w.heap.size a css.flatten ∧
   ∀ l ∈ css, ∃ n y', Rows.uptoBulk y'.1 ≤ B ∧ DataW.trod enc P w 0 sp held n e l = some y' := by
 have hlt := DataW.trod_lt _ _ _ _ h
 rcases DataW.trod_slice ht h with ⟨hcs, _⟩ | ⟨x, len, cap, elems, rest, n, _, hcs, hx, hb, hl, hm, hlen, hel, _, _⟩
 ·simp only [List.cons.injEq, and_true] at hcs
  exact ⟨none, 0, [], hcs, by simp, by simp, Or.inl rfl, by simp⟩
 simp only [List.cons.injEq, and_true] at hcs
 subst hcs
 by_cases h0 : len = 0
 ·subst h0
  exact ⟨some x, cap, [], rfl, by simp, by simp, Or.inl rfl, by simp⟩
 have hbk := bulk_slice (elems := elems.map (·.1)) (spare := rest.map (·.1)) (B := B) (by rw [hx] at hB; exact hB)
 have each : ∀ i, i < len → ∃ l y', w.cells? 0 (x.add (i * k)) k = some l ∧ Rows.uptoBulk y'.1 ≤ B ∧ DataW.trod enc P w 0 sp held n e l = some y' := by
  intro i hi
  have h1 := hel i hi
  rw [hk, show elems[i]? = some (elems[i]'(by omega)) from List.getElem?_eq_getElem (by omega), Option.bind_eq_some_iff] at h1
  obtain ⟨l, hl, hy⟩ := h1
  exact ⟨l, _, hl, hbk.2 _ (List.mem_map.2 ⟨_, List.getElem_mem _, rfl⟩), hy⟩
 obtain ⟨b, off, spot⟩ := x
 have hspot : spot = none := by
  obtain ⟨l, _, h1, _⟩ := each 0 (by omega)
  obtain ⟨_, h2, h3⟩ := World.cells?_some h1
  have h4 := h3 0 hk0
  obtain ⟨v, hv⟩ : ∃ v, l[0]? = some v := ⟨_, List.getElem?_eq_getElem (by omega)⟩
  rw [hv, Deep.add_add, Nat.zero_mul, Nat.zero_add] at h4
  simpa [Addr.add] using World.cell?_spot h4
 subst hspot
 have hbW : b < w.heap.size := hlt (.cell b off) (by
  rw [hx]
  exact List.mem_append_left _ (MemPlace.mem_row.2 ⟨0, by rw [hk]; have : 0 < (elems.length + rest.length) * k := Nat.mul_pos (by omega) hk0; omega, by simp⟩))
 have hL : ∀ i, i < len → ((List.range k).map fun j => (w.cell? ⟨b, off + (i * k + j), none⟩).getD (.bool false)).length = k ∧
   (∀ j, j < k → w.cell? ⟨b, off + (i * k + j), none⟩ = some ((w.cell? ⟨b, off + (i * k + j), none⟩).getD (.bool false))) ∧
   ∃ y', Rows.uptoBulk y'.1 ≤ B ∧ DataW.trod enc P w 0 sp held n e ((List.range k).map fun j => (w.cell? ⟨b, off + (i * k + j), none⟩).getD (.bool false)) = some y' := by
  intro i hi
  obtain ⟨l, y', h1, h2b, h2⟩ := each i hi
  obtain ⟨_, h3, h4⟩ := World.cells?_some h1
  have h5 : ∀ j, j < k → w.cell? ⟨b, off + (i * k + j), none⟩ = l[j]? := by
   intro j hj
   have := h4 j hj
   rwa [Deep.add_add, add_plain] at this
  have e1 : (List.range k).map (fun j => (w.cell? ⟨b, off + (i * k + j), none⟩).getD (.bool false)) = l := by
   apply List.ext_getElem?
   intro j
   by_cases hj : j < k
   ·rw [List.getElem?_map, List.getElem?_range hj, Option.map_some, h5 j hj, List.getElem?_eq_getElem (show j < l.length by omega), Option.getD_some]
   ·rw [List.getElem?_eq_none (by simp; omega), List.getElem?_eq_none (by omega)]
  refine ⟨by simp, ?_, ?_⟩
  ·intro j hj
   rw [h5 j hj, List.getElem?_eq_getElem (show j < l.length by omega), Option.getD_some]
  ·rw [e1]; exact ⟨y', h2b, h2⟩
 refine ⟨some ⟨b, off, none⟩, cap, (List.range len).map fun i => (List.range k).map fun j => (w.cell? ⟨b, off + (i * k + j), none⟩).getD (.bool false), by simp, ?_, ?_, Or.inr ⟨b, off, rfl, hbW, ?_⟩, ?_⟩
 ·have := hbk.1; rw [List.length_map] at this; simp; omega
 ·intro l hl
  obtain ⟨i, _, rfl⟩ := List.mem_map.1 hl
  simp
 ·have hflat := flat_range (fun m => (w.cell? ⟨b, off + m, none⟩).getD (.bool false)) k len
  intro i v hv
  rw [hflat] at hv
  have hi : i < len * k := by have := (List.getElem?_eq_some_iff.1 hv).1; simpa using this
  have hq : i / k < len := Nat.div_lt_of_lt_mul (by rwa [Nat.mul_comm] at hi)
  have hc := (hL (i / k) hq).2.1 (i % k) (Nat.mod_lt _ hk0)
  rw [show i / k * k + i % k = i by rw [Nat.mul_comm]; exact Nat.div_add_mod i k] at hc
  rw [hc, ← hv, List.getElem?_map, List.getElem?_range hi, Option.map_some]
 ·intro l hl
  obtain ⟨i, hi, rfl⟩ := List.mem_map.1 hl
  obtain ⟨y', hyb, hy⟩ := (hL i (List.mem_range.1 hi)).2.2
  exact ⟨n, y', hyb, hy⟩
theorem list_shapes {α : Type} (f : α → List Value) (R : α → Prop) : ∀ css : List (List Value), (∀ l ∈ css, ∃ x, l = f x ∧ R x) → ∃ xs : List α, xs.length = css.length ∧ css.flatten = xs.flatMap f ∧ ∀ x ∈ xs, R x
 | [], _ => ⟨[], rfl, rfl, by simp⟩
 | l :: css, h => by
  obtain ⟨x, rfl, hR⟩ := h l (by simp)
  obtain ⟨xs, h1, h2, h3⟩ := list_shapes f R css (fun c hc => h c (by simp [hc]))
  refine ⟨x :: xs, by simp [h1], by simp [h2], ?_⟩
  intro y hy
  rcases List.mem_cons.1 hy with rfl | hy
  ·exact hR
  ·exact h3 y hy
theorem open_els {α : Type} (f : α → List Value) (R : α → Prop) {sp : Nat → Bool} {held : Bool} {t e : TypeId} {k fuel : Nat} {c : Value} {y : DataW H × List MemPlace} (ht : P.underlying t = some (.slice e)) (hk : P.cellsOf e = k) (hk0 : 0 < k) {B : Nat} (hB : Rows.uptoBulk y.1 ≤ B)
  (hel : ∀ n l y', l.length = k → Rows.uptoBulk y'.1 ≤ B → DataW.trod enc P w 0 sp held n e l = some y' → ∃ x, l = f x ∧ R x) (h : DataW.trod enc P w 0 sp held fuel t [c] = some y) :
  ∃ (a : Option Addr) (cap : Nat) (xs : List α), c = .slice a xs.length cap ∧ xs.length ≤ B ∧ Sl w w.heap.size a (xs.flatMap f) ∧ ∀ x ∈ xs, R x := by
 obtain ⟨a, cap, css, rfl, hlB, hl, hs, he⟩ := open_flat ht hk hk0 hB h
 obtain ⟨xs, h1, h2, h3⟩ := list_shapes f R css (fun l hm => by
  obtain ⟨n, y', hyb, hy⟩ := he l hm
  exact hel n l y' (hl l hm) hyb hy)
 exact ⟨a, cap, xs, by rw [h1], by omega, h2 ▸ hs, h3⟩
theorem open_str {sp : Nat → Bool} {held : Bool} {t : TypeId} {fuel : Nat} {c : Value} {y : DataW H × List MemPlace} (ht : P.underlying t = some .string) (h : DataW.trod enc P w 0 sp held fuel t [c] = some y) : ∃ s : ByteArray, c = .string s := by
 obtain ⟨s, hs, _⟩ := DataW.trod_string ht h
 simp only [List.cons.injEq, and_true] at hs
 exact ⟨s, hs⟩
theorem open_strs {sp : Nat → Bool} {held : Bool} {t e : TypeId} {fuel : Nat} {c : Value} {y : DataW H × List MemPlace} (ht : P.underlying t = some (.slice e)) (he : P.underlying e = some .string) (hk : P.cellsOf e = 1) {B : Nat} (hB : Rows.uptoBulk y.1 ≤ B) (h : DataW.trod enc P w 0 sp held fuel t [c] = some y) :
  ∃ (a : Option Addr) (cap : Nat) (bs : List ByteArray), c = .slice a bs.length cap ∧ bs.length ≤ B ∧ Sl w w.heap.size a (bs.map Value.string) := by
 obtain ⟨a, cap, xs, h1, hb, h2, _⟩ := open_els (fun s : ByteArray => [Value.string s]) (fun _ => True) ht hk (by omega) hB (fun n l y' hl _ hy => by
  match l, hl with
  | [c'], _ =>
   obtain ⟨s, rfl⟩ := open_str he hy
   exact ⟨s, rfl, trivial⟩) h
 refine ⟨a, cap, xs, h1, hb, ?_⟩
 rw [← List.flatMap_singleton' (xs.map Value.string), List.flatMap_map]
 exact h2
end
end Go.Proofs.YtdlnnkbigeiilaaGreat
namespace Go.Proofs.YtdlnnkbigeiilaaGreat
open Go.ChangeShapes Go.WideShapes Go.ChangeAt Go.RowKit
section
variable {H : Type} {enc : TypeId × Value → H} {P : Program} {w : World}
end
end Go.Proofs.YtdlnnkbigeiilaaGreat
namespace Go.Proofs.YtdlnnkbigeiilaaGreat
open Go.ChangeShapes Go.WideShapes Go.ChangeAt Go.RowKit
theorem str_cells : Tryz.prog.cellsOf 9 = 1 := by kernel_rfl
end Go.Proofs.YtdlnnkbigeiilaaGreat
namespace Go.Proofs.YtdlnnkbigeiilaaGreat
open Go.ChangeShapes Go.WideShapes Go.ChangeAt Go.RowKit
section
variable {H : Type} {enc : TypeId × Value → H} {w : World}
end
section
variable {H : Type} {enc : TypeId × Value → H} {w : World}
end
end Go.Proofs.YtdlnnkbigeiilaaGreat
namespace Go.Proofs.YtdlnnkbigeiilaaGreat
open Go.ChangeShapes Go.WideShapes Go.ChangeAt Go.RowKit
section
variable {H : Type} {enc : TypeId × Value → H} {w : World}
end
end Go.Proofs.YtdlnnkbigeiilaaGreat
namespace Go.Proofs.YtdlnnkbigeiilaaGreat
open Go.ChangeShapes Go.WideShapes Go.ChangeAt Go.RowKit
theorem signs_law (k : Int) (x text seed : ByteArray) : sgdK k (pubP k x) text (sgnC k x text seed) (sgnA k x text seed) = decide (sgnE k x = 0) := by
 by_cases hE : sgnE k x = 0
 ·rw [decide_eq_true hE]
  have hP : pubE k x = 0 := by
   by_cases g : pubE k x = 0
   ·exact g
   ·unfold sgnE at hE; rw [if_neg g] at hE; exact absurd hE g
  have hk : 1 ≤ k ∧ k ≤ 3 := by
   by_cases g : 1 ≤ k ∧ k ≤ 3
   ·exact g
   ·unfold pubE at hP; rw [if_neg g] at hP; cases hP
  have h1 : prvE k [ownC (baseT k) (pubS k x)] [x] = 0 := by
   have h2 := hE
   unfold sgnE at h2
   rwa [if_pos hP] at h2
  unfold sgdK sgnC sgnA pubP
  rw [if_pos hE, if_pos hE, if_pos hP, decide_eq_true hk, Bool.true_and]
  exact complete_any k _ _ _ seed h1
 ·rw [decide_eq_false hE]
  unfold sgdK sgnC sgnA
  rw [if_neg hE, if_neg hE]
  have h1 : openK k [ownC (baseT k) (pubP k x)] [] ≠ 0 := fun h => by
   have h2 := (openK_ok h).2.2.2.1
   simp at h2
  unfold verK
  rw [decide_eq_false h1, Bool.false_and, Bool.and_false]
theorem sgnA_len (k : Int) (x text seed : ByteArray) : (sgnA k x text seed).length ≤ 8796093022207 := by
 unfold sgnA
 by_cases g : sgnE k x = 0
 ·rw [if_pos g]
  unfold prvA ansL
  rw [List.length_zipWith]
  exact Nat.le_trans (Nat.min_le_right _ _) (by simp)
 ·rw [if_neg g]; exact Nat.zero_le _
end Go.Proofs.YtdlnnkbigeiilaaGreat
namespace Go.Proofs.YtdlnnkbigeiilaaGreat
open Go.RowKit
theorem made_hold {k : Nat} (h1 : 1 ≤ k) (h3 : k ≤ 3) {o : ByteArray} {xs : List ByteArray} {cs : List ClaimB} (h : cs.map ClaimB.x = xs.map (madeT (grp k) o)) (hxs : xs.all (isSc (grp k).q.m (grp k).size) = true) : holdP (grp k) (cs.map ClaimB.a) xs = true := by
 obtain ⟨hl, hi⟩ := made_at h
 refine zip_all fun i hc hx => ?_
 rw [List.length_map] at hc
 rw [List.getElem_map]
 obtain ⟨e1, e2, e3, e4⟩ := hi i hc hx
 have ok := grp_ok k h1 h3
 have hsx := isSc_lt' (List.all_eq_true.1 hxs _ (List.getElem_mem hx))
 show ([hold2 (grp k) xs[i] cs[i].s cs[i].u, hold2 (grp k) xs[i] cs[i].t cs[i].v].all id) = true
 rw [e1, e2, e3, e4]
 unfold hold2
 rw [hsx.1, (grp2 h1 h3).2, T_numOf h1 h3, T_numOf h1 h3, lowN_fix ok (lowN_le ok _), lowN_fix ok (lowN_le ok _)]
 simp
theorem made_prv {k : Nat} (h1 : 1 ≤ k) (h3 : k ≤ 3) {o : ByteArray} (ho : isEl (grp k).q.m (grp k).size o = true) {xs : List ByteArray} {cs : List ClaimB} (h : cs.map ClaimB.x = xs.map (madeT (grp k) o)) (hxs : xs.all (isSc (grp k).q.m (grp k).size) = true) (h0 : 0 < xs.length) (h64 : xs.length ≤ 64) :
  openK (k : Int) (cs.map ClaimB.a) xs = 0 ∧ holdK (k : Int) (cs.map ClaimB.a) xs = true ∧ prvE (k : Int) (cs.map ClaimB.a) xs = 0 := by
 obtain ⟨w1, w2⟩ := made_wf h1 h3 ho h h0 h64
 have hl := (made_at h).1
 have ho : openK (k : Int) (cs.map ClaimB.a) xs = 0 := openK_zero (k := (k : Int)) (by omega) w1 (by rw [Int.toNat_natCast]; exact w2) (by rw [List.length_map, hl]) (by rw [Int.toNat_natCast]; exact hxs)
 have hh : holdP (grp (k : Int).toNat) (cs.map ClaimB.a) xs = true := by rw [Int.toNat_natCast]; exact made_hold h1 h3 h hxs
 refine ⟨ho, ?_, ?_⟩
 ·unfold holdK
  rw [ho, hh]
  rfl
 ·unfold prvE
  rw [if_pos ho, if_pos hh]
theorem sign_ok {k : Nat} (h1 : 1 ≤ k) (h3 : k ≤ 3) {x : ByteArray} (hx : isSc (grp k).q.m (grp k).size x = true) : sgnE (k : Int) x = 0 ∧ pubP (k : Int) x = textS (lowN (grp k) (2 ^ numOf x)) (grp k).size := by
 have ok := grp_ok k h1 h3
 have hpp := grp_prime_p k h1 h3
 have hsx := isSc_lt' hx
 have hk : 1 ≤ (k : Int) ∧ (k : Int) ≤ 3 := by omega
 have hP : pubE (k : Int) x = 0 := by
  unfold pubE
  rw [if_pos hk, Int.toNat_natCast, if_pos hx]
 have ePS : pubS (k : Int) x = textS (lowN (grp k) (2 ^ numOf x)) (grp k).size := by
  unfold pubS
  rw [Int.toNat_natCast, hsx.1]
 have eBT : baseT (k : Int) = textS (lowN (grp k) (2 ^ 1)) (grp k).size := by
  unfold baseT
  rw [Int.toNat_natCast, Nat.pow_one]
 refine ⟨?_, by unfold pubP; rw [if_pos hP, ePS]⟩
 unfold sgnE
 rw [if_pos hP, ePS, eBT]
 have el1 := T_isEl h1 h3 (pow2_nd ok hpp 1)
 have el2 := T_isEl h1 h3 (pow2_nd ok hpp (numOf x))
 have ho : openK (k : Int) [ownC (textS (lowN (grp k) (2 ^ 1)) (grp k).size) (textS (lowN (grp k) (2 ^ numOf x)) (grp k).size)] [x] = 0 := openK_zero (k := (k : Int)) hk rfl (by
  rw [Int.toNat_natCast]
  unfold cElems ownC ownA
  simp only [List.all_cons, List.all_nil, Bool.and_true, el1, el2]) rfl (by rw [Int.toNat_natCast, List.all_cons, hx]; rfl)
 unfold prvE
 rw [if_pos ho, if_pos ?_]
 rw [Int.toNat_natCast]
 show ([[hold2 (grp k) x (textS (lowN (grp k) (2 ^ 1)) (grp k).size) (textS (lowN (grp k) (2 ^ numOf x)) (grp k).size)].all id].all id) = true
 unfold hold2
 have h2 : (2 : Nat) ^ 1 ≤ (grp k).q.m := by have := ok.odd; omega
 rw [hsx.1, T_numOf h1 h3, T_numOf h1 h3, lowN_fix ok (lowN_le ok _), lowN_fix ok h2, Nat.pow_one]
 simp
end Go.Proofs.YtdlnnkbigeiilaaGreat
namespace Go.Proofs.YtdlnnkbigeiilaaGreat
open Go.RowKit
theorem alive5 (w : World) : Calls Tryz.prog 26 #[] w fun e w' => e = .returned (.bool true) ∧ Below w.heap.size w w' := by
 have h := fun w => Scalar_some 1 (by decide) (by decide) ⟨#[0, 5]⟩ w
 rw [show isSc (grp 1).q.m (grp 1).size ⟨#[0, 5]⟩ = true by decide +kernel] at h
 have HS := Lib.hid h
 clear h
 go_enter Tryz.func26, Tryz.ntmps26
 go_wp2_with fail
 refine (HS.out w).mono ?_
 rintro e w1 ⟨rfl, hb9⟩
 have HB := Lib.hid hb9
 have HZS := Lib.hid hb9.size
 clear hb9
 go_wp2_with fail
 go_ret
 exact ⟨rfl, HB.out⟩
end Go.Proofs.YtdlnnkbigeiilaaGreat
namespace Go.Proofs.YtdlnnkbigeiilaaGreat
open Go.ChangeShapes Go.WideShapes Go.ChangeAt Go.RowKit
theorem complete_unk (k : Int) (hk : ¬ (1 ≤ k ∧ k ≤ 3)) (label o seed : ByteArray) (v : Value) (w : World) :
  Calls Tryz.prog 8 #[.int .i64 k, .string label, .string o, v, .string seed] w fun e w' => e = .returned (.bool true) ∧ Below w.heap.size w w' := by
 have HM := Lib.hid (fun w1 => made_none k hk o v w1)
 clear hk
 unfold MadeR at HM
 go_enter Tryz.func8, Tryz.ntmps8
 go_wp2_with fail
 refine (alive5 w).mono ?_
 rintro e w1 ⟨rfl, hb9⟩
 have HB := Lib.hid hb9
 have HZS := Lib.hid hb9.size
 clear hb9
 go_wp2_with fail
 refine (HM.out _).mono ?_
 rintro e w2 ⟨hb9, a, c, cs, rfl, _⟩
 replace HB := hbu HB hb9
 replace HZS := sz HZS hb9.size
 clear hb9
 go_wp2_with fail
 go_ret
 exact ⟨rfl, HB.out⟩
theorem complete_elem (k : Nat) (h1 : 1 ≤ k) (h3 : k ≤ 3) (label o seed : ByteArray) (ho : isEl (grp k).q.m (grp k).size o = false) (v : Value) (w : World) :
  Calls Tryz.prog 8 #[.int .i64 (k : Int), .string label, .string o, v, .string seed] w fun e w' => e = .returned (.bool true) ∧ Below w.heap.size w w' := by
 have HM := Lib.hid (fun w1 => made_elem k h1 h3 o ho v w1)
 clear ho
 unfold MadeR at HM
 go_enter Tryz.func8, Tryz.ntmps8
 go_wp2_with fail
 refine (alive5 w).mono ?_
 rintro e w1 ⟨rfl, hb9⟩
 have HB := Lib.hid hb9
 have HZS := Lib.hid hb9.size
 clear hb9
 go_wp2_with fail
 refine (HM.out _).mono ?_
 rintro e w2 ⟨hb9, a, c, cs, rfl, _⟩
 replace HB := hbu HB hb9
 replace HZS := sz HZS hb9.size
 clear hb9
 go_wp2_with fail
 go_ret
 exact ⟨rfl, HB.out⟩
theorem complete_zero (k : Nat) (h1 : 1 ≤ k) (h3 : k ≤ 3) (label o seed : ByteArray) (ho : isEl (grp k).q.m (grp k).size o = true) (xs : List ByteArray) (n : Nat) (hxn : xs.length = n) (ax : Option Addr) (cx : Nat) (hn : n ≤ 1000000000000) (b : Bool) (hb : xs.all (isSc (grp k).q.m (grp k).size) = b) (hz : b = false ∨ n = 0) (w : World) (hX : Sl w w.heap.size ax (xs.map Value.string)) :
  Calls Tryz.prog 8 #[.int .i64 (k : Int), .string label, .string o, .slice ax n cx, .string seed] w fun e w' => e = .returned (.bool true) ∧ Below w.heap.size w w' := by
 have HM := Lib.hid (fun w1 (hb9 : Below w.heap.size w w1) => made_some k h1 h3 o ho xs n hxn ax cx hn b hb w1 (hX.up hb9))
 have hl : (if b = true then xs.map (madeT (grp k) o) else []) = [] := by
  rcases hz with h | h
  ·rw [h]; rfl
  ·rw [h] at hxn
   rw [List.length_eq_zero_iff.1 hxn]
   split <;> rfl
 rw [hl] at HM
 clear ho hxn hb hz hX hl
 unfold MadeR at HM
 go_enter Tryz.func8, Tryz.ntmps8
 go_wp2_with fail
 refine (alive5 w).mono ?_
 rintro e w1 ⟨rfl, hb9⟩
 have HB := Lib.hid hb9
 have HZS := Lib.hid hb9.size
 clear hb9
 go_wp2_with fail
 refine (HM.out _ HB.out).mono ?_
 rintro e w2 ⟨hb9, a, c, cs, rfl, _⟩
 replace HB := hbu HB hb9
 replace HZS := sz HZS hb9.size
 clear hb9
 go_wp2_with fail
 go_ret
 exact ⟨rfl, HB.out⟩
theorem complete_body (k : Nat) (h1 : 1 ≤ k) (h3 : k ≤ 3) (label o seed : ByteArray) (hlb : label.size < 140737488355328) (hsd : seed.size < 140737488355328) (ho : isEl (grp k).q.m (grp k).size o = true) (xs : List ByteArray) (n : Nat) (hxn : xs.length = n) (ax : Option Addr) (cx : Nat) (hn : n ≤ 1000000000000) (h0 : 0 < n) (hxs : xs.all (isSc (grp k).q.m (grp k).size) = true) (w : World) (hX : Sl w w.heap.size ax (xs.map Value.string)) :
  Calls Tryz.prog 8 #[.int .i64 (k : Int), .string label, .string o, .slice ax n cx, .string seed] w fun e w' => e = .returned (.bool true) ∧ Below w.heap.size w w' := by
 have HM := Lib.hid (fun w1 (hb9 : Below w.heap.size w w1) => made_some k h1 h3 o ho xs n hxn ax cx hn true hxs w1 (hX.up hb9))
 rw [if_pos rfl] at HM
 unfold MadeR at HM
 rw [List.length_map, hxn] at HM
 have HO := Lib.hid ho
 have HXN := Lib.hid hxn
 have HXS := Lib.hid hxs
 have HX := Lib.hid hX
 have hd0 : ((n : Int) == 0) = false := by simp; omega
 by_cases c1 : 64 < n
 ·have hd : decide ((n : Int) > 64) = true := by simp; omega
  clear hX ho hxn hxs hlb hsd
  go_enter Tryz.func8, Tryz.ntmps8
  go_wp2_with fail
  refine (alive5 w).mono ?_
  rintro e w1 ⟨rfl, hb9⟩
  have HB := Lib.hid hb9
  have HZS := Lib.hid hb9.size
  clear hb9
  go_wp2_with fail
  refine (HM.out _ HB.out).mono ?_
  rintro e w2 ⟨hb9, a, c, cs, rfl, hcx, hcs, hco, hcn, _⟩
  replace HB := hbu HB hb9
  replace HZS := sz HZS hb9.size
  have HCX := Lib.hid hcx
  clear hcx
  have HCS := Lib.hid hcs
  clear hcs
  have HCO := Lib.hid hco
  clear hco hb9
  go_wp2_with fail
  go_ret
  exact ⟨rfl, HB.out⟩
 have hd : decide ((n : Int) > 64) = false := by simp; omega
 have hx0 : 0 < xs.length := by omega
 have hsx : isSc (grp k).q.m (grp k).size xs[0] = true := List.all_eq_true.1 hxs _ (List.getElem_mem hx0)
 obtain ⟨hsg, hpb⟩ := sign_ok h1 h3 hsx
 have HC5 := Lib.hid (fun (cs : List ClaimB) (hcx : cs.map ClaimB.x = xs.map (madeT (grp k) o)) => made_prv h1 h3 ho hcx hxs (by omega) (by omega))
 have HPV := Lib.hid (fun (cs : List ClaimB) (he : prvE (k : Int) (cs.map ClaimB.a) xs = 0) a c W (hC : ClaimsAt W a (cs.map ClaimB.a)) hS => by
  have h9 := sProve_any (k : Int) label hlb (cs.map ClaimB.a) a c xs ax cx (by omega) seed hsd (fun q hq => by obtain ⟨b, _, rfl⟩ := List.mem_map.1 hq; exact ⟨Nat.le_refl _, Nat.le_refl _⟩) W hC hS
  rw [he, if_pos rfl, if_pos rfl] at h9
  exact h9)
 have HVF := Lib.hid (fun (cs : List ClaimB) (he : prvE (k : Int) (cs.map ClaimB.a) xs = 0) (hl : (prvA (k : Int) label (cs.map ClaimB.a) xs seed).length ≤ 8796093022207) a c ap cp W (hC : ClaimsAt W a (cs.map ClaimB.a)) hS => by
  have h9 := sVerify_any (k : Int) label hlb (cs.map ClaimB.a) a c (prvC (k : Int) label (cs.map ClaimB.a) seed) (prvA (k : Int) label (cs.map ClaimB.a) xs seed) ap cp hl (fun q hq => by obtain ⟨b, _, rfl⟩ := List.mem_map.1 hq; exact ⟨Nat.le_refl _, Nat.le_refl _⟩) W hC hS
  rw [complete_any (k : Int) label (cs.map ClaimB.a) xs seed he] at h9
  exact h9)
 have HPL := Lib.hid (fun (cs : List ClaimB) => Nat.le_trans (prvA_len (k : Int) label (cs.map ClaimB.a) xs seed) (show xs.length ≤ 8796093022207 by omega))
 have HSN := Lib.hid (fun (W : World) => by
  have h9 := sSign_any (k : Int) xs[0] label seed hlb hsd W
  rw [hsg] at h9
  exact h9)
 have HSD := Lib.hid (fun (a : Option Addr) (c : Nat) (W : World) (hS : Sl W W.heap.size a ((sgnA (k : Int) xs[0] label seed).map Value.string)) => by
  have h9 := sSigned_any (k : Int) (pubP (k : Int) xs[0]) label (sgnC (k : Int) xs[0] label seed) hlb (sgnA (k : Int) xs[0] label seed) a c (sgnA_len (k : Int) xs[0] label seed) W hS
  rw [signs_law, hsg, hpb] at h9
  exact h9)
 have HHO := Lib.hid (fun (cs : List ClaimB) (he : holdK (k : Int) (cs.map ClaimB.a) xs = true) a c W (hC : ClaimsAt W a (cs.map ClaimB.a)) hS => by
  have h9 := sHolds_any (k : Int) (cs.map ClaimB.a) a c xs ax cx (by omega) W hC hS
  rw [he] at h9
  exact h9)
 have HAT := Lib.hid (fun (cs : List ClaimB) (hcx : cs.map ClaimB.x = xs.map (madeT (grp k) o)) => made_at hcx)
 obtain ⟨x0, hx9⟩ : ∃ x, xs[0]'hx0 = x := ⟨_, rfl⟩
 obtain ⟨bx, ox, rfl, hbx, hcx0⟩ := hX.at 0 (by simpa using hx0)
 rw [List.getElem_map, hx9, Nat.add_zero] at hcx0
 have HX0 := Lib.hid hcx0
 have HBX := Lib.hid hbx
 have HUE := Lib.hid (show ∀ (cs : List ClaimB) (hcx : cs.map ClaimB.x = xs.map (madeT (grp k) o)) (hc : 0 < cs.length), cs[0].u = textS (lowN (grp k) (2 ^ numOf x0)) (grp k).size from fun cs hcx hc => by rw [← hx9]; exact ((made_at hcx).2 0 hc hx0).2.2.1)
 rw [hx9] at HSN HSD
 rw [hxn] at HPV HHO
 generalize textS (lowN (grp k) (2 ^ numOf x0)) (grp k).size = PB at *
 obtain ⟨ns, hns⟩ : ∃ m, (sgnA (k : Int) x0 label seed).length = m := ⟨_, rfl⟩
 rw [hns] at HSD
 unfold ProveR at HSN
 rw [hns] at HSN
 clear hX ho hxn hxs hlb hsd hsx hsg hpb hx9 hcx0 hbx hns hx0
 go_enter Tryz.func8, Tryz.ntmps8
 go_wp2_with fail
 refine (alive5 w).mono ?_
 rintro e w1 ⟨rfl, hb9⟩
 have HB := Lib.hid hb9
 have HZS := Lib.hid hb9.size
 clear hb9
 go_wp2_with fail
 refine (HM.out _ HB.out).mono ?_
 rintro e w2 ⟨hb9, a, c, cs, rfl, hcx, hcs, hco, hcn, _⟩
 replace HB := hbu HB hb9
 replace HZS := sz HZS hb9.size
 have HCX := Lib.hid hcx
 clear hcx
 have HCS := Lib.hid hcs
 clear hcs
 have HCO := Lib.hid hco
 clear hco hb9
 obtain ⟨hop, hhk, hpe⟩ := HC5.out cs HCX.out
 have hcl : (cs.map ClaimB.a).length = n := by rw [List.length_map, (HAT.out cs HCX.out).1, HXN.out]
 have hc0 : 0 < cs.length := by rw [(HAT.out cs HCX.out).1, HXN.out]; exact h0
 have HCL := Lib.hid (show ClaimsAt w2 a (cs.map ClaimB.a) from ⟨by rw [made_cells]; exact HCS.out, fun q hq => by obtain ⟨b, hb, rfl⟩ := List.mem_map.1 hq; exact (HCO.out b hb).1.full⟩)
 have hq1 := HPV.out cs hpe a c
 have hq2 := HVF.out cs hpe (HPL.out cs) a c
 have hq3 := HHO.out cs hhk a c
 obtain ⟨ab, ao, rfl, hab, hac⟩ := Sl.elem HCS.out ClaimB.cells_len (by omega) 0 hc0
 have hac1 := hac 1 _ rfl
 have HIB := Lib.hid (HCO.out _ (List.getElem_mem hc0)).1.i
 have HUU := Lib.hid (HUE.out cs HCX.out hc0)
 generalize cs[0] = c0 at *
 have hib := HIB.out.lt
 have hic := HIB.out.cell (i := 0) rfl
 rw [HUU.out] at hic
 obtain ⟨np, hnp⟩ : ∃ m, (prvA (k : Int) label (cs.map ClaimB.a) xs seed).length = m := ⟨_, rfl⟩
 unfold ProveR at hq1
 unfold Gives at hq3
 rw [hcl] at hq1 hq2 hq3
 rw [hnp] at hq1 hq2
 generalize prvA (k : Int) label (cs.map ClaimB.a) xs seed = PA at *
 generalize prvC (k : Int) label (cs.map ClaimB.a) seed = PC at *
 have HQ1 := Lib.hid hq1
 have HQ2 := Lib.hid hq2
 have HQ3 := Lib.hid hq3
 have HAC := Lib.hid hac1
 have HIC := Lib.hid hic
 have HAB := Lib.hid hab
 have HIB := Lib.hid hib
 clear hq1 hq2 hq3 hac hac1 hic hab hib HUU hop hhk hpe hnp hcn HM HPV HVF HHO HUE HAT HC5 HPL HCO HCS
 have BC := Lib.hid (Below.refl w2.heap.size w2)
 go_wp2_with fail
 refine (HQ3.out _ (HCL.out.up BC.out) (HX.out.up HB.out)).mono ?_
 rintro e w3 ⟨rfl, hb9⟩
 replace BC := hbu BC hb9
 replace HB := hbu HB hb9
 replace HZS := sz HZS hb9.size
 clear hb9
 go_wp2_with fail
 refine (HQ1.out _ (HCL.out.up BC.out) (HX.out.up HB.out)).mono ?_
 rintro e w4 ⟨hb9, a1, c1, rfl, hs1, _, _, _⟩
 replace BC := hbu BC hb9
 replace HB := hbu HB hb9
 replace HZS := sz HZS hb9.size
 have HS1 := Lib.hid hs1
 clear hs1 hb9
 have BS1 := Lib.hid (Below.refl w4.heap.size w4)
 obtain ⟨w5, hq5, hb9, hz9, Hbp⟩ := new1 w4 25 [.string PC, .slice a1 np c1]
 replace BC := hbu BC hb9
 replace BS1 := hbu BS1 hb9
 replace HB := hbu HB hb9
 replace HZS := sz HZS hz9.out
 clear hb9 hz9
 have bp_ := Hbp.out.c2
 go_wp2_with fail
 clear hq5
 refine (HQ2.out a1 c1 _ (HCL.out.up BC.out) (HS1.out.up BS1.out)).mono ?_
 rintro e w6 ⟨rfl, hb9⟩
 clear bp_
 replace Hbp := Lib.hid (Hbp.out.up hb9)
 replace BC := hbu BC hb9
 replace BS1 := hbu BS1 hb9
 replace HB := hbu HB hb9
 replace HZS := sz HZS hb9.size
 clear hb9
 have bp_ := Hbp.out.c2
 have hx0 := (HB.out.cell (p := ⟨bx, ox, none⟩) HBX.out).trans HX0.out
 go_wp2_with fail
 refine (HSN.out _).mono ?_
 rintro e w7 ⟨hb9, a2, c2, rfl, hs2, _, _, _⟩
 clear bp_
 replace Hbp := Lib.hid (Hbp.out.up hb9)
 replace BC := hbu BC hb9
 replace BS1 := hbu BS1 hb9
 replace HB := hbu HB hb9
 replace HZS := sz HZS hb9.size
 have HS2 := Lib.hid hs2
 clear hs2 hb9
 have bp_ := Hbp.out.c2
 clear hx0
 have BS2 := Lib.hid (Below.refl w7.heap.size w7)
 have o8_bp_ := bp_; clear bp_
 obtain ⟨w8, hq8, hb9, hz9, Hbq⟩ := new1 w7 25 [.string (sgnC (k : Int) x0 label seed), .slice a2 ns c2]
 replace Hbp := Lib.hid (Hbp.out.up hb9)
 replace BC := hbu BC hb9
 replace BS1 := hbu BS1 hb9
 replace BS2 := hbu BS2 hb9
 replace HB := hbu HB hb9
 replace HZS := sz HZS hz9.out
 clear hb9 hz9
 have bp_ := Hbp.out.c2
 have bq_ := Hbq.out.c2
 have hac1 := (BC.out.cell (p := ⟨ab, ao + 0 * 2 + 1, none⟩) HAB.out).trans HAC.out
 have hic := (BC.out.cell (p := ⟨c0.ib, 0, none⟩) HIB.out).trans HIC.out
 rw [Nat.zero_mul, Nat.add_zero] at hac1
 have hab := Nat.lt_of_lt_of_le HAB.out BC.out.size
 have hib := Nat.lt_of_lt_of_le HIB.out BC.out.size
 go_wp2_with fail
 clear hq8 o8_bp_
 have hl_bp := Hbp.out.lt
 have hl_bq := Hbq.out.lt
 refine wp_region_over (by kernel_rfl) (by kernel_rfl) ?_
 have hov_bp := fun (E : Over w8) o => E.cell (b := w4.heap.size) o hl_bp
 have hov_bq := fun (E : Over w8) o => E.cell (b := w7.heap.size) o hl_bq
 have hov_ab := fun (E : Over w8) o => E.cell (b := ab) o hab
 have hov_c0_ib := fun (E : Over w8) o => E.cell (b := c0.ib) o hib
 repeat (go_big_quiet_step (first | (go_at_call 24; exact calls_over (HSD.out a2 c2 _ (HS2.out.up (below_up BS2.out (Over.h _)))))))
 all_goals (try unfold elV limbV)
 repeat (go_big_quiet_step (first | (go_at_call 24; exact calls_over (HSD.out a2 c2 _ (HS2.out.up (below_up BS2.out (Over.h _)))))))
 all_goals (try unfold elV limbV)
 repeat (go_big_quiet_step (first | (go_at_call 24; exact calls_over (HSD.out a2 c2 _ (HS2.out.up (below_up BS2.out (Over.h _)))))))
 all_goals (try unfold ciphV)
 refine wpQuiet_nil ?_
 rintro _ ⟨E, rfl⟩
 clear hov_bp hl_bp hov_bq hl_bq hov_ab hov_c0_ib bp_
 replace Hbp := Lib.hid (Hbp.out.up E.h)
 clear bq_
 replace Hbq := Lib.hid (Hbq.out.up E.h)
 replace BC := hbu BC E.h
 replace BS1 := hbu BS1 E.h
 replace BS2 := hbu BS2 E.h
 replace HB := hbu HB E.h
 replace HZS := sz HZS E.h.size
 obtain ⟨w9, hq9⟩ : ∃ W9 : World, E.w = W9 := ⟨_, rfl⟩
 rw [hq9] at Hbp Hbq BC BS1 BS2 HB HZS ⊢
 clear hq9 E
 have bp_ := Hbp.out.c2
 have bq_ := Hbq.out.c2
 go_wp2_with fail
 go_ret
 exact ⟨by simp, HB.out⟩
theorem sigmaComplete_any (k : Int) (label o seed : ByteArray) (hlb : label.size < 140737488355328) (hsd : seed.size < 140737488355328) (xs : List ByteArray) (ax : Option Addr) (cx : Nat) (hn : xs.length ≤ 1000000000000) (w : World) (hX : Sl w w.heap.size ax (xs.map Value.string)) :
  Calls Tryz.prog 8 #[.int .i64 k, .string label, .string o, .slice ax xs.length cx, .string seed] w fun e w' => e = .returned (.bool true) ∧ Below w.heap.size w w' := by
 by_cases hk : 1 ≤ k ∧ k ≤ 3
 ·obtain ⟨j, rfl⟩ : ∃ j : Nat, k = j := ⟨k.toNat, by omega⟩
  by_cases ho : isEl (grp j).q.m (grp j).size o = true
  ·by_cases hs : xs.all (isSc (grp j).q.m (grp j).size) = true
   ·by_cases h0 : 0 < xs.length
    ·exact complete_body j (by omega) (by omega) label o seed hlb hsd ho xs _ rfl ax cx hn h0 hs w hX
    ·exact complete_zero j (by omega) (by omega) label o seed ho xs _ rfl ax cx hn true hs (Or.inr (by omega)) w hX
   ·exact complete_zero j (by omega) (by omega) label o seed ho xs _ rfl ax cx hn false (by simpa using hs) (Or.inl rfl) w hX
  ·exact complete_elem j (by omega) (by omega) label o seed (by simpa using ho) _ w
 ·exact complete_unk k hk label o seed _ w
theorem str_upto {H : Type} {enc : TypeId × Value → H} {P : Program} {w : World} {sp : Nat → Bool} {held : Bool} {t : TypeId} {fuel : Nat} {s : ByteArray} {y : DataW H × List MemPlace} {B : Nat} (ht : P.underlying t = some .string) (hB : Rows.uptoBulk y.1 ≤ B) (h : DataW.trod enc P w 0 sp held fuel t [.string s] = some y) : s.size < B + 1 := by
 obtain ⟨s', hs, hy, _⟩ := DataW.trod_string ht h
 simp only [List.cons.injEq, and_true, Value.string.injEq] at hs
 subst hs
 rw [hy] at hB
 have h9 : s.data.toList.length + 1 ≤ B := hB
 have h8 : s.size = s.data.toList.length := rfl
 omega
theorem sigmaComplete_calls {H : Type} (enc : TypeId × Value → H) (W : World) (base : Nat) {v0 v1 v2 v3 v4 : Value} {d0 d1 d2 d3 d4 : DataW H} {p0 p1 p2 p3 p4 : List MemPlace}
  (h0 : DataW.Trod enc Tryz.prog W 0 (fun _ => true) true 3 v0 d0 p0) (h1 : DataW.Trod enc Tryz.prog W 0 (fun _ => true) true 9 v1 d1 p1) (h2 : DataW.Trod enc Tryz.prog W 0 (fun _ => true) true 9 v2 d2 p2) (h3 : DataW.Trod enc Tryz.prog W 0 (fun _ => true) true 23 v3 d3 p3) (h4 : DataW.Trod enc Tryz.prog W 0 (fun _ => true) true 9 v4 d4 p4)
  (k0 : Value.okWide Tryz.prog W .any base 3 v0) (k1 : Value.okWide Tryz.prog W .any base 9 v1) (k2 : Value.okWide Tryz.prog W .any base 9 v2) (k3 : Value.okWide Tryz.prog W .any base 23 v3) (k4 : Value.okWide Tryz.prog W .any base 9 v4)
  (_lt0 : ∀ x ∈ p0, x.block < W.heap.size) (_lt1 : ∀ x ∈ p1, x.block < W.heap.size) (_lt2 : ∀ x ∈ p2, x.block < W.heap.size) (_lt3 : ∀ x ∈ p3, x.block < W.heap.size) (_lt4 : ∀ x ∈ p4, x.block < W.heap.size)
  (hsz : Rows.uptoSmall H ([d0, d1, d2, d3, d4] ++ []) = true) :
  Calls Tryz.prog 8 #[v0, v1, v2, v3, v4] W fun e w' => e = .returned (.bool true) ∧ Below W.heap.size W w' := by
 obtain ⟨k, rfl, _, _, _⟩ := open_int Tryz.underlying3 k0 h0
 obtain ⟨f1, h1⟩ := h1
 obtain ⟨f2, h2⟩ := h2
 obtain ⟨f4, h4⟩ := h4
 obtain ⟨label, rfl, _⟩ := Go.ChangeMaps.open_string Tryz.underlying9 k1 ⟨f1, h1⟩
 obtain ⟨o, rfl, _⟩ := Go.ChangeMaps.open_string Tryz.underlying9 k2 ⟨f2, h2⟩
 obtain ⟨seed, rfl, _⟩ := Go.ChangeMaps.open_string Tryz.underlying9 k4 ⟨f4, h4⟩
 obtain ⟨b3, n3, m3, rfl⟩ := okWide_slice Tryz.underlying23 k3
 have hB : Rows.uptoBulkAll [d0, d1, d2, d3, d4] ≤ 1048576 := of_decide_eq_true hsz
 have hB1 := Nat.le_trans (bulk_part (d := d1) (l := [d0, d1, d2, d3, d4]) (by simp)) hB
 have hB3 := Nat.le_trans (bulk_part (d := d3) (l := [d0, d1, d2, d3, d4]) (by simp)) hB
 have hB4 := Nat.le_trans (bulk_part (d := d4) (l := [d0, d1, d2, d3, d4]) (by simp)) hB
 obtain ⟨f3, h3⟩ := h3
 obtain ⟨ax, cx, xs, e3, hx, hX⟩ := open_strs Tryz.underlying23 Tryz.underlying9 str_cells hB3 h3
 have hz1 := str_upto Tryz.underlying9 hB1 h1
 have hz4 := str_upto Tryz.underlying9 hB4 h4
 rw [e3]
 exact sigmaComplete_any k label o seed (by omega) (by omega) xs ax cx (by omega) W hX
theorem sigmaComplete_lifted (os : Os) (started : os.Started) (H : Type) (enc : TypeId × Value → H) (F : Stop.Interp) :
  ReturnsInHanded {} Tryz.checked os 8 .any ((Rows.OpenSpec.upto Rows.sigmaCompleteSpec).pre6 enc Tryz.prog Tryz.f8 Rows.sigmaCompleteUptoRow.domain false) (((Rows.OpenSpec.upto Rows.sigmaCompleteSpec).at F).post enc Tryz.prog Tryz.f8 false true false false) := by
 refine returnsInHanded_of_cond (C := Tryz.checked) (s := Rows.OpenSpec.upto Rows.sigmaCompleteSpec) (k := Rows.uptoSmall) rfl law_own started (by kernel_rfl) Tryz.func8
  (OpenSpec.witness (enc := enc) (C := Tryz.checked) (s := Rows.OpenSpec.upto Rows.sigmaCompleteSpec) (k := Rows.uptoSmall) rfl false ⟨#[], #[.int .i64 0, .string ⟨#[]⟩, .string ⟨#[]⟩, .slice none 0 0, .string ⟨#[]⟩], []⟩ 8 (by kernel_rfl) (by kernel_rfl) (by kernel_rfl)
   (x := ([.lit (.int .i64 0), .lit (.string []), .lit (.string []), .nil, .lit (.string [])], [], [])) (by kernel_rfl) rfl (by kernel_rfl)) ?_
 intro W base args ds gs before hval0 hW _ hsz0 _
 have hsz : Rows.uptoSmall H (ds ++ gs) = true := hsz0
 clear hsz0
 have hval : ∀ (j : Nat) t v, Tryz.f8.params[j]? = some t → args[j]? = some v → Value.okWide Tryz.prog W .any base t v := hval0
 have hW' := hW
 obtain ⟨p, q, hA0, hV, rfl, _, _⟩ := hW
 have hA : DataW.TrodAll enc Tryz.prog W 0 (fun _ => true) true Tryz.f8.params.toList args.toList ds p := hA0
 rw [Tryz.params8] at hA hval
 obtain ⟨v0, vs0, d0, ds0, p0, q0, hargs, rfl, rfl, h0, r0⟩ := trodAll_cons hA
 obtain ⟨v1, vs1, d1, ds1, p1, q1, rfl, rfl, rfl, h1, r1⟩ := trodAll_cons r0
 obtain ⟨v2, vs2, d2, ds2, p2, q2, rfl, rfl, rfl, h2, r2⟩ := trodAll_cons r1
 obtain ⟨v3, vs3, d3, ds3, p3, q3, rfl, rfl, rfl, h3, r3⟩ := trodAll_cons r2
 obtain ⟨v4, vs4, d4, ds4, p4, q4, rfl, rfl, rfl, h4, r4⟩ := trodAll_cons r3
 obtain ⟨rfl, rfl, rfl⟩ := trodAll_nil r4
 obtain rfl : args = #[v0, v1, v2, v3, v4] := by cases args; simp_all
 obtain ⟨rfl, rfl⟩ := trodVars_none hV
 have lt0 : ∀ x ∈ p0, x.block < W.heap.size := by obtain ⟨m, hm⟩ := h0; exact DataW.trod_lt m _ _ _ hm
 have lt1 : ∀ x ∈ p1, x.block < W.heap.size := by obtain ⟨m, hm⟩ := h1; exact DataW.trod_lt m _ _ _ hm
 have lt2 : ∀ x ∈ p2, x.block < W.heap.size := by obtain ⟨m, hm⟩ := h2; exact DataW.trod_lt m _ _ _ hm
 have lt3 : ∀ x ∈ p3, x.block < W.heap.size := by obtain ⟨m, hm⟩ := h3; exact DataW.trod_lt m _ _ _ hm
 have lt4 : ∀ x ∈ p4, x.block < W.heap.size := by obtain ⟨m, hm⟩ := h4; exact DataW.trod_lt m _ _ _ hm
 clear hA0 hval0
 refine (sigmaComplete_calls enc W base h0 h1 h2 h3 h4 (hval 0 3 v0 rfl rfl) (hval 1 9 v1 rfl rfl) (hval 2 9 v2 rfl rfl) (hval 3 23 v3 rfl rfl) (hval 4 9 v4 rfl rfl) lt0 lt1 lt2 lt3 lt4 hsz).mono fun e W' ⟨he, bel⟩ => ?_
 subst he
 exact ⟨_, rfl, _, _, _, [], _, [], hW', trodAll_mk1 (shut_bool Tryz.underlying4 _), (trodAll_cons_mk (Below.trod law_laidOut (by kernel_rfl) (of_decide_eq_true (by kernel_rfl)) h0 bel lt0) (trodAll_cons_mk (Below.trod law_laidOut (by kernel_rfl) (of_decide_eq_true (by kernel_rfl)) h1 bel lt1) (trodAll_cons_mk (Below.trod law_laidOut (by kernel_rfl) (of_decide_eq_true (by kernel_rfl)) h2 bel lt2) (trodAll_cons_mk (Below.trod law_laidOut (by kernel_rfl) (of_decide_eq_true (by kernel_rfl)) h3 bel lt3) (trodAll_cons_mk (Below.trod law_laidOut (by kernel_rfl) (of_decide_eq_true (by kernel_rfl)) h4 bel lt4) trodAll_mk0))))), rfl, bel.frame _, fun h => by cases h⟩
theorem sigmaComplete_holds : Rows.SigmaCompleteUptoSaid :=
 OpenClaim.holds_of_cond 8 Tryz.f8 rfl rfl rfl rfl rfl rfl rfl ⟨rfl, rfl, rfl, rfl, rfl⟩ rfl rfl rfl rfl rfl (by kernel_rfl) Tryz.func8 (by kernel_rfl)
  (of_decide_eq_true (by kernel_rfl)) (by unfold Func.isWrapper; first | (rw [if_pos (by decide +kernel)]; kernel_rfl) | (rw [if_neg (by decide +kernel)]; exact ⟨rfl, rfl⟩))
  (fun os started H enc _ F => sigmaComplete_lifted os started H enc F)
#print axioms sigmaComplete_holds
end Go.Proofs.YtdlnnkbigeiilaaGreat
