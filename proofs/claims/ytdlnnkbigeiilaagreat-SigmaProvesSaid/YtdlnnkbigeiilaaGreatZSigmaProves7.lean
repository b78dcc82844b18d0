/- SigmaProves: Prove of anything answers what the document says. No condition. -/
import Derived.Test.YtdlnnkbigeiilaaGreatZSigmaProves6
import Derived.Outline

/- Prove of the package sigma. Condition: the sizes and rooms of what came in. -/
namespace Go.Proofs.YtdlnnkbigeiilaaGreat
open Go.RowKit

theorem Sl.setO {W : World} {b : Nat} {a : Option Addr} {xs : List Value} (h : Sl W W.heap.size a xs) (hne : ∀ x, a = some x → x.block ≠ b) (i : Nat) (v : Value) : Sl (W.setCell ⟨b, i, none⟩ v) (W.setCell ⟨b, i, none⟩ v).heap.size a xs := by
  rcases h with h | ⟨q, o, rfl, hq, hc⟩
  · exact Or.inl h
  · refine Or.inr ⟨q, o, rfl, by simpa [World.setCell] using hq, fun j u hu => ?_⟩
    rw [World.cell?_setCell_other _ _ _ _ (by intro e; exact hne _ rfl (congrArg Addr.block e).symm)]
    exact hc j u hu
set_option maxRecDepth 100000 in
set_option maxHeartbeats 4000000 in
theorem sProve_any (k : Int) (label : ByteArray) (hlb : label.size < 140737488355328) (l : List ClaimA) (al : Option Addr) (cl : Nat) (xs : List ByteArray) (ax : Option Addr) (cx : Nat) (hn : xs.length ≤ 8796093022207) (seed : ByteArray) (hsd : seed.size < 140737488355328) (hcap : ∀ c ∈ l, CapOk c) (w : World) (hC : ClaimsAt w al l) (hS : Sl w w.heap.size ax (xs.map Value.string)) :
    Calls Tryz.prog 14 #[.int .i64 k, .string label, .slice al l.length cl, .slice ax xs.length cx, .string seed] w (ProveR (prvE k l xs : Int) (if prvE k l xs = 0 then prvC k label l seed else ⟨#[]⟩) (if prvE k l xs = 0 then prvA k label l xs seed else []) w) := by
  have HCAP := Lib.hid hcap
  have HO := Lib.hid (fun w1 (hb : Below w.heap.size w w1) => open_any k l al cl xs ax cx hn w1 (hC.up hb) (hS.up hb))
  obtain ⟨z, hz⟩ : ∃ z, openK k l xs = z := ⟨_, rfl⟩
  have HE := Lib.hid (show prvE k l xs = if z = 0 then (if holdP (grp k.toNat) l xs = true then 0 else 8) else z by rw [← hz]; rfl)
  rw [hz] at HO
  clear hC hS hcap
  by_cases h0 : z = 0
  · subst h0
    obtain ⟨b, hb0⟩ : ∃ b, holdP (grp k.toNat) l xs = b := ⟨_, rfl⟩
    have HHB := Lib.hid hb0
    obtain ⟨hk9, hsh9, hr99⟩ := openK_ok hz
    clear hr99
    have hl64' := (shape_ok hsh9).2.1
    have OK0 := Lib.hid (grp_ok k.toNat (by omega) (by omega))
    have hs1 : (prvT k label l).size = 32 := sayCl_size _ _ (say1_size _ _ _)
    have hs2 : (say1 (prvT k label l) seedB seed).size = 32 := say1_size _ _ _
    have hs3 : (sayFi (prvT k label l) (prvF k label l seed)).size = 32 := sayFi_size _ _ hs1
    have HF1 := Lib.hid (fun gb w hG => sbegin_any (grp k.toNat) gb claimsB label (by decide) hlb (by rw [grp_kind k.toNat (by omega) (by omega)]; omega) w hG)
    have HF2 := Lib.hid (fun gv tb (rs : List ClaimR) (hrs : rs.map ClaimR.k = l) sh al cl w0 w hb htb hT hS hC => (show Calls Tryz.prog 39 #[.agg #[gv, .slice al l.length cl], .pointer (some ⟨tb, 0, none⟩)] w fun e w' => e = .returned (.tuple #[]) ∧ TalkAt w' tb (prvT k label l) ∧ Kept (fun q => q = tb) w w' from by
      have h := say_any (grp k.toNat) gv tb (beginT claimsB label k) rs rs.length rfl (by rw [← hrs, List.length_map] at hl64'; exact hl64') (say1_size _ _ _) sh al cl w0 w hb htb hT hS hC
      rw [hrs, show rs.length = l.length by rw [← hrs, List.length_map]] at h
      exact h))
    have HF3 := Lib.hid (fun tb w hT => seeded_any tb (prvT k label l) seed hs1 hsd w hT)
    have HF4 := Lib.hid (fun gb fb a c w hG hT hne => asked_any (grp k.toNat) OK0.out gb fb a l.length c hl64' (say1 (prvT k label l) seedB seed) hs2 w hG hT hne)
    have HF5 := Lib.hid (fun tb (ro : List RowA) (hro : ro.map RowA.l = prvF k label l seed) sh hok al cl w hT hC ha hr => (show Calls Tryz.prog 40 #[.pointer (some ⟨tb, 0, none⟩), .slice al ro.length cl] w fun e w' => e = .returned (.tuple #[]) ∧ TalkAt w' tb (sayFi (prvT k label l) (prvF k label l seed)) ∧ Kept (fun q => q = tb) w w' from by
      have h := said_any tb (prvT k label l) ro ro.length rfl (by rw [show ro.length = l.length by have h9 := congrArg List.length hro; rw [List.length_map] at h9; rw [h9]; unfold prvF; rw [eachA_len]]; exact hl64') hs1 sh hok al cl w hT hC ha hr
      rw [hro] at h
      exact h))
    have HF6 := Lib.hid (fun gb tb w hG hT hne => gChallenge_any (grp k.toNat) OK0.out gb tb (sayFi (prvT k label l) (prvF k label l seed)) challengeB (by rw [hs3]; decide) (by decide) w hG hT hne)
    have HNL := Lib.hid (show (prvL k label l seed).length = l.length from nonceL_len _ _ _)
    have HFF := Lib.hid (show prvF k label l seed = eachA (grp k.toNat) (valF (grp k.toNat) l (prvL k label l seed)) (lens l) l.length from rfl)
    have HRC := Lib.hid (show prvC k label l seed = textS (prvN k label l seed % (grp k.toNat).q.m) (grp k.toNat).size from rfl)
    have HRA := Lib.hid (show prvA k label l xs seed = ansL (grp k.toNat) (prvN k label l seed) (prvL k label l seed) xs from rfl)
    have HRN := Lib.hid (show prvN k label l seed = chN (sayFi (prvT k label l) (prvF k label l seed)) challengeB from rfl)
    generalize prvC k label l seed = PC at *
    generalize prvA k label l xs seed = PA at *
    generalize hqn : prvN k label l seed = PN at *
    generalize prvF k label l seed = PF at *
    generalize sayFi (prvT k label l) PF = t3 at *
    rw [← HRN.out] at HF6
    generalize chT t3 challengeB = t4 at *
    have hLL : nonceL (grp k.toNat) (say1 (prvT k label l) seedB seed) l.length = prvL k label l seed := rfl
    rw [hLL] at HF4
    generalize prvL k label l seed = NL at *
    generalize askT (say1 (prvT k label l) seedB seed) l.length = t5 at *
    generalize say1 (prvT k label l) seedB seed = t2 at *
    generalize prvT k label l = t1 at *
    generalize beginT claimsB label = BT at *
    clear hs1 hs2 hs3 hqn hLL hb0 hsd hlb
    clear hl64' hsh9 hk9
    cases b
    · have HE2 := Lib.hid (show prvE k l xs = 8 by rw [HE.out, if_pos rfl, if_neg (by rw [HHB.out]; simp)])
      rw [HE2.out, if_neg (by decide), if_neg (by decide)]
      clear HE HE2
      go_enter Tryz.func14, Tryz.ntmps14
      go_wp2_with fail
      obtain ⟨w1, hq1, hb9, hz9, Hout⟩ := new1 w 25 [.string ⟨#[]⟩, .slice none 0 0]
      rw [hq1]
      clear hq1
      have HB := Lib.hid hb9
      have HZS := hz9
      clear hb9 hz9
      have out_ := Hout.out.c2
      go_wp2_with fail
      refine (HO.out _ HB.out).mono ?_
      rintro e w2 ⟨hb9, pp, qa, qn, qc, v, rfl, hok⟩
      clear out_
      replace Hout := Lib.hid (Hout.out.up hb9)
      replace HB := hbu HB hb9
      replace HZS := sz HZS hb9.size
      have HOK := Lib.hid hok
      clear hok
      clear hb9
      have out_ := Hout.out.c2
      obtain ⟨gb, rs, a, c, a', c', e1, e2, rfl, hrk, hg9, hs9, hp9, hx9⟩ := HOK.out rfl
      obtain rfl := Value.pointer.inj e1
      obtain ⟨rfl, rfl, rfl⟩ := Value.slice.inj e2
      obtain ⟨hk9, hsh, hel, hxl, hxa⟩ := openK_ok hz
      have HRK := Lib.hid hrk
      have HRL := Lib.hid (show rs.length = l.length by rw [← hrk, List.length_map])
      have HG := Lib.hid hg9
      have HST := Lib.hid hs9
      have HXX := Lib.hid hx9
      have HSP := Lib.hid hp9
      have HXL := Lib.hid hxl
      have HK9 := Lib.hid hk9
      have hl64 := (shape_ok hsh).2.1
      have HSHP := Lib.hid (show ∀ r ∈ rs, r.k.bases.length ≤ 8 ∧ r.k.images.length = r.k.bases.length from fun r hr => by
        have h9 := (shape_ok hsh).2.2 r.k (by rw [← hrk]; exact List.mem_map.2 ⟨r, hr, rfl⟩)
        exact ⟨h9.2.1, h9.2.2⟩)
      have OK := Lib.hid (grp_ok k.toNat (by omega) (by omega))
      have HSY := Lib.hid (show ∀ r ∈ rs, SayOk r.k ∧ CapOk r.k from fun r hr => by
        have hm : r.k ∈ l := by rw [← hrk]; exact List.mem_map.2 ⟨r, hr, rfl⟩
        have h9 := (shape_ok hsh).2.2 r.k hm
        have h8 := List.all_eq_true.1 hel r.k hm
        unfold cElems at h8
        rw [Bool.and_eq_true] at h8
        have hs := OK.out.size_le
        have hsm : ∀ s, isEl (grp k.toNat).q.m (grp k.toNat).size s = true → s.size ≤ 32 := fun s h => by
          unfold isEl at h
          simp only [Bool.and_eq_true, decide_eq_true_eq, beq_iff_eq] at h
          omega
        exact ⟨⟨h9.2.1, by omega, fun x hx => hsm x (List.all_eq_true.1 h8.1 x hx), fun x hx => hsm x (List.all_eq_true.1 h8.2 x hx)⟩, HCAP.out _ hm⟩)
      rw [show xs.length = rs.length by rw [HXL.out, HRL.out]]
      clear hrk hg9 hs9 hp9 hx9 hsh hel hxl hxa hk9 HOK
      rw [HRL.out]
      have BS := Lib.hid (Below.refl w2.heap.size w2)
      have o3_out_ := out_; clear out_
      obtain ⟨w3, hq3, hb9, hz9, Hbs⟩ := new1 w2 64 [.pointer (some ⟨gb, 0, none⟩), .slice qa l.length qc]
      replace Hout := Lib.hid (Hout.out.up hb9)
      replace BS := hbu BS hb9
      replace HB := hbu HB hb9
      replace HZS := sz HZS hz9.out
      clear hb9 hz9
      have out_ := Hout.out.c2
      have bs_ := Hbs.out.c2
      go_wp2_with fail
      clear hq3 o3_out_
      refine (holds_any (grp k.toNat) OK.out gb rs l.length HRL.out qa qc xs HXL.out a' c' hl64 HSHP.out false (by rw [HRK.out, ← HHB.out]) w3 (HG.out.up BS.out) (HST.out.up BS.out) (HXX.out.up BS.out)).mono ?_
      rintro e w4 ⟨rfl, hb9⟩
      clear out_
      replace Hout := Lib.hid (Hout.out.up hb9)
      clear bs_
      replace Hbs := Lib.hid (Hbs.out.up hb9)
      replace BS := hbu BS hb9
      replace HB := hbu HB hb9
      replace HZS := sz HZS hb9.size
      clear hb9
      have out_ := Hout.out.c2
      have bs_ := Hbs.out.c2
      clear BS
      have f5_out := Hout.out.frozen
      have o5_out_ := out_; clear out_
      have o5_bs_ := bs_; clear bs_
      obtain ⟨w5, hq5, hg9, hz9, hx9⟩ := put2 Hout 0 (.string ⟨#[]⟩) 1 (.slice none 0 0) [.string ⟨#[]⟩, .slice none 0 0] rfl
      replace Hbs := Lib.hid (Hbs.out.grown hg9.out (sne (by have g0 := HZS.out; omega)))
      replace HB := hbg HB hg9 (by have g0 := HZS.out; omega)
      replace HZS := sz HZS hz9.out
      replace Hout := hx9
      clear hx9 hg9 hz9
      have out_ := Hout.out.c2
      have bs_ := Hbs.out.c2
      go_wp2_with fail
      clear hq5 o5_bs_ o5_out_ f5_out
      simp [bodyPost, results, Tryz.results14, go_sem, out_]
      exact proveR_none _ HB.out
    · have HE2 := Lib.hid (show prvE k l xs = 0 by rw [HE.out, if_pos rfl, if_pos HHB.out])
      rw [HE2.out, if_pos rfl, if_pos rfl]
      clear HE HE2
      go_enter Tryz.func14, Tryz.ntmps14
      go_wp2_with fail
      obtain ⟨w1, hq1, hb9, hz9, Hout⟩ := new1 w 25 [.string ⟨#[]⟩, .slice none 0 0]
      rw [hq1]
      clear hq1
      have HB := Lib.hid hb9
      have HZS := hz9
      clear hb9 hz9
      have out_ := Hout.out.c2
      go_wp2_with fail
      refine (HO.out _ HB.out).mono ?_
      rintro e w2 ⟨hb9, pp, qa, qn, qc, v, rfl, hok⟩
      clear out_
      replace Hout := Lib.hid (Hout.out.up hb9)
      replace HB := hbu HB hb9
      replace HZS := sz HZS hb9.size
      have HOK := Lib.hid hok
      clear hok
      clear hb9
      have out_ := Hout.out.c2
      obtain ⟨gb, rs, a, c, a', c', e1, e2, rfl, hrk, hg9, hs9, hp9, hx9⟩ := HOK.out rfl
      obtain rfl := Value.pointer.inj e1
      obtain ⟨rfl, rfl, rfl⟩ := Value.slice.inj e2
      obtain ⟨hk9, hsh, hel, hxl, hxa⟩ := openK_ok hz
      have HRK := Lib.hid hrk
      have HRL := Lib.hid (show rs.length = l.length by rw [← hrk, List.length_map])
      have HG := Lib.hid hg9
      have HST := Lib.hid hs9
      have HXX := Lib.hid hx9
      have HSP := Lib.hid hp9
      have HXL := Lib.hid hxl
      have HK9 := Lib.hid hk9
      have hl64 := (shape_ok hsh).2.1
      have HSHP := Lib.hid (show ∀ r ∈ rs, r.k.bases.length ≤ 8 ∧ r.k.images.length = r.k.bases.length from fun r hr => by
        have h9 := (shape_ok hsh).2.2 r.k (by rw [← hrk]; exact List.mem_map.2 ⟨r, hr, rfl⟩)
        exact ⟨h9.2.1, h9.2.2⟩)
      have OK := Lib.hid (grp_ok k.toNat (by omega) (by omega))
      have HSY := Lib.hid (show ∀ r ∈ rs, SayOk r.k ∧ CapOk r.k from fun r hr => by
        have hm : r.k ∈ l := by rw [← hrk]; exact List.mem_map.2 ⟨r, hr, rfl⟩
        have h9 := (shape_ok hsh).2.2 r.k hm
        have h8 := List.all_eq_true.1 hel r.k hm
        unfold cElems at h8
        rw [Bool.and_eq_true] at h8
        have hs := OK.out.size_le
        have hsm : ∀ s, isEl (grp k.toNat).q.m (grp k.toNat).size s = true → s.size ≤ 32 := fun s h => by
          unfold isEl at h
          simp only [Bool.and_eq_true, decide_eq_true_eq, beq_iff_eq] at h
          omega
        exact ⟨⟨h9.2.1, by omega, fun x hx => hsm x (List.all_eq_true.1 h8.1 x hx), fun x hx => hsm x (List.all_eq_true.1 h8.2 x hx)⟩, HCAP.out _ hm⟩)
      rw [show xs.length = rs.length by rw [HXL.out, HRL.out]]
      clear hrk hg9 hs9 hp9 hx9 hsh hel hxl hxa hk9 HOK
      rw [HRL.out]
      have BS := Lib.hid (Below.refl w2.heap.size w2)
      have o3_out_ := out_; clear out_
      obtain ⟨w3, hq3, hb9, hz9, Hbs⟩ := new1 w2 64 [.pointer (some ⟨gb, 0, none⟩), .slice qa l.length qc]
      replace Hout := Lib.hid (Hout.out.up hb9)
      replace BS := hbu BS hb9
      replace HB := hbu HB hb9
      replace HZS := sz HZS hz9.out
      clear hb9 hz9
      have out_ := Hout.out.c2
      have bs_ := Hbs.out.c2
      go_wp2_with fail
      clear hq3 o3_out_
      refine (holds_any (grp k.toNat) OK.out gb rs l.length HRL.out qa qc xs HXL.out a' c' hl64 HSHP.out true (by rw [HRK.out, ← HHB.out]) w3 (HG.out.up BS.out) (HST.out.up BS.out) (HXX.out.up BS.out)).mono ?_
      rintro e w4 ⟨rfl, hb9⟩
      clear out_
      replace Hout := Lib.hid (Hout.out.up hb9)
      clear bs_
      replace Hbs := Lib.hid (Hbs.out.up hb9)
      replace BS := hbu BS hb9
      replace HB := hbu HB hb9
      replace HZS := sz HZS hb9.size
      clear hb9
      have out_ := Hout.out.c2
      have bs_ := Hbs.out.c2
      go_wp2_with fail
      have HST5 := Lib.hid (HST.out.up BS.out)
      have HSP5 := Lib.hid (fun r hr => (HSP.out r hr).up BS.out)
      have HGL := Lib.hid (Nat.lt_of_lt_of_le HG.out.lt BS.out.size)
      have HZW := Lib.hid HB.out.size
      have HZB := Lib.hid BS.out.size
      have HKK := Lib.hid (show ((grp k.toNat).kind : Int) = k by rw [grp_kind k.toNat (by have := HK9.out; omega) (by have := HK9.out; omega)]; have := HK9.out; omega)
      have BQ := Lib.hid (Below.refl w4.heap.size w4)
      refine (HF1.out gb w4 (HG.out.up BS.out)).mono ?_
      rintro e wa ⟨tb, rfl, hge, ht, hb9⟩
      rw [HKK.out] at ht
      have HGE := Lib.hid (show w4.heap.size ≤ tb from hge)
      have Ht := Lib.hid (show Bx wa tb 192 [.string (BT k)] from ht)
      clear hge ht
      clear out_
      replace Hout := Lib.hid (Hout.out.up hb9)
      clear bs_
      replace Hbs := Lib.hid (Hbs.out.up hb9)
      replace BS := hbu BS hb9
      replace BQ := hbu BQ hb9
      replace HB := hbu HB hb9
      replace HZS := sz HZS hb9.size
      clear hb9
      have out_ := Hout.out.c2
      have bs_ := Hbs.out.c2
      replace HZS := sz HZS HGE.out
      replace HZS := sz HZS HZW.out
      replace HZS := sz HZS HZB.out
      have t_ := Ht.out.c1
      go_wp2_with fail
      refine (HF2.out _ tb rs HRK.out HSY.out qa qc w4 wa BQ.out HGE.out Ht.out HST5.out HSP5.out).mono ?_
      rintro e wb ⟨rfl, ht, hk⟩
      have HK1 := Lib.hid hk
      have Ht1 := Lib.hid (show Bx wb tb 192 [.string t1] from ht)
      clear ht hk
      have hg9 := HK1.out
      clear out_
      clear bs_
      clear t_
      clear Ht
      replace Hout := Lib.hid (Hout.out.keptP hg9 (show ¬ (_ = tb) by have g0 := HZS.out; omega))
      replace Hbs := Lib.hid (Hbs.out.keptP hg9 (show ¬ (_ = tb) by have g0 := HZS.out; omega))
      replace BS := Lib.hid (Below.keptP BS.out hg9 (by have g0 := HZS.out; omega) (fun q9 h9 => (show w2.heap.size ≤ _ by subst h9; have g0 := HZS.out; omega)))
      replace BQ := Lib.hid (Below.keptP BQ.out hg9 (by have g0 := HZS.out; omega) (fun q9 h9 => (show w4.heap.size ≤ _ by subst h9; have g0 := HZS.out; omega)))
      replace HB := Lib.hid (Below.keptP HB.out hg9 (by have g0 := HZS.out; omega) (fun q9 h9 => (show w.heap.size ≤ _ by subst h9; have g0 := HZS.out; omega)))
      replace HZS := sz HZS (show wa.heap.size ≤ wb.heap.size from hg9.size)
      clear hg9
      have out_ := Hout.out.c2
      have bs_ := Hbs.out.c2
      have Ht := Ht1
      clear Ht1
      have t_ := Ht.out.c1
      have HTL := Lib.hid Ht.out.lt
      replace HZS := sz HZS HTL.out
      have BP := Lib.hid (Below.refl wb.heap.size wb)
      go_wp2_with fail
      have HT := Lib.hid (show Below wb.heap.size wb wb.drew from (Below.refl _ _).drew)
      have hl_out := Hout.out.lt
      have hl_bs := Hbs.out.lt
      have hl_t := Ht.out.lt
      refine wp_region_tree (fun wq9 => ∃ E : Over wb, wq9 = E.w) ((.qs [0, 1, 2] (.a 3 (.a 4 (.qs [5] .done))))) (by kernel_rfl) (by kernel_rfl) (fun _ _ d _ _ h => by cases d <;> exact h) ⟨⟨_, HT.out⟩, rfl⟩ ?_
      have hov_out := fun (E : Over wb) o => E.cell (b := w.heap.size) o hl_out
      have hov_bs := fun (E : Over wb) o => E.cell (b := w2.heap.size) o hl_bs
      have hov_t := fun (E : Over wb) o => E.cell (b := tb) o hl_t
      simp only [Tree.qs]
      repeat (refine tree_q rfl rfl ?_; go_big_quiet_step (fail); refine wpQuiet_nil ?_)
      refine tree_a rfl (fun K hK => ?_)
      go_simp
      refine (HF3.out tb _ (Bx.up Ht.out HT.out)).mono ?_
      rintro e wc ⟨fb, rfl, hfg, hft, hfb⟩
      replace HT := Lib.hid (below_up HT.out hfb)
      have HFG := Lib.hid (show wb.heap.size ≤ fb from hfg)
      have HFT := Lib.hid hft
      refine hK _ _ ⟨⟨⟨wc, HT.out⟩, rfl⟩, ?_⟩
      have HWC := Lib.hid (show wb.heap.size ≤ wc.heap.size from hfb.size)
      clear hK K hfg hft hfb
      repeat (refine tree_q rfl rfl ?_; go_big_quiet_step (fail); refine wpQuiet_nil ?_)
      refine tree_a rfl (fun K hK => ?_)
      go_simp
      refine (HF4.out gb fb qa qc _ ((HG.out.up BS.out).up HT.out) HFT.out (show ¬ gb = fb by have h1 := HGL.out; have h2 := HFG.out; have h3 := HZS.out; omega)).mono ?_
      rintro e wd ⟨a2, c2, rfl, hs2, hf2, ht2, hk2⟩
      have HS2 := Lib.hid hs2
      have HFR := Lib.hid hf2
      replace HT := Lib.hid (Below.keptP HT.out hk2 HT.out.size (fun q hq => hq ▸ HFG.out))
      refine hK _ _ ⟨⟨⟨wd, HT.out⟩, rfl⟩, ?_⟩
      clear hK K hs2 hf2 ht2 hk2 HFT
      repeat (refine tree_q rfl rfl ?_; go_big_quiet_step (fail); refine wpQuiet_nil ?_)
      refine tree_end ?_
      clear hov_out hl_out hov_bs hl_bs hov_t hl_t
      clear out_
      replace Hout := Lib.hid (Hout.out.up HT.out)
      clear bs_
      replace Hbs := Lib.hid (Hbs.out.up HT.out)
      clear t_
      replace Ht := Lib.hid (Ht.out.up HT.out)
      replace BS := hbu BS HT.out
      replace BQ := hbu BQ HT.out
      replace BP := hbu BP HT.out
      replace HK1 := Lib.hid (Kept.up HK1.out HT.out)
      replace HB := hbu HB HT.out
      replace HZS := sz HZS HT.out.size
      clear HT
      have out_ := Hout.out.c2
      have bs_ := Hbs.out.c2
      have t_ := Ht.out.c1
      have BD := Lib.hid (Below.refl wd.heap.size wd)
      go_wp2_with fail
      have HFE := Lib.hid (show eachA (grp k.toNat) (valF (grp k.toNat) (rs.map ClaimR.k) NL) (lens (rs.map ClaimR.k)) l.length = PF by rw [HRK.out]; exact HFF.out.symm)
      refine (firsts_any (grp k.toNat) OK.out gb rs l.length HRL.out hl64 (fun r hr => (HSHP.out r hr).1) qa qc NL HNL.out a2 c2 wd (HG.out.up BS.out) (HST.out.up BS.out) HS2.out).mono ?_
      rintro e w5 ⟨hb9, a9, c9, ro, rfl, hm9, hr9, hz9⟩
      clear out_
      replace Hout := Lib.hid (Hout.out.up hb9)
      clear bs_
      replace Hbs := Lib.hid (Hbs.out.up hb9)
      clear t_
      replace Ht := Lib.hid (Ht.out.up hb9)
      replace BS := hbu BS hb9
      replace BQ := hbu BQ hb9
      replace BP := hbu BP hb9
      replace BD := hbu BD hb9
      replace HK1 := Lib.hid (Kept.up HK1.out hb9)
      replace HB := hbu HB hb9
      replace HZS := sz HZS hb9.size
      have HMR := Lib.hid hm9
      clear hm9
      have HRR := Lib.hid hr9
      clear hr9
      have HZR := Lib.hid hz9
      clear hz9
      clear hb9
      have out_ := Hout.out.c2
      have bs_ := Hbs.out.c2
      have t_ := Ht.out.c1
      rw [HFE.out] at HMR
      rw [HFE.out, ← HMR.out, List.length_map]
      go_wp2_with fail
      refine (HF5.out tb ro HMR.out (eachA_small OK.out.size_le (lens_small fun c hc => by obtain ⟨r, hr, rfl⟩ := List.mem_map.1 hc; exact (HSHP.out r hr).1) (HMR.out.trans HFE.out.symm)) (fun r hr => (HZR.out.1 r hr).2) a9 c9 w5 Ht.out HRR.out (fun x hx e => by have h1 := HZR.out.2.1 x hx; have h2 := HTL.out; have h3 := HZS.out; omega) (fun r hr x hx e => by have h1 := HZR.out.2.2 r hr x hx; have h2 := HTL.out; have h3 := HZS.out; omega)).mono ?_
      rintro e we ⟨rfl, ht, hk⟩
      have HK2 := Lib.hid hk
      have Ht1 := Lib.hid (show Bx we tb 192 [.string t3] from ht)
      have HS9 := Lib.hid (Sl.kept (HS2.out.up BD.out) hk (fun x hx e => by have h1 := HFR.out x hx; have h2 := HTL.out; have h3 := HWC.out; omega))
      clear ht hk
      clear BP BD
      have hg9 := HK2.out
      clear out_
      clear bs_
      clear t_
      clear Ht
      replace Hout := Lib.hid (Hout.out.keptP hg9 (show ¬ (_ = tb) by have g0 := HZS.out; omega))
      replace Hbs := Lib.hid (Hbs.out.keptP hg9 (show ¬ (_ = tb) by have g0 := HZS.out; omega))
      replace BS := Lib.hid (Below.keptP BS.out hg9 (by have g0 := HZS.out; omega) (fun q9 h9 => (show w2.heap.size ≤ _ by subst h9; have g0 := HZS.out; omega)))
      replace BQ := Lib.hid (Below.keptP BQ.out hg9 (by have g0 := HZS.out; omega) (fun q9 h9 => (show w4.heap.size ≤ _ by subst h9; have g0 := HZS.out; omega)))
      replace HB := Lib.hid (Below.keptP HB.out hg9 (by have g0 := HZS.out; omega) (fun q9 h9 => (show w.heap.size ≤ _ by subst h9; have g0 := HZS.out; omega)))
      replace HZS := sz HZS (show w5.heap.size ≤ we.heap.size from hg9.size)
      clear hg9
      have out_ := Hout.out.c2
      have bs_ := Hbs.out.c2
      have Ht := Ht1
      clear Ht1
      have t_ := Ht.out.c1
      go_wp2_with fail
      refine (HF6.out gb tb we (HG.out.up BS.out) Ht.out (show ¬ gb = tb by have h1 := HGL.out; have h2 := HGE.out; omega)).mono ?_
      rintro e wf ⟨rfl, ht, hk⟩
      have HK3 := Lib.hid hk
      have HS8 := Lib.hid (Sl.kept HS9.out hk (fun x hx e => by have h1 := HFR.out x hx; have h2 := HTL.out; have h3 := HWC.out; omega))
      clear ht hk HS9
      have hg9 := HK3.out
      clear out_
      clear bs_
      clear t_
      clear Ht
      replace Hout := Lib.hid (Hout.out.keptP hg9 (show ¬ (_ = tb) by have g0 := HZS.out; omega))
      replace Hbs := Lib.hid (Hbs.out.keptP hg9 (show ¬ (_ = tb) by have g0 := HZS.out; omega))
      replace BS := Lib.hid (Below.keptP BS.out hg9 (by have g0 := HZS.out; omega) (fun q9 h9 => (show w2.heap.size ≤ _ by subst h9; have g0 := HZS.out; omega)))
      replace BQ := Lib.hid (Below.keptP BQ.out hg9 (by have g0 := HZS.out; omega) (fun q9 h9 => (show w4.heap.size ≤ _ by subst h9; have g0 := HZS.out; omega)))
      replace HB := Lib.hid (Below.keptP HB.out hg9 (by have g0 := HZS.out; omega) (fun q9 h9 => (show w.heap.size ≤ _ by subst h9; have g0 := HZS.out; omega)))
      replace HZS := sz HZS (show we.heap.size ≤ wf.heap.size from hg9.size)
      clear hg9
      have out_ := Hout.out.c2
      have bs_ := Hbs.out.c2
      have BF := Lib.hid (Below.refl wf.heap.size wf)
      unfold scV limbV
      have o6_out_ := out_; clear out_
      have o6_bs_ := bs_; clear bs_
      obtain ⟨w6, hq6, hb9, hz9, Hbc⟩ := new1 wf 72 [.int .u64 (dig (mont (grp k.toNat).q.m PN) 0 : Int), .int .u64 (dig (mont (grp k.toNat).q.m PN) 1 : Int), .int .u64 (dig (mont (grp k.toNat).q.m PN) 2 : Int), .int .u64 (dig (mont (grp k.toNat).q.m PN) 3 : Int)]
      replace Hout := Lib.hid (Hout.out.up hb9)
      replace Hbs := Lib.hid (Hbs.out.up hb9)
      replace BS := hbu BS hb9
      replace BQ := hbu BQ hb9
      replace BF := hbu BF hb9
      replace HK3 := Lib.hid (Kept.up HK3.out hb9)
      replace HB := hbu HB hb9
      replace HZS := sz HZS hz9.out
      clear hb9 hz9
      have out_ := Hout.out.c2
      have bs_ := Hbs.out.c2
      have bc_ := Hbc.out.c4
      go_wp2_with fail
      clear hq6 o6_bs_ o6_out_
      have HGW := Lib.hid (HG.out.up BS.out)
      have HSW := Lib.hid (HS8.out.up BF.out)
      have HXW := Lib.hid (HXX.out.up BS.out)
      clear BS BQ BF HK3
      have HT := Lib.hid (show Below w6.heap.size w6 w6.drew from (Below.refl _ _).drew)
      have hl_bs := Hbs.out.lt
      have hl_bc := Hbc.out.lt
      refine wp_region_tree (fun wq9 => ∃ E : But w6 (some (w.heap.size)), wq9 = E.w) ((.qs [0, 1, 2, 4, 5, 6, 7] (.a 3 (.a 8 (.qs [9] (.a 10 (.qs [11] .done))))))) (by kernel_rfl) (by kernel_rfl) (fun _ _ d _ _ h => by cases d <;> exact h) ⟨⟨_, ((below_grown HT.out).but _)⟩, rfl⟩ ?_
      have hov_bs := fun (E : But w6 (some (w.heap.size))) o => E.cell (b := w2.heap.size) o hl_bs (by intro e9; have a0 := Option.some.inj e9; have g0 := HZS.out; omega)
      have hov_bc := fun (E : But w6 (some (w.heap.size))) o => E.cell (b := wf.heap.size) o hl_bc (by intro e9; have a0 := Option.some.inj e9; have g0 := HZS.out; omega)
      simp only [Tree.qs]
      repeat (refine tree_q rfl rfl ?_; go_big_quiet_step (fail); refine wpQuiet_nil ?_)
      refine tree_a rfl (fun K hK => ?_)
      go_simp
      refine (gPut_any (grp k.toNat) OK.out gb PN _ (HGW.out.up HT.out)).mono ?_
      rintro e w7 ⟨rfl, hb9⟩
      replace HT := Lib.hid (below_up HT.out hb9)
      replace HZS := sz HZS (show w6.heap.size ≤ w7.heap.size from HT.out.size)
      clear hb9
      refine hK _ _ ⟨⟨⟨w7, ((below_grown HT.out).but _)⟩, rfl⟩, ?_⟩
      clear hK K
      repeat (refine tree_q rfl rfl ?_; go_big_quiet_step (fail); refine wpQuiet_nil ?_)
      refine tree_a rfl (fun K hK => ?_)
      go_simp
      refine (answers_any (grp k.toNat) OK.out gb PN qa l.length qc NL xs l.length HNL.out HXL.out hl64 a2 a' c2 c' _ (HGW.out.up HT.out) (HSW.out.up HT.out) (HXW.out.up HT.out)).mono ?_
      rintro e w8 ⟨a5, c5, rfl, hs5, hf5, hc5, hc6, hb9⟩
      replace HT := Lib.hid (below_up HT.out hb9)
      replace HZS := sz HZS (show w6.heap.size ≤ w8.heap.size from HT.out.size)
      clear hb9
      have HS5 := Lib.hid hs5
      clear hs5
      have HF5 := Lib.hid hf5
      clear hf5
      have HC5 := Lib.hid hc5
      clear hc5
      have HC6 := Lib.hid hc6
      clear hc6
      refine hK _ _ ⟨⟨⟨w8, ((below_grown HT.out).but _)⟩, rfl⟩, ?_⟩
      clear hK K
      repeat (refine tree_q rfl rfl ?_; go_big_quiet_step (fail); refine wpQuiet_nil ?_)
      have HN5 := Lib.hid (show ∀ x, a5 = some x → x.block ≠ w.heap.size from fun x hx e => by have h1 := HF5.out x hx; have h2 := HZS.out; omega)
      clear hov_bs hl_bs hov_bc hl_bc
      refine tree_a rfl (fun K hK => ?_)
      clear out_
      replace Hout := Lib.hid (Hout.out.up HT.out)
      clear bs_
      replace Hbs := Lib.hid (Hbs.out.up HT.out)
      clear bc_
      replace Hbc := Lib.hid (Hbc.out.up HT.out)
      replace HB := hbu HB HT.out
      replace HZS := sz HZS HT.out.size
      have out_ := Hout.out.c2
      have bs_ := Hbs.out.c2
      have bc_ := Hbc.out.c4
      replace HS5 := Lib.hid (Sl.setO HS5.out HN5.out 0 (.string (textS (PN % (grp k.toNat).q.m) (grp k.toNat).size)))
      replace HS5 := Lib.hid (Sl.setO HS5.out HN5.out 1 (.slice a5 l.length c5))
      have f9_out := Hout.out.frozen
      have o9_out_ := out_; clear out_
      have o9_bs_ := bs_; clear bs_
      have o9_bc_ := bc_; clear bc_
      obtain ⟨w9, hq9, hg9, hz9, hx9⟩ := put2 Hout 0 (.string (textS (PN % (grp k.toNat).q.m) (grp k.toNat).size)) 1 (.slice a5 l.length c5) [.string (textS (PN % (grp k.toNat).q.m) (grp k.toNat).size), .slice a5 l.length c5] rfl
      replace Hbs := Lib.hid (Hbs.out.grown hg9.out (sne (by have g0 := HZS.out; omega)))
      replace Hbc := Lib.hid (Hbc.out.grown hg9.out (sne (by have g0 := HZS.out; omega)))
      replace HB := hbg HB hg9 (by have g0 := HZS.out; omega)
      replace HZS := sz HZS hz9.out
      replace Hout := hx9
      have HGR := Lib.hid (((below_grown HT.out).but _).trans hg9.out)
      clear hx9 hg9 hz9
      have out_ := Hout.out.c2
      have bs_ := Hbs.out.c2
      have bc_ := Hbc.out.c4
      rw [hq9] at HS5
      clear HT
      go_simp
      try rw [hq9]
      refine hK _ _ ⟨⟨⟨w9, HGR.out⟩, rfl⟩, ?_⟩
      clear hK K HGR
      clear hq9 o9_bc_ o9_bs_ o9_out_ f9_out
      repeat (refine tree_q rfl rfl ?_; go_big_quiet_step (fail); refine wpQuiet_nil ?_)
      refine tree_end ?_
      go_wp2_with fail
      have HPL := Lib.hid (show PA.length = l.length by rw [HRA.out]; exact ansL_len _ _ HNL.out HXL.out)
      have HRP := Lib.hid (show ∀ W, Below w.heap.size w W → Sl W W.heap.size a5 ((ansL (grp k.toNat) PN NL xs).map Value.string) → ProveR 0 PC PA w (.returned (.tuple #[.agg #[.string (textS (PN % (grp k.toNat).q.m) (grp k.toNat).size), .slice a5 l.length c5], .int .i64 0])) W from fun W h1 h2 => ⟨h1, a5, c5, by rw [HRC.out, HPL.out], by rw [HRA.out]; exact h2, fun e => HC6.out e, by rw [HPL.out]; exact HC5.out⟩)
      simp [bodyPost, results, Tryz.results14, go_sem, out_]
      exact HRP.out _ HB.out HS5.out
  · have HE2 := Lib.hid (show prvE k l xs = z by rw [HE.out, if_neg h0])
    rw [HE2.out, if_neg h0, if_neg h0]
    have hd : ((z : Int) != 0) = true := by simp; omega
    clear h0 hz HE HE2
    go_enter Tryz.func14, Tryz.ntmps14
    go_wp2_with fail
    obtain ⟨w1, hq1, hb9, hz9, Hout⟩ := new1 w 25 [.string ⟨#[]⟩, .slice none 0 0]
    rw [hq1]
    clear hq1
    have HB := Lib.hid hb9
    have HZS := hz9
    clear hb9 hz9
    have out_ := Hout.out.c2
    go_wp2_with fail
    refine (HO.out _ HB.out).mono ?_
    rintro e w2 ⟨hb9, pp, qa, qn, qc, v, rfl, _⟩
    clear out_
    replace Hout := Lib.hid (Hout.out.up hb9)
    replace HB := hbu HB hb9
    replace HZS := sz HZS hb9.size
    clear hb9
    have out_ := Hout.out.c2
    have o3_out_ := out_; clear out_
    obtain ⟨w3, hq3, hb9, hz9, Hbs⟩ := new1 w2 64 [.pointer pp, .slice qa qn qc]
    replace Hout := Lib.hid (Hout.out.up hb9)
    replace HB := hbu HB hb9
    replace HZS := sz HZS hz9.out
    clear hb9 hz9
    have out_ := Hout.out.c2
    have bs_ := Hbs.out.c2
    have f4_out := Hout.out.frozen
    have o4_out_ := out_; clear out_
    have o4_bs_ := bs_; clear bs_
    obtain ⟨w4, hq4, hg9, hz9, hx9⟩ := put2 Hout 0 (.string ⟨#[]⟩) 1 (.slice none 0 0) [.string ⟨#[]⟩, .slice none 0 0] rfl
    replace Hbs := Lib.hid (Hbs.out.grown hg9.out (sne (by have g0 := HZS.out; omega)))
    replace HB := hbg HB hg9 (by have g0 := HZS.out; omega)
    replace HZS := sz HZS hz9.out
    replace Hout := hx9
    clear hx9 hg9 hz9
    have out_ := Hout.out.c2
    have bs_ := Hbs.out.c2
    go_wp2_with fail
    clear hq4 o4_bs_ o4_out_ f4_out hq3 o3_out_
    simp [bodyPost, results, Tryz.results14, go_sem, out_]
    exact proveR_none _ HB.out
end Go.Proofs.YtdlnnkbigeiilaaGreat

/- Numbers of the group as texts, and back. No condition beyond those that each fact names. -/
namespace Go.Proofs.YtdlnnkbigeiilaaGreat
open Go.RowKit

theorem isSc_lt' {G : GP} {s : ByteArray} (h : isSc G.q.m G.size s = true) : numOf s % G.q.m = numOf s ∧ numOf s < G.q.m := by
  unfold isSc at h
  simp only [Bool.and_eq_true, decide_eq_true_eq] at h
  exact ⟨Nat.mod_eq_of_lt h.2, h.2⟩
theorem T_eq {k : Nat} (h1 : 1 ≤ k) (h3 : k ≤ 3) {x y : Nat} : textS (lowN (grp k) x) (grp k).size = textS (lowN (grp k) y) (grp k).size ↔ lowN (grp k) x = lowN (grp k) y :=
  ⟨fun h => T_inj (grp_ok k h1 h3) (grp_fits k h1 h3) (lowN_le (grp_ok k h1 h3) x) (lowN_le (grp_ok k h1 h3) y) h, fun h => by rw [h]⟩
end Go.Proofs.YtdlnnkbigeiilaaGreat

/- Claims with which nothing is wrong, in plain words. No Go. No condition beyond those that each fact names. -/
namespace Go.Proofs.YtdlnnkbigeiilaaGreat
open Go.RowKit

theorem el_le {q size : Nat} {s : ByteArray} (h : isEl q size s = true) : numOf s ≤ q := by
  unfold isEl at h
  simp only [Bool.and_eq_true, decide_eq_true_eq] at h
  exact h.2
theorem el_text {G : GP} (ok : G.Ok) {m : ByteArray} (h : isEl G.q.m G.size m = true) : m = textS (lowN G (numOf m)) G.size := by
  rw [lowN_fix ok (el_le h), ← isEl_size h, text_numOf]
/-- What claims and scalars are that nothing is wrong with. -/
structure AllOk (G : GP) (l : List ClaimA) (xs : List ByteArray) : Prop where
  len : ∀ c ∈ l, c.images.length = c.bases.length
  bs : ∀ c ∈ l, ∀ s ∈ c.bases, isEl G.q.m G.size s = true
  ims : ∀ c ∈ l, ∀ s ∈ c.images, isEl G.q.m G.size s = true
  xl : xs.length = l.length
  xs : ∀ s ∈ xs, isSc G.q.m G.size s = true
theorem allOk {k : Int} {l : List ClaimA} {xs : List ByteArray} (h : openK k l xs = 0) : (1 ≤ k ∧ k ≤ 3) ∧ AllOk (grp k.toNat) l xs := by
  obtain ⟨hk, hs, he, hxl, hxa⟩ := openK_ok h
  have hs := shape_ok hs
  have hc : ∀ c ∈ l, c.bases.all (isEl (grp k.toNat).q.m (grp k.toNat).size) = true ∧ c.images.all (isEl (grp k.toNat).q.m (grp k.toNat).size) = true := fun c hc => by
    have h9 : (c.bases.all (isEl (grp k.toNat).q.m (grp k.toNat).size) && c.images.all (isEl (grp k.toNat).q.m (grp k.toNat).size)) = true := List.all_eq_true.1 he c hc
    exact (Bool.and_eq_true _ _).mp h9
  exact ⟨hk, fun c h => (hs.2.2 c h).2.2, fun c h s g => List.all_eq_true.1 (hc c h).1 s g, fun c h s g => List.all_eq_true.1 (hc c h).2 s g, hxl, fun s g => List.all_eq_true.1 hxa s g⟩
theorem eachA_congr {G : GP} {v v' : Nat → Nat → Nat} {ms : List Nat} {n : Nat} (h : ∀ i t, i < n → t < ms.getD i 0 → lowN G (v i t) = lowN G (v' i t)) : eachA G v ms n = eachA G v' ms n := by
  unfold eachA eachL
  apply List.map_congr_left
  intro i hi
  apply List.map_congr_left
  intro t ht
  rw [h i t (List.mem_range.1 hi) (List.mem_range.1 ht)]
end Go.Proofs.YtdlnnkbigeiilaaGreat

/- What the package sigma and the document reckon is one and the same. No Go. No condition beyond those that each fact names. -/
namespace Go.Proofs.YtdlnnkbigeiilaaGreat
open Go.RowKit

theorem zipWith_congr' {α β γ : Type} {f g : α → β → γ} {l : List α} {m : List β} (h : ∀ i (hl : i < l.length) (hm : i < m.length), f l[i] m[i] = g l[i] m[i]) : List.zipWith f l m = List.zipWith g l m := by
  apply List.ext_getElem
  · simp
  · intro i h1 h2
    rw [List.getElem_zipWith, List.getElem_zipWith]
    exact h i _ _
theorem hold2_eq {k : Nat} (h1 : 1 ≤ k) (h3 : k ≤ 3) {x b m : ByteArray} (hx : isSc (grp k).q.m (grp k).size x = true) (hm : isEl (grp k).q.m (grp k).size m = true) : rhold2 (grp k) x b m = hold2 (grp k) x b m := by
  unfold rhold2 hold2
  rw [(isSc_lt' hx).1, decide_eq_decide]
  have e := el_text (grp_ok k h1 h3) hm
  constructor
  · intro h
    exact (T_eq h1 h3).1 (h.trans e)
  · intro h
    exact ((T_eq h1 h3).2 h).trans e.symm
theorem holdP_eq {k : Nat} (h1 : 1 ≤ k) (h3 : k ≤ 3) {l : List ClaimA} {xs : List ByteArray} (h : AllOk (grp k) l xs) : rholdP (grp k) l xs = holdP (grp k) l xs := by
  unfold rholdP holdP
  rw [zipWith_congr' (f := rhold1 (grp k)) (g := hold1 (grp k))]
  intro i hl hx
  unfold rhold1 hold1
  rw [zipWith_congr' (f := rhold2 (grp k) xs[i]) (g := hold2 (grp k) xs[i])]
  intro t hb hm
  exact hold2_eq h1 h3 (h.xs _ (List.getElem_mem hx)) (h.ims _ (List.getElem_mem hl) _ (List.getElem_mem hm))
theorem valB_low {G : GP} (ok : G.Ok) {l : List ClaimA} {xs : List ByteArray} (h : AllOk G l xs) (y z : Nat) (hy : y = z % G.q.m) (i t : Nat) (hi : i < l.length) (_ht : t < (lens l).getD i 0) : lowN G (rvalB G y l xs i t) = lowN G (valB G z l xs i t) := by
  have hx : i < xs.length := by rw [h.xl]; exact hi
  unfold rvalB valB valF
  rw [lowN_mul ok, ← hy]
  have e : xs.getD i ⟨#[]⟩ = xs[i] := by simp [List.getD, hx]
  rw [e, (isSc_lt' (h.xs _ (List.getElem_mem hx))).1]
theorem valF_low {G : GP} (ok : G.Ok) {l : List ClaimA} {xs : List ByteArray} (h : AllOk G l xs) (i t : Nat) (hi : i < l.length) (_ht : t < (lens l).getD i 0) : lowN G (rvalB G (subQ G 0 0) l xs i t) = lowN G (valF G l xs i t) := by
  rw [valB_low ok h (subQ G 0 0) 0 (by unfold subQ; simp) i t hi _ht]
  unfold valB
  rw [Nat.zero_mod, Nat.pow_zero, Nat.mul_one]
theorem rfirstK_eq (k : Int) (l : List ClaimA) (xs : List ByteArray) : rfirstK k l xs = firstK k l xs := by
  unfold rfirstK firstK
  by_cases h : openK k l xs = 0
  · rw [if_pos h, if_pos h]
    obtain ⟨hk, ha⟩ := allOk h
    exact eachA_congr fun i t hi ht => valF_low (grp_ok _ (by omega) (by omega)) ha i t hi ht
  · rw [if_neg h, if_neg h]
end Go.Proofs.YtdlnnkbigeiilaaGreat

/- Prove, as the document says it. Condition: the sizes of what came in. -/
namespace Go.Proofs.YtdlnnkbigeiilaaGreat
open Go.RowKit

theorem nonce_sc {G : GP} (ok : G.Ok) (s : ByteArray) (n : Nat) : (nonceL G s n).all (isSc G.q.m G.size) = true := by
  refine List.all_eq_true.2 fun x hx => ?_
  unfold nonceL at hx
  obtain ⟨j, _, rfl⟩ := List.mem_map.1 hx
  unfold nonceS isSc
  rw [textS_size, numOf_mod ok]
  simp [Nat.mod_lt _ ok.q.pos]
theorem nonce_ok {k : Nat} (h1 : 1 ≤ k) (h3 : k ≤ 3) {l : List ClaimA} (hw : wrongE (grp k) l = 0) (s : ByteArray) : openK (k : Int) l (nonceL (grp k) s l.length) = 0 := by
  unfold openK openE scE
  rw [if_pos (by omega), Int.toNat_natCast, if_neg (by rw [hw]; simp), nonceL_len, if_pos rfl, if_pos (nonce_sc (grp_ok k h1 h3) s l.length)]
set_option maxRecDepth 100000 in
set_option maxHeartbeats 4000000 in
theorem rProve_none (k : Int) (hk : ¬ (1 ≤ k ∧ k ≤ 3)) (a b c d : Value) (w : World) : Calls Tryz.prog 15 #[.int .i64 k, a, b, c, d] w (ProveR 1 ⟨#[]⟩ [] w) := by
  go_enter Tryz.func15, Tryz.ntmps15
  go_wp2_with fail
  obtain ⟨w1, hq1, hb9, hz9, Hout⟩ := new1 w 25 [.string ⟨#[]⟩, .slice none 0 0]
  rw [hq1]
  clear hq1
  have HB := Lib.hid hb9
  have HZS := hz9
  clear hb9 hz9
  have out_ := Hout.out.c2
  go_wp2_with fail
  refine (refKind_none k hk w1).mono ?_
  rintro e w2 ⟨rfl, hb9⟩
  clear out_
  replace Hout := Lib.hid (Hout.out.up hb9)
  replace HB := hbu HB hb9
  replace HZS := sz HZS hb9.size
  clear hb9
  have out_ := Hout.out.c2
  have o3_out_ := out_; clear out_
  obtain ⟨w3, hq3, hb9, hz9, Hbg⟩ := new1 w2 86 [.int .i64 0, .slice none 0 0, .slice none 0 0]
  replace Hout := Lib.hid (Hout.out.up hb9)
  replace HB := hbu HB hb9
  replace HZS := sz HZS hz9.out
  clear hb9 hz9
  have out_ := Hout.out.c2
  have bg_ := Hbg.out.c3
  have f4_bg := Hbg.out.frozen
  have o4_out_ := out_; clear out_
  have o4_bg_ := bg_; clear bg_
  obtain ⟨w4, hq4, hg9, hz9, hx9⟩ := put3 Hbg 0 (.int .i64 0) 1 (.slice none 0 0) 2 (.slice none 0 0) [.int .i64 0, .slice none 0 0, .slice none 0 0] rfl
  replace Hout := Lib.hid (Hout.out.grown hg9.out (sne (by have g0 := HZS.out; omega)))
  replace HB := hbg HB hg9 (by have g0 := HZS.out; omega)
  replace HZS := sz HZS hz9.out
  replace Hbg := hx9
  clear hx9 hg9 hz9
  have out_ := Hout.out.c2
  have bg_ := Hbg.out.c3
  have f5_out := Hout.out.frozen
  have o5_out_ := out_; clear out_
  have o5_bg_ := bg_; clear bg_
  obtain ⟨w5, hq5, hg9, hz9, hx9⟩ := put2 Hout 0 (.string ⟨#[]⟩) 1 (.slice none 0 0) [.string ⟨#[]⟩, .slice none 0 0] rfl
  replace Hbg := Lib.hid (Hbg.out.grown hg9.out (sne (by have g0 := HZS.out; omega)))
  replace HB := hbg HB hg9 (by have g0 := HZS.out; omega)
  replace HZS := sz HZS hz9.out
  replace Hout := hx9
  clear hx9 hg9 hz9
  have out_ := Hout.out.c2
  have bg_ := Hbg.out.c3
  go_wp2_with fail
  clear hq5 o5_bg_ o5_out_ f5_out hq4 o4_bg_ o4_out_ f4_bg hq3 o3_out_
  simp [bodyPost, results, Tryz.results15, go_sem, out_]
  exact proveR_none _ HB.out
set_option maxRecDepth 100000 in
set_option maxHeartbeats 4000000 in
theorem rProve_some (k : Nat) (h1 : 1 ≤ k) (h3 : k ≤ 3) (label : ByteArray) (hlb : label.size < 140737488355328) (l : List ClaimA) (n : Nat) (hn : l.length = n) (xs : List ByteArray) (hm : xs.length ≤ 8796093022207) (seed : ByteArray) (hsd : seed.size < 140737488355328) (al ax : Option Addr) (cl cx : Nat) (w : World) (hC : ClaimsAt w al l) (hS : Sl w w.heap.size ax (xs.map Value.string)) :
    Calls Tryz.prog 15 #[.int .i64 (k : Int), .string label, .slice al n cl, .slice ax xs.length cx, .string seed] w (ProveR (prvE k l xs : Int) (if prvE k l xs = 0 then prvC k label l seed else ⟨#[]⟩) (if prvE k l xs = 0 then prvA k label l xs seed else []) w) := by
  have OK := Lib.hid (grp_ok k h1 h3)
  have hs0 : 0 < (grp k).size := by have h9 := of_decide_eq_true (size_gt0 k h1 h3); omega
  have HS0 := Lib.hid (show ¬ (((grp k).size : Int) = 0) by omega)
  have HC := Lib.hid hC
  have HS := Lib.hid hS
  have HN := Lib.hid hn
  obtain ⟨z1, hz1⟩ : ∃ z, wrongE (grp k) l = z := ⟨_, rfl⟩
  have HZ1 := Lib.hid hz1
  have hop : openK (k : Int) l xs = if wrongE (grp k) l ≠ 0 then wrongE (grp k) l else scE (grp k) l.length xs := by
    unfold openK openE
    rw [if_pos (by omega), Int.toNat_natCast]
  clear hC hS hn
  by_cases g1 : z1 = 0
  case neg =>
    have HE2 := Lib.hid (show prvE k l xs = z1 by unfold prvE; rw [hop, hz1, if_pos g1, if_neg g1])
    rw [HE2.out, if_neg g1, if_neg g1]
    have hd : ((z1 : Int) != 0) = true := by simp; omega
    clear g1 HE2 hop hz1 hsd hlb
    go_enter Tryz.func15, Tryz.ntmps15
    go_wp2_with fail
    obtain ⟨w1, hq1, hb9, hz9, Hout⟩ := new1 w 25 [.string ⟨#[]⟩, .slice none 0 0]
    rw [hq1]
    clear hq1
    have HB := Lib.hid hb9
    have HZS := hz9
    clear hb9 hz9
    have out_ := Hout.out.c2
    go_wp2_with fail
    refine (refKind_some k h1 h3 w1).mono ?_
    rintro e w2 ⟨aq, cq, ap, cp, rfl, hq9, hp9, hb9⟩
    clear out_
    replace Hout := Lib.hid (Hout.out.up hb9)
    replace HB := hbu HB hb9
    replace HZS := sz HZS hb9.size
    have HRG := Lib.hid (RG.mk (G := grp k) hq9 hp9)
    clear hq9 hp9
    clear hb9
    have out_ := Hout.out.c2
    have HK := Lib.hid (Below.refl w2.heap.size w2)
    have o3_out_ := out_; clear out_
    obtain ⟨w3, hq3, hb9, hz9, Hbg⟩ := new1 w2 86 [.int .i64 ((grp k).size : Int), .slice aq (dl (grp k).q.m) cq, .slice ap (dl (grp k).p.m) cp]
    replace Hout := Lib.hid (Hout.out.up hb9)
    replace HK := hbu HK hb9
    replace HB := hbu HB hb9
    replace HZS := sz HZS hz9.out
    clear hb9 hz9
    have out_ := Hout.out.c2
    have bg_ := Hbg.out.c3
    go_wp2_with fail
    clear hq3 o3_out_
    refine (rWrong OK.out l n HN.out z1 HZ1.out al cl w3 (HRG.out.up HK.out) (HC.out.up HB.out)).mono ?_
    rintro e w4 ⟨rfl, hb9⟩
    clear out_
    replace Hout := Lib.hid (Hout.out.up hb9)
    clear bg_
    replace Hbg := Lib.hid (Hbg.out.up hb9)
    replace HK := hbu HK hb9
    replace HB := hbu HB hb9
    replace HZS := sz HZS hb9.size
    clear hb9
    have out_ := Hout.out.c2
    have bg_ := Hbg.out.c3
    have f5_out := Hout.out.frozen
    have o5_out_ := out_; clear out_
    have o5_bg_ := bg_; clear bg_
    obtain ⟨w5, hq5, hg9, hz9, hx9⟩ := put2 Hout 0 (.string ⟨#[]⟩) 1 (.slice none 0 0) [.string ⟨#[]⟩, .slice none 0 0] rfl
    replace Hbg := Lib.hid (Hbg.out.grown hg9.out (sne (by have g0 := HZS.out; omega)))
    replace HB := hbg HB hg9 (by have g0 := HZS.out; omega)
    replace HZS := sz HZS hz9.out
    replace Hout := hx9
    clear hx9 hg9 hz9
    have out_ := Hout.out.c2
    have bg_ := Hbg.out.c3
    go_wp2_with fail
    clear hq5 o5_bg_ o5_out_ f5_out
    simp [bodyPost, results, Tryz.results15, go_sem, out_]
    exact proveR_none _ HB.out
  subst g1
  obtain ⟨z2, hz2⟩ : ∃ z, scE (grp k) l.length xs = z := ⟨_, rfl⟩
  have HZ2 := Lib.hid hz2
  rw [hz1, if_neg (by simp), hz2] at hop
  by_cases g2 : z2 = 0
  case neg =>
    have HE2 := Lib.hid (show prvE k l xs = z2 by unfold prvE; rw [hop, if_neg g2])
    rw [HE2.out, if_neg g2, if_neg g2]
    have hd : ((z2 : Int) != 0) = true := by simp; omega
    rw [HN.out] at HZ2
    clear g2 HE2 hop hz1 hz2 hsd hlb
    go_enter Tryz.func15, Tryz.ntmps15
    go_wp2_with fail
    obtain ⟨w1, hq1, hb9, hz9, Hout⟩ := new1 w 25 [.string ⟨#[]⟩, .slice none 0 0]
    rw [hq1]
    clear hq1
    have HB := Lib.hid hb9
    have HZS := hz9
    clear hb9 hz9
    have out_ := Hout.out.c2
    go_wp2_with fail
    refine (refKind_some k h1 h3 w1).mono ?_
    rintro e w2 ⟨aq, cq, ap, cp, rfl, hq9, hp9, hb9⟩
    clear out_
    replace Hout := Lib.hid (Hout.out.up hb9)
    replace HB := hbu HB hb9
    replace HZS := sz HZS hb9.size
    have HRG := Lib.hid (RG.mk (G := grp k) hq9 hp9)
    clear hq9 hp9
    clear hb9
    have out_ := Hout.out.c2
    have HK := Lib.hid (Below.refl w2.heap.size w2)
    have o3_out_ := out_; clear out_
    obtain ⟨w3, hq3, hb9, hz9, Hbg⟩ := new1 w2 86 [.int .i64 ((grp k).size : Int), .slice aq (dl (grp k).q.m) cq, .slice ap (dl (grp k).p.m) cp]
    replace Hout := Lib.hid (Hout.out.up hb9)
    replace HK := hbu HK hb9
    replace HB := hbu HB hb9
    replace HZS := sz HZS hz9.out
    clear hb9 hz9
    have out_ := Hout.out.c2
    have bg_ := Hbg.out.c3
    go_wp2_with fail
    clear hq3 o3_out_
    refine (rWrong OK.out l n HN.out 0 HZ1.out al cl w3 (HRG.out.up HK.out) (HC.out.up HB.out)).mono ?_
    rintro e w4 ⟨rfl, hb9⟩
    clear out_
    replace Hout := Lib.hid (Hout.out.up hb9)
    clear bg_
    replace Hbg := Lib.hid (Hbg.out.up hb9)
    replace HK := hbu HK hb9
    replace HB := hbu HB hb9
    replace HZS := sz HZS hb9.size
    clear hb9
    have out_ := Hout.out.c2
    have bg_ := Hbg.out.c3
    go_wp2_with fail
    refine (rWrongSc_e OK.out n xs z2 HZ2.out ax cx hm w4 (HRG.out.up HK.out) (HS.out.up HB.out)).mono ?_
    rintro e w5 ⟨rfl, hb9⟩
    clear out_
    replace Hout := Lib.hid (Hout.out.up hb9)
    clear bg_
    replace Hbg := Lib.hid (Hbg.out.up hb9)
    replace HK := hbu HK hb9
    replace HB := hbu HB hb9
    replace HZS := sz HZS hb9.size
    clear hb9
    have out_ := Hout.out.c2
    have bg_ := Hbg.out.c3
    have f6_out := Hout.out.frozen
    have o6_out_ := out_; clear out_
    have o6_bg_ := bg_; clear bg_
    obtain ⟨w6, hq6, hg9, hz9, hx9⟩ := put2 Hout 0 (.string ⟨#[]⟩) 1 (.slice none 0 0) [.string ⟨#[]⟩, .slice none 0 0] rfl
    replace Hbg := Lib.hid (Hbg.out.grown hg9.out (sne (by have g0 := HZS.out; omega)))
    replace HB := hbg HB hg9 (by have g0 := HZS.out; omega)
    replace HZS := sz HZS hz9.out
    replace Hout := hx9
    clear hx9 hg9 hz9
    have out_ := Hout.out.c2
    have bg_ := Hbg.out.c3
    go_wp2_with fail
    clear hq6 o6_bg_ o6_out_ f6_out
    simp [bodyPost, results, Tryz.results15, go_sem, out_]
    exact proveR_none _ HB.out
  subst g2
  have HSH := Lib.hid (rsh_of OK.out HZ1.out HZ2.out)
  have hxl : xs.length = n := by rw [sc_lens HZ2.out, HN.out]
  have hopk := hop
  obtain ⟨_, hall⟩ := allOk hopk
  rw [Int.toNat_natCast] at hall
  have hHE := holdP_eq h1 h3 hall
  rw [HN.out] at HZ2
  obtain ⟨b, hb0⟩ : ∃ b, holdP (grp k) l xs = b := ⟨_, rfl⟩
  have HP := Lib.hid (hHE.trans hb0)
  have HXL := Lib.hid hxl
  have HHB := Lib.hid hb0
  have HE := Lib.hid (show prvE k l xs = if b = true then 0 else 8 by unfold prvE; rw [hop, if_pos rfl, Int.toNat_natCast, hb0])
  rw [hxl]
  clear hxl hop hopk hall hHE hb0 hz1 hz2
  cases b
  · rw [HE.out, if_neg (by decide), if_neg (by decide), if_neg (by decide)]
    clear HE hsd hlb
    go_enter Tryz.func15, Tryz.ntmps15
    go_wp2_with fail
    obtain ⟨w1, hq1, hb9, hz9, Hout⟩ := new1 w 25 [.string ⟨#[]⟩, .slice none 0 0]
    rw [hq1]
    clear hq1
    have HB := Lib.hid hb9
    have HZS := hz9
    clear hb9 hz9
    have out_ := Hout.out.c2
    go_wp2_with fail
    refine (refKind_some k h1 h3 w1).mono ?_
    rintro e w2 ⟨aq, cq, ap, cp, rfl, hq9, hp9, hb9⟩
    clear out_
    replace Hout := Lib.hid (Hout.out.up hb9)
    replace HB := hbu HB hb9
    replace HZS := sz HZS hb9.size
    have HRG := Lib.hid (RG.mk (G := grp k) hq9 hp9)
    clear hq9 hp9
    clear hb9
    have out_ := Hout.out.c2
    have HK := Lib.hid (Below.refl w2.heap.size w2)
    have o3_out_ := out_; clear out_
    obtain ⟨w3, hq3, hb9, hz9, Hbg⟩ := new1 w2 86 [.int .i64 ((grp k).size : Int), .slice aq (dl (grp k).q.m) cq, .slice ap (dl (grp k).p.m) cp]
    replace Hout := Lib.hid (Hout.out.up hb9)
    replace HK := hbu HK hb9
    replace HB := hbu HB hb9
    replace HZS := sz HZS hz9.out
    clear hb9 hz9
    have out_ := Hout.out.c2
    have bg_ := Hbg.out.c3
    go_wp2_with fail
    clear hq3 o3_out_
    refine (rWrong OK.out l n HN.out 0 HZ1.out al cl w3 (HRG.out.up HK.out) (HC.out.up HB.out)).mono ?_
    rintro e w4 ⟨rfl, hb9⟩
    clear out_
    replace Hout := Lib.hid (Hout.out.up hb9)
    clear bg_
    replace Hbg := Lib.hid (Hbg.out.up hb9)
    replace HK := hbu HK hb9
    replace HB := hbu HB hb9
    replace HZS := sz HZS hb9.size
    clear hb9
    have out_ := Hout.out.c2
    have bg_ := Hbg.out.c3
    go_wp2_with fail
    refine (rWrongSc_n OK.out n xs HXL.out 0 HZ2.out ax cx hm w4 (HRG.out.up HK.out) (HS.out.up HB.out)).mono ?_
    rintro e w5 ⟨rfl, hb9⟩
    clear out_
    replace Hout := Lib.hid (Hout.out.up hb9)
    clear bg_
    replace Hbg := Lib.hid (Hbg.out.up hb9)
    replace HK := hbu HK hb9
    replace HB := hbu HB hb9
    replace HZS := sz HZS hb9.size
    clear hb9
    have out_ := Hout.out.c2
    have bg_ := Hbg.out.c3
    go_wp2_with fail
    refine (rHold OK.out l xs HSH.out n HN.out false HP.out al ax cl cx w5 (HRG.out.up HK.out) (HC.out.up HB.out) (HS.out.up HB.out)).mono ?_
    rintro e w6 ⟨rfl, hb9⟩
    clear out_
    replace Hout := Lib.hid (Hout.out.up hb9)
    clear bg_
    replace Hbg := Lib.hid (Hbg.out.up hb9)
    replace HK := hbu HK hb9
    replace HB := hbu HB hb9
    replace HZS := sz HZS hb9.size
    clear hb9
    have out_ := Hout.out.c2
    have bg_ := Hbg.out.c3
    have f7_out := Hout.out.frozen
    have o7_out_ := out_; clear out_
    have o7_bg_ := bg_; clear bg_
    obtain ⟨w7, hq7, hg9, hz9, hx9⟩ := put2 Hout 0 (.string ⟨#[]⟩) 1 (.slice none 0 0) [.string ⟨#[]⟩, .slice none 0 0] rfl
    replace Hbg := Lib.hid (Hbg.out.grown hg9.out (sne (by have g0 := HZS.out; omega)))
    replace HB := hbg HB hg9 (by have g0 := HZS.out; omega)
    replace HZS := sz HZS hz9.out
    replace Hout := hx9
    clear hx9 hg9 hz9
    have out_ := Hout.out.c2
    have bg_ := Hbg.out.c3
    go_wp2_with fail
    clear hq7 o7_bg_ o7_out_ f7_out
    simp [bodyPost, results, Tryz.results15, go_sem, out_]
    exact proveR_none _ HB.out
  · rw [HE.out, if_pos rfl, if_pos rfl, if_pos rfl]
    have hnn : l.length = n := HN.out
    have hl64 : n ≤ 64 := hnn ▸ HSH.out.n64
    have hs1 : (prvT k label l).size = 32 := sayCl_size _ _ (say1_size _ _ _)
    have hs2 : (say1 (prvT k label l) seedB seed).size = 32 := say1_size _ _ _
    have hs3 : (sayFi (prvT k label l) (prvF k label l seed)).size = 32 := sayFi_size _ _ hs1
    have HSY := Lib.hid (show ∀ c ∈ l, SayOk c from fun c hc => ⟨(HSH.out.len c hc).1, by have := HSH.out.len c hc; omega, HSH.out.bs c hc, HSH.out.ims c hc⟩)
    have hLL : nonceL (grp k) (say1 (prvT k label l) seedB seed) n = prvL k label l seed := by unfold prvL; rw [Int.toNat_natCast, hnn]
    have hsc0 : scE (grp k) l.length (prvL k label l seed) = 0 := by
      rw [← hLL, hnn]
      unfold scE
      rw [if_pos (nonceL_len _ _ _), if_pos (nonce_sc OK.out _ _)]
    have hNL : (prvL k label l seed).length = n := by rw [← hLL, nonceL_len]
    have hNZ : ∀ x ∈ prvL k label l seed, x.size ≤ 32 := (rsh_of OK.out HZ1.out hsc0).xs
    have hFF : eachA (grp k) (rvalB (grp k) (subQ (grp k) 0 0) l (prvL k label l seed)) (lens l) n = prvF k label l seed := by
      have h9 := rfirstK_eq (k : Int) l (prvL k label l seed)
      have ho : openK (k : Int) l (prvL k label l seed) = 0 := by
        have := nonce_ok h1 h3 HZ1.out (say1 (prvT k label l) seedB seed)
        rwa [hnn, hLL] at this
      unfold rfirstK firstK at h9
      rw [if_pos ho, if_pos ho, Int.toNat_natCast, hnn] at h9
      rw [h9]
      unfold prvF
      rw [Int.toNat_natCast, hnn]
    have hFM : ∀ ro : List RowA, ro.map RowA.l = prvF k label l seed → ro.length = n ∧ ∀ r ∈ ro, r.l.length ≤ 8 ∧ ∀ x ∈ r.l, x.size ≤ 32 := fun ro hm => by
      have hm' := hm
      unfold prvF at hm'
      rw [Int.toNat_natCast, hnn] at hm'
      refine ⟨?_, eachA_small OK.out.size_le (lens_small fun c hc => (HSH.out.len c hc).1) hm'⟩
      have h9 := congrArg List.length hm'
      rwa [List.length_map, eachA_len] at h9
    have HF1 := Lib.hid (fun w => rbegin_any (k : Int) (by omega) claimsB label (by decide) hlb w)
    have HF2 := Lib.hid (fun w hC => (show Calls Tryz.prog 47 #[.agg #[.string (beginT claimsB label k)], .slice al n cl] w fun e w' => e = .returned (.agg #[.string (prvT k label l)]) ∧ Below w.heap.size w w' from rsayCl_any (beginT claimsB label k) l n hnn hl64 (say1_size _ _ _) HSY.out al cl w hC))
    have HF3 := Lib.hid (fun w => (show Calls Tryz.prog 73 #[.agg #[.string (prvT k label l)], .string seedB, .string seed] w fun e w' => e = .returned (.agg #[.string (say1 (prvT k label l) seedB seed)]) ∧ Below w.heap.size w w' from rSay_any (prvT k label l) seedB seed (by rw [hs1]; decide) (by decide) hsd w))
    have HF4 := Lib.hid (fun aq ap cq cp w hG => hLL ▸ rNonces_any (G := grp k) (aq := aq) (ap := ap) (cq := cq) (cp := cp) OK.out n hl64 (say1 (prvT k label l) seedB seed) hs2 w hG)
    have HF5 := Lib.hid (fun aq ap cq cp a9 c9 w hG hC hX => hFF ▸ rFirstOf (G := grp k) (aq := aq) (ap := ap) (cq := cq) (cp := cp) OK.out _ rfl l (prvL k label l seed) (rsh_of OK.out HZ1.out hsc0) n hnn al a9 cl c9 w hG hC hX)
    have HF6 := Lib.hid (fun (ro : List RowA) (hm : ro.map RowA.l = prvF k label l seed) (a9 : Option Addr) (c9 : Nat) (w : World) (hC : RowsAt w a9 ro) => (show Calls Tryz.prog 46 #[.agg #[.string (prvT k label l)], .slice a9 (prvF k label l seed).length c9] w fun e w' => e = .returned (.agg #[.string (sayFi (prvT k label l) (prvF k label l seed))]) ∧ Below w.heap.size w w' from by
      have h := rsayFi_any (prvT k label l) ro ro.length rfl (by rw [(hFM ro hm).1]; exact hl64) hs1 (hFM ro hm).2 a9 c9 w hC
      rw [hm] at h
      rw [← hm, List.length_map, hm]
      exact h))
    have HF7 := Lib.hid (fun pv aq cq w hQ => rChallenge_any (grp k).size (grp k).q.m pv OK.out.q.pos aq cq (sayFi (prvT k label l) (prvF k label l seed)) challengeB (by rw [hs3]; decide) (by decide) w hQ)
    have HRN := Lib.hid (show prvN k label l seed = chN (sayFi (prvT k label l) (prvF k label l seed)) challengeB from rfl)
    have HRC := Lib.hid (show prvC k label l seed = textS (prvN k label l seed % (grp k).q.m) (grp k).size by unfold prvC; rw [Int.toNat_natCast])
    have HRA := Lib.hid (show prvA k label l xs seed = ansL (grp k) (prvN k label l seed) (prvL k label l seed) xs by unfold prvA; rw [Int.toNat_natCast])
    have HNL := Lib.hid hNL
    have HNZ := Lib.hid hNZ
    generalize prvC k label l seed = PC at *
    generalize prvA k label l xs seed = PA at *
    generalize prvN k label l seed = PN at *
    generalize prvF k label l seed = PF at *
    generalize sayFi (prvT k label l) PF = t3 at *
    rw [← HRN.out] at HF7
    generalize chT t3 challengeB = t4 at *
    generalize prvL k label l seed = NL at *
    generalize askT (say1 (prvT k label l) seedB seed) n = t5 at *
    generalize say1 (prvT k label l) seedB seed = t2 at *
    generalize prvT k label l = t1 at *
    generalize beginT claimsB label k = t0 at *
    clear hs1 hs2 hs3 hLL hsc0 hNL hNZ hFF hFM hnn hlb hsd HRN
    obtain ⟨M, hM⟩ : ∃ M, PN % (grp k).q.m = M := ⟨_, rfl⟩
    have HM := Lib.hid hM
    rw [hM] at HF7 HRC
    have HML := Lib.hid (show M < (grp k).q.m from hM ▸ Nat.mod_lt _ OK.out.q.pos)
    clear hM HE
    go_enter Tryz.func15, Tryz.ntmps15
    go_wp2_with fail
    obtain ⟨w1, hq1, hb9, hz9, Hout⟩ := new1 w 25 [.string ⟨#[]⟩, .slice none 0 0]
    rw [hq1]
    clear hq1
    have HB := Lib.hid hb9
    have HZS := hz9
    clear hb9 hz9
    have out_ := Hout.out.c2
    go_wp2_with fail
    refine (refKind_some k h1 h3 w1).mono ?_
    rintro e w2 ⟨aq, cq, ap, cp, rfl, hq9, hp9, hb9⟩
    clear out_
    replace Hout := Lib.hid (Hout.out.up hb9)
    replace HB := hbu HB hb9
    replace HZS := sz HZS hb9.size
    have HRG := Lib.hid (RG.mk (G := grp k) hq9 hp9)
    clear hq9 hp9
    clear hb9
    have out_ := Hout.out.c2
    have HK := Lib.hid (Below.refl w2.heap.size w2)
    have o3_out_ := out_; clear out_
    obtain ⟨w3, hq3, hb9, hz9, Hbg⟩ := new1 w2 86 [.int .i64 ((grp k).size : Int), .slice aq (dl (grp k).q.m) cq, .slice ap (dl (grp k).p.m) cp]
    replace Hout := Lib.hid (Hout.out.up hb9)
    replace HK := hbu HK hb9
    replace HB := hbu HB hb9
    replace HZS := sz HZS hz9.out
    clear hb9 hz9
    have out_ := Hout.out.c2
    have bg_ := Hbg.out.c3
    go_wp2_with fail
    clear hq3 o3_out_
    refine (rWrong OK.out l n HN.out 0 HZ1.out al cl w3 (HRG.out.up HK.out) (HC.out.up HB.out)).mono ?_
    rintro e w4 ⟨rfl, hb9⟩
    clear out_
    replace Hout := Lib.hid (Hout.out.up hb9)
    clear bg_
    replace Hbg := Lib.hid (Hbg.out.up hb9)
    replace HK := hbu HK hb9
    replace HB := hbu HB hb9
    replace HZS := sz HZS hb9.size
    clear hb9
    have out_ := Hout.out.c2
    have bg_ := Hbg.out.c3
    go_wp2_with fail
    refine (rWrongSc_n OK.out n xs HXL.out 0 HZ2.out ax cx hm w4 (HRG.out.up HK.out) (HS.out.up HB.out)).mono ?_
    rintro e w5 ⟨rfl, hb9⟩
    clear out_
    replace Hout := Lib.hid (Hout.out.up hb9)
    clear bg_
    replace Hbg := Lib.hid (Hbg.out.up hb9)
    replace HK := hbu HK hb9
    replace HB := hbu HB hb9
    replace HZS := sz HZS hb9.size
    clear hb9
    have out_ := Hout.out.c2
    have bg_ := Hbg.out.c3
    go_wp2_with fail
    refine (rHold OK.out l xs HSH.out n HN.out true HP.out al ax cl cx w5 (HRG.out.up HK.out) (HC.out.up HB.out) (HS.out.up HB.out)).mono ?_
    rintro e w6 ⟨rfl, hb9⟩
    clear out_
    replace Hout := Lib.hid (Hout.out.up hb9)
    clear bg_
    replace Hbg := Lib.hid (Hbg.out.up hb9)
    replace HK := hbu HK hb9
    replace HB := hbu HB hb9
    replace HZS := sz HZS hb9.size
    clear hb9
    have out_ := Hout.out.c2
    have bg_ := Hbg.out.c3
    go_wp2_with fail
    refine (HF1.out w6).mono ?_
    rintro e w7 ⟨rfl, hb9⟩
    clear out_
    replace Hout := Lib.hid (Hout.out.up hb9)
    clear bg_
    replace Hbg := Lib.hid (Hbg.out.up hb9)
    replace HK := hbu HK hb9
    replace HB := hbu HB hb9
    replace HZS := sz HZS hb9.size
    clear hb9
    have out_ := Hout.out.c2
    have bg_ := Hbg.out.c3
    go_wp2_with fail
    refine (HF2.out w7 (HC.out.up HB.out)).mono ?_
    rintro e w8 ⟨rfl, hb9⟩
    clear out_
    replace Hout := Lib.hid (Hout.out.up hb9)
    clear bg_
    replace Hbg := Lib.hid (Hbg.out.up hb9)
    replace HK := hbu HK hb9
    replace HB := hbu HB hb9
    replace HZS := sz HZS hb9.size
    clear hb9
    have out_ := Hout.out.c2
    have bg_ := Hbg.out.c3
    have o9_out_ := out_; clear out_
    have o9_bg_ := bg_; clear bg_
    obtain ⟨w9, hq9, hb9, hz9, Hbt⟩ := new1 w8 89 [.string t1]
    replace Hout := Lib.hid (Hout.out.up hb9)
    replace Hbg := Lib.hid (Hbg.out.up hb9)
    replace HK := hbu HK hb9
    replace HB := hbu HB hb9
    replace HZS := sz HZS hz9.out
    clear hb9 hz9
    have out_ := Hout.out.c2
    have bg_ := Hbg.out.c3
    have bt_ := Hbt.out.c1
    go_wp2_with fail
    clear hq9 o9_bg_ o9_out_
    go_cut [17, 16] from 53 to 62 (fun v9 u9 wq9 => ∃ (b9 : Nat) (a9 : Option Addr) (c9 : Nat), v9 = .pointer (some ⟨b9, 0, none⟩) ∧ u9 = .slice a9 n c9 ∧ Hid (RowO 0 wq9 9 1 (.slice a9 n c9) n (NL.map Value.string)) ∧ Hid (Below w9.heap.size w9 wq9))
    case first =>
      have HT := Lib.hid (show Below w9.heap.size w9 w9.drew from (Below.refl _ _).drew)
      have hl_out := Hout.out.lt
      have hl_bg := Hbg.out.lt
      have hl_bt := Hbt.out.lt
      refine wp_region_tree (fun wq9 => ∃ E : Over w9, wq9 = E.w) ((.qs [0, 1, 2, 4, 5] (.two 3 (.two 6 (.qs [7, 8, 9] (.a 10 (.qs [11] (.a 12 .done)))) 10 (.a 6 (.qs [7, 8, 9, 11] (.a 12 .done)))) 10 (.a 3 (.a 6 (.qs [7, 8, 9, 11] (.a 12 .done))))))) (by kernel_rfl) (by kernel_rfl) (fun _ _ d _ _ h => by cases d <;> exact h) ⟨⟨_, HT.out⟩, rfl⟩ ?_
      have hov_out := fun (E : Over w9) o => E.cell (b := w.heap.size) o hl_out
      have hov_bg := fun (E : Over w9) o => E.cell (b := w2.heap.size) o hl_bg
      have hov_bt := fun (E : Over w9) o => E.cell (b := w8.heap.size) o hl_bt
      obtain ⟨wd, hwd⟩ : ∃ W9 : World, w9.drew = W9 := ⟨_, rfl⟩
      rw [hwd] at HT ⊢
      clear hwd
      simp only [Tree.qs]
      repeat (refine tree_q rfl rfl ?_; go_big_quiet_step (fail); refine wpQuiet_nil ?_)
      refine tree_two rfl rfl ?ta1 ?ta2
      case ta1 =>
        intro K hK
        go_simp
        refine (HF3.out _).mono ?_
        rintro e wz3 ⟨rfl, hb9⟩
        replace HT := Lib.hid (below_up HT.out hb9)
        clear hb9
        refine hK _ _ ⟨⟨⟨wz3, HT.out⟩, rfl⟩, ?_⟩
        clear hK K
        refine tree_two rfl rfl ?ta4 ?ta5
        case ta4 =>
          intro K hK
          go_simp
          refine (HF4.out aq ap cq cp _ (HRG.out.up (below_up HK.out HT.out))).mono ?_
          rintro e wz6 ⟨a5, c5, rfl, hr5, hb9⟩
          replace HT := Lib.hid (below_up HT.out hb9)
          have HR5 := Lib.hid hr5
          clear hr5
          clear hb9
          refine hK _ _ ⟨⟨⟨wz6, HT.out⟩, rfl⟩, ?_⟩
          clear hK K
          repeat (refine tree_q rfl rfl ?_; go_big_quiet_step (fail); refine wpQuiet_nil ?_)
          refine tree_a rfl (fun K hK => ?_)
          go_simp
          have hb9 : Below wz6.heap.size wz6 (wz6.alloc (Obj.cells #[.string ⟨#[]⟩] 89)) := (Below.refl _ _).alloc (Nat.le_refl _) _
          have hx9 : Bx (wz6.alloc (Obj.cells #[.string ⟨#[]⟩] 89)) wz6.heap.size 89 [.string ⟨#[]⟩] := Bx.new _ _ _ _ rfl
          obtain ⟨wz7, hq9⟩ : ∃ W9 : World, (wz6.alloc (Obj.cells #[.string ⟨#[]⟩] 89)) = W9 := ⟨_, rfl⟩
          rw [hq9] at hb9 hx9
          try rw [hq9]
          clear hq9
          replace HR5 := Lib.hid (HR5.out.up hb9)
          have HAr := Lib.hid HT.out.size
          replace HT := Lib.hid (below_up HT.out hb9)
          have Hr := Lib.hid hx9
          clear hb9 hx9
          refine hK _ _ ⟨⟨⟨wz7, HT.out⟩, rfl⟩, ?_⟩
          clear hK K
          repeat (refine tree_q rfl rfl ?_; go_big_quiet_step (fail); refine wpQuiet_nil ?_)
          refine tree_a rfl (fun K hK => ?_)
          have fz_0 := Hr.out.frozen 0
          have cz_0 := Hr.out.cell (i := 0) rfl
          go_simp
          replace HR5 := Lib.hid (RowO.other HR5.out (RowO.neB HR5.out Hr.out (by decide)) 0 (.string t5))
          have hx9 := (Hr.out.set 0 (.string t5))
          have hb9 : Below w9.heap.size w9 (wz7.setCell ⟨wz6.heap.size, 0, none⟩ (.string t5)) := (HT.out.setCell (show w9.heap.size ≤ wz6.heap.size from HAr.out) _)
          clear Hr HT fz_0 cz_0
          obtain ⟨wz8, hq9⟩ : ∃ W9 : World, (wz7.setCell ⟨wz6.heap.size, 0, none⟩ (.string t5)) = W9 := ⟨_, rfl⟩
          rw [hq9] at hx9 hb9 HR5
          try rw [hq9]
          clear hq9
          have HT := Lib.hid hb9
          have Hr := Lib.hid hx9
          clear hb9 hx9
          refine hK _ _ ⟨⟨⟨wz8, HT.out⟩, rfl⟩, ?_⟩
          clear hK K
          repeat (refine tree_q rfl rfl ?_; go_big_quiet_step (fail); refine wpQuiet_nil ?_)
          refine tree_end ?_
          go_wp2_with fail
          go_meet
          case rel => exact ⟨_, _, _, rfl, rfl, HR5, HT⟩
        case ta5 =>
          intro K hK
          go_simp
          have hb9 : Below wz3.heap.size wz3 (wz3.alloc (Obj.cells #[.string ⟨#[]⟩] 89)) := (Below.refl _ _).alloc (Nat.le_refl _) _
          have hx9 : Bx (wz3.alloc (Obj.cells #[.string ⟨#[]⟩] 89)) wz3.heap.size 89 [.string ⟨#[]⟩] := Bx.new _ _ _ _ rfl
          obtain ⟨wz9, hq9⟩ : ∃ W9 : World, (wz3.alloc (Obj.cells #[.string ⟨#[]⟩] 89)) = W9 := ⟨_, rfl⟩
          rw [hq9] at hb9 hx9
          try rw [hq9]
          clear hq9
          have HAr := Lib.hid HT.out.size
          replace HT := Lib.hid (below_up HT.out hb9)
          have Hr := Lib.hid hx9
          clear hb9 hx9
          refine hK _ _ ⟨⟨⟨wz9, HT.out⟩, rfl⟩, ?_⟩
          clear hK K
          refine tree_a rfl (fun K hK => ?_)
          go_simp
          refine (HF4.out aq ap cq cp _ (HRG.out.up (below_up HK.out HT.out))).mono ?_
          rintro e wz10 ⟨a5, c5, rfl, hr5, hb9⟩
          replace Hr := Lib.hid (Hr.out.up hb9)
          replace HT := Lib.hid (below_up HT.out hb9)
          have HR5 := Lib.hid hr5
          clear hr5
          clear hb9
          refine hK _ _ ⟨⟨⟨wz10, HT.out⟩, rfl⟩, ?_⟩
          clear hK K
          repeat (refine tree_q rfl rfl ?_; go_big_quiet_step (fail); refine wpQuiet_nil ?_)
          refine tree_a rfl (fun K hK => ?_)
          have fz_0 := Hr.out.frozen 0
          have cz_0 := Hr.out.cell (i := 0) rfl
          go_simp
          replace HR5 := Lib.hid (RowO.other HR5.out (RowO.neB HR5.out Hr.out (by decide)) 0 (.string t5))
          have hx9 := (Hr.out.set 0 (.string t5))
          have hb9 : Below w9.heap.size w9 (wz10.setCell ⟨wz3.heap.size, 0, none⟩ (.string t5)) := (HT.out.setCell (show w9.heap.size ≤ wz3.heap.size from HAr.out) _)
          clear Hr HT fz_0 cz_0
          obtain ⟨wz11, hq9⟩ : ∃ W9 : World, (wz10.setCell ⟨wz3.heap.size, 0, none⟩ (.string t5)) = W9 := ⟨_, rfl⟩
          rw [hq9] at hx9 hb9 HR5
          try rw [hq9]
          clear hq9
          have HT := Lib.hid hb9
          have Hr := Lib.hid hx9
          clear hb9 hx9
          refine hK _ _ ⟨⟨⟨wz11, HT.out⟩, rfl⟩, ?_⟩
          clear hK K
          repeat (refine tree_q rfl rfl ?_; go_big_quiet_step (fail); refine wpQuiet_nil ?_)
          refine tree_end ?_
          go_wp2_with fail
          go_meet
          case rel => exact ⟨_, _, _, rfl, rfl, HR5, HT⟩
      case ta2 =>
        intro K hK
        go_simp
        have hb9 : Below wd.heap.size wd (wd.alloc (Obj.cells #[.string ⟨#[]⟩] 89)) := (Below.refl _ _).alloc (Nat.le_refl _) _
        have hx9 : Bx (wd.alloc (Obj.cells #[.string ⟨#[]⟩] 89)) wd.heap.size 89 [.string ⟨#[]⟩] := Bx.new _ _ _ _ rfl
        obtain ⟨wz12, hq9⟩ : ∃ W9 : World, (wd.alloc (Obj.cells #[.string ⟨#[]⟩] 89)) = W9 := ⟨_, rfl⟩
        rw [hq9] at hb9 hx9
        try rw [hq9]
        clear hq9
        have HAr := Lib.hid HT.out.size
        replace HT := Lib.hid (below_up HT.out hb9)
        have Hr := Lib.hid hx9
        clear hb9 hx9
        refine hK _ _ ⟨⟨⟨wz12, HT.out⟩, rfl⟩, ?_⟩
        clear hK K
        refine tree_a rfl (fun K hK => ?_)
        go_simp
        refine (HF3.out _).mono ?_
        rintro e wz13 ⟨rfl, hb9⟩
        replace Hr := Lib.hid (Hr.out.up hb9)
        replace HT := Lib.hid (below_up HT.out hb9)
        clear hb9
        refine hK _ _ ⟨⟨⟨wz13, HT.out⟩, rfl⟩, ?_⟩
        clear hK K
        refine tree_a rfl (fun K hK => ?_)
        go_simp
        refine (HF4.out aq ap cq cp _ (HRG.out.up (below_up HK.out HT.out))).mono ?_
        rintro e wz14 ⟨a5, c5, rfl, hr5, hb9⟩
        replace Hr := Lib.hid (Hr.out.up hb9)
        replace HT := Lib.hid (below_up HT.out hb9)
        have HR5 := Lib.hid hr5
        clear hr5
        clear hb9
        refine hK _ _ ⟨⟨⟨wz14, HT.out⟩, rfl⟩, ?_⟩
        clear hK K
        repeat (refine tree_q rfl rfl ?_; go_big_quiet_step (fail); refine wpQuiet_nil ?_)
        refine tree_a rfl (fun K hK => ?_)
        have fz_0 := Hr.out.frozen 0
        have cz_0 := Hr.out.cell (i := 0) rfl
        go_simp
        replace HR5 := Lib.hid (RowO.other HR5.out (RowO.neB HR5.out Hr.out (by decide)) 0 (.string t5))
        have hx9 := (Hr.out.set 0 (.string t5))
        have hb9 : Below w9.heap.size w9 (wz14.setCell ⟨wd.heap.size, 0, none⟩ (.string t5)) := (HT.out.setCell (show w9.heap.size ≤ wd.heap.size from HAr.out) _)
        clear Hr HT fz_0 cz_0
        obtain ⟨wz15, hq9⟩ : ∃ W9 : World, (wz14.setCell ⟨wd.heap.size, 0, none⟩ (.string t5)) = W9 := ⟨_, rfl⟩
        rw [hq9] at hx9 hb9 HR5
        try rw [hq9]
        clear hq9
        have HT := Lib.hid hb9
        have Hr := Lib.hid hx9
        clear hb9 hx9
        refine hK _ _ ⟨⟨⟨wz15, HT.out⟩, rfl⟩, ?_⟩
        clear hK K
        repeat (refine tree_q rfl rfl ?_; go_big_quiet_step (fail); refine wpQuiet_nil ?_)
        refine tree_end ?_
        go_wp2_with fail
        go_meet
        case rel => exact ⟨_, _, _, rfl, rfl, HR5, HT⟩
    case rest =>
      obtain ⟨b9, a5, c5, rfl, rfl, HR5, hb9⟩ := hcut
      replace hb9 := hb9.out
      clear out_
      replace Hout := Lib.hid (Hout.out.up hb9)
      clear bg_
      replace Hbg := Lib.hid (Hbg.out.up hb9)
      clear bt_
      replace Hbt := Lib.hid (Hbt.out.up hb9)
      replace HK := hbu HK hb9
      replace HB := hbu HB hb9
      replace HZS := sz HZS hb9.size
      clear hb9
      have out_ := Hout.out.c2
      have bg_ := Hbg.out.c3
      have bt_ := Hbt.out.c1
      have BN := Lib.hid (Below.refl wc.heap.size wc)
      have HS5 := Lib.hid (RowO.sl HR5.out)
      go_wp2_with fail
      go_cut [19, 18] from 63 to 73 (fun v9 u9 wq9 => ∃ (b9 : Nat) (a9 : Option Addr) (c9 : Nat), v9 = .pointer (some ⟨b9, 0, none⟩) ∧ u9 = .slice a9 (dl M) c9 ∧ Hid (NumAt wq9 a9 M) ∧ Hid (Below wc.heap.size wc wq9))
      case first =>
        have HT := Lib.hid (show Below wc.heap.size wc wc.drew from (Below.refl _ _).drew)
        have hl_out := Hout.out.lt
        have hl_bg := Hbg.out.lt
        have hl_bt := Hbt.out.lt
        refine wp_region_tree (fun wq9 => ∃ E : Over wc, wq9 = E.w) ((.qs [0, 1, 2, 3, 4] (.two 5 (.two 6 (.two 7 (.qs [8, 9, 10] (.a 11 (.qs [12] (.a 13 .done)))) 11 (.a 7 (.qs [8, 9, 10, 12] (.a 13 .done)))) 11 (.a 6 (.a 7 (.qs [8, 9, 10, 12] (.a 13 .done))))) 11 (.a 5 (.a 6 (.a 7 (.qs [8, 9, 10, 12] (.a 13 .done)))))))) (by kernel_rfl) (by kernel_rfl) (fun _ _ d _ _ h => by cases d <;> exact h) ⟨⟨_, HT.out⟩, rfl⟩ ?_
        have hov_out := fun (E : Over wc) o => E.cell (b := w.heap.size) o hl_out
        have hov_bg := fun (E : Over wc) o => E.cell (b := w2.heap.size) o hl_bg
        have hov_bt := fun (E : Over wc) o => E.cell (b := w8.heap.size) o hl_bt
        obtain ⟨wd, hwd⟩ : ∃ W9 : World, wc.drew = W9 := ⟨_, rfl⟩
        rw [hwd] at HT ⊢
        clear hwd
        simp only [Tree.qs]
        repeat (refine tree_q rfl rfl ?_; go_big_quiet_step (fail); refine wpQuiet_nil ?_)
        refine tree_two rfl rfl ?ta1 ?ta2
        case ta1 =>
          intro K hK
          go_simp
          refine (HF5.out aq ap cq cp a5 c5 _ (HRG.out.up (below_up HK.out HT.out)) (HC.out.up (below_up HB.out HT.out)) (HS5.out.up (below_up BN.out HT.out))).mono ?_
          rintro e wz3 ⟨hb9, a9, c9, ro, rfl, hm9, hr9, _⟩
          replace HT := Lib.hid (below_up HT.out hb9)
          have HMR := Lib.hid hm9
          clear hm9
          have HRR := Lib.hid hr9
          clear hr9
          clear hb9
          refine hK _ _ ⟨⟨⟨wz3, HT.out⟩, rfl⟩, ?_⟩
          clear hK K
          refine tree_two rfl rfl ?ta4 ?ta5
          case ta4 =>
            intro K hK
            go_simp
            refine (HF6.out ro HMR.out a9 c9 _ HRR.out).mono ?_
            rintro e wz6 ⟨rfl, hb9⟩
            replace HRR := Lib.hid (HRR.out.up hb9)
            replace HT := Lib.hid (below_up HT.out hb9)
            clear hb9
            refine hK _ _ ⟨⟨⟨wz6, HT.out⟩, rfl⟩, ?_⟩
            clear hK K
            refine tree_two rfl rfl ?ta7 ?ta8
            case ta7 =>
              intro K hK
              go_simp
              refine (HF7.out _ aq cq _ (HRG.out.up (below_up HK.out HT.out)).q).mono ?_
              rintro e wz9 ⟨a7, c7, rfl, hn7, hb9⟩
              replace HRR := Lib.hid (HRR.out.up hb9)
              replace HT := Lib.hid (below_up HT.out hb9)
              have HN7 := Lib.hid hn7
              clear hn7
              clear hb9
              refine hK _ _ ⟨⟨⟨wz9, HT.out⟩, rfl⟩, ?_⟩
              clear hK K
              repeat (refine tree_q rfl rfl ?_; go_big_quiet_step (fail); refine wpQuiet_nil ?_)
              refine tree_a rfl (fun K hK => ?_)
              go_simp
              have hb9 : Below wz9.heap.size wz9 (wz9.alloc (Obj.cells #[.string ⟨#[]⟩] 89)) := (Below.refl _ _).alloc (Nat.le_refl _) _
              have hx9 : Bx (wz9.alloc (Obj.cells #[.string ⟨#[]⟩] 89)) wz9.heap.size 89 [.string ⟨#[]⟩] := Bx.new _ _ _ _ rfl
              obtain ⟨wz10, hq9⟩ : ∃ W9 : World, (wz9.alloc (Obj.cells #[.string ⟨#[]⟩] 89)) = W9 := ⟨_, rfl⟩
              rw [hq9] at hb9 hx9
              try rw [hq9]
              clear hq9
              replace HRR := Lib.hid (HRR.out.up hb9)
              replace HN7 := Lib.hid (HN7.out.up hb9)
              have HAr := Lib.hid HT.out.size
              replace HT := Lib.hid (below_up HT.out hb9)
              have Hr := Lib.hid hx9
              clear hb9 hx9
              refine hK _ _ ⟨⟨⟨wz10, HT.out⟩, rfl⟩, ?_⟩
              clear hK K
              repeat (refine tree_q rfl rfl ?_; go_big_quiet_step (fail); refine wpQuiet_nil ?_)
              refine tree_a rfl (fun K hK => ?_)
              have fz_0 := Hr.out.frozen 0
              have cz_0 := Hr.out.cell (i := 0) rfl
              go_simp
              replace HN7 := Lib.hid (numSet HN7.out Hr.out 0 (.string t4))
              have hx9 := (Hr.out.set 0 (.string t4))
              have hb9 : Below wc.heap.size wc (wz10.setCell ⟨wz9.heap.size, 0, none⟩ (.string t4)) := (HT.out.setCell (show wc.heap.size ≤ wz9.heap.size from HAr.out) _)
              clear HRR Hr HT fz_0 cz_0
              obtain ⟨wz11, hq9⟩ : ∃ W9 : World, (wz10.setCell ⟨wz9.heap.size, 0, none⟩ (.string t4)) = W9 := ⟨_, rfl⟩
              rw [hq9] at hx9 hb9 HN7
              try rw [hq9]
              clear hq9
              have HT := Lib.hid hb9
              have Hr := Lib.hid hx9
              clear hb9 hx9
              refine hK _ _ ⟨⟨⟨wz11, HT.out⟩, rfl⟩, ?_⟩
              clear hK K
              repeat (refine tree_q rfl rfl ?_; go_big_quiet_step (fail); refine wpQuiet_nil ?_)
              refine tree_end ?_
              go_wp2_with fail
              go_meet
              case rel => exact ⟨_, _, _, rfl, rfl, HN7, HT⟩
            case ta8 =>
              intro K hK
              go_simp
              have hb9 : Below wz6.heap.size wz6 (wz6.alloc (Obj.cells #[.string ⟨#[]⟩] 89)) := (Below.refl _ _).alloc (Nat.le_refl _) _
              have hx9 : Bx (wz6.alloc (Obj.cells #[.string ⟨#[]⟩] 89)) wz6.heap.size 89 [.string ⟨#[]⟩] := Bx.new _ _ _ _ rfl
              obtain ⟨wz12, hq9⟩ : ∃ W9 : World, (wz6.alloc (Obj.cells #[.string ⟨#[]⟩] 89)) = W9 := ⟨_, rfl⟩
              rw [hq9] at hb9 hx9
              try rw [hq9]
              clear hq9
              replace HRR := Lib.hid (HRR.out.up hb9)
              have HAr := Lib.hid HT.out.size
              replace HT := Lib.hid (below_up HT.out hb9)
              have Hr := Lib.hid hx9
              clear hb9 hx9
              refine hK _ _ ⟨⟨⟨wz12, HT.out⟩, rfl⟩, ?_⟩
              clear hK K
              refine tree_a rfl (fun K hK => ?_)
              go_simp
              refine (HF7.out _ aq cq _ (HRG.out.up (below_up HK.out HT.out)).q).mono ?_
              rintro e wz13 ⟨a7, c7, rfl, hn7, hb9⟩
              replace HRR := Lib.hid (HRR.out.up hb9)
              replace Hr := Lib.hid (Hr.out.up hb9)
              replace HT := Lib.hid (below_up HT.out hb9)
              have HN7 := Lib.hid hn7
              clear hn7
              clear hb9
              refine hK _ _ ⟨⟨⟨wz13, HT.out⟩, rfl⟩, ?_⟩
              clear hK K
              repeat (refine tree_q rfl rfl ?_; go_big_quiet_step (fail); refine wpQuiet_nil ?_)
              refine tree_a rfl (fun K hK => ?_)
              have fz_0 := Hr.out.frozen 0
              have cz_0 := Hr.out.cell (i := 0) rfl
              go_simp
              replace HN7 := Lib.hid (numSet HN7.out Hr.out 0 (.string t4))
              have hx9 := (Hr.out.set 0 (.string t4))
              have hb9 : Below wc.heap.size wc (wz13.setCell ⟨wz6.heap.size, 0, none⟩ (.string t4)) := (HT.out.setCell (show wc.heap.size ≤ wz6.heap.size from HAr.out) _)
              clear HRR Hr HT fz_0 cz_0
              obtain ⟨wz14, hq9⟩ : ∃ W9 : World, (wz13.setCell ⟨wz6.heap.size, 0, none⟩ (.string t4)) = W9 := ⟨_, rfl⟩
              rw [hq9] at hx9 hb9 HN7
              try rw [hq9]
              clear hq9
              have HT := Lib.hid hb9
              have Hr := Lib.hid hx9
              clear hb9 hx9
              refine hK _ _ ⟨⟨⟨wz14, HT.out⟩, rfl⟩, ?_⟩
              clear hK K
              repeat (refine tree_q rfl rfl ?_; go_big_quiet_step (fail); refine wpQuiet_nil ?_)
              refine tree_end ?_
              go_wp2_with fail
              go_meet
              case rel => exact ⟨_, _, _, rfl, rfl, HN7, HT⟩
          case ta5 =>
            intro K hK
            go_simp
            have hb9 : Below wz3.heap.size wz3 (wz3.alloc (Obj.cells #[.string ⟨#[]⟩] 89)) := (Below.refl _ _).alloc (Nat.le_refl _) _
            have hx9 : Bx (wz3.alloc (Obj.cells #[.string ⟨#[]⟩] 89)) wz3.heap.size 89 [.string ⟨#[]⟩] := Bx.new _ _ _ _ rfl
            obtain ⟨wz15, hq9⟩ : ∃ W9 : World, (wz3.alloc (Obj.cells #[.string ⟨#[]⟩] 89)) = W9 := ⟨_, rfl⟩
            rw [hq9] at hb9 hx9
            try rw [hq9]
            clear hq9
            replace HRR := Lib.hid (HRR.out.up hb9)
            have HAr := Lib.hid HT.out.size
            replace HT := Lib.hid (below_up HT.out hb9)
            have Hr := Lib.hid hx9
            clear hb9 hx9
            refine hK _ _ ⟨⟨⟨wz15, HT.out⟩, rfl⟩, ?_⟩
            clear hK K
            refine tree_a rfl (fun K hK => ?_)
            go_simp
            refine (HF6.out ro HMR.out a9 c9 _ HRR.out).mono ?_
            rintro e wz16 ⟨rfl, hb9⟩
            replace HRR := Lib.hid (HRR.out.up hb9)
            replace Hr := Lib.hid (Hr.out.up hb9)
            replace HT := Lib.hid (below_up HT.out hb9)
            clear hb9
            refine hK _ _ ⟨⟨⟨wz16, HT.out⟩, rfl⟩, ?_⟩
            clear hK K
            refine tree_a rfl (fun K hK => ?_)
            go_simp
            refine (HF7.out _ aq cq _ (HRG.out.up (below_up HK.out HT.out)).q).mono ?_
            rintro e wz17 ⟨a7, c7, rfl, hn7, hb9⟩
            replace HRR := Lib.hid (HRR.out.up hb9)
            replace Hr := Lib.hid (Hr.out.up hb9)
            replace HT := Lib.hid (below_up HT.out hb9)
            have HN7 := Lib.hid hn7
            clear hn7
            clear hb9
            refine hK _ _ ⟨⟨⟨wz17, HT.out⟩, rfl⟩, ?_⟩
            clear hK K
            repeat (refine tree_q rfl rfl ?_; go_big_quiet_step (fail); refine wpQuiet_nil ?_)
            refine tree_a rfl (fun K hK => ?_)
            have fz_0 := Hr.out.frozen 0
            have cz_0 := Hr.out.cell (i := 0) rfl
            go_simp
            replace HN7 := Lib.hid (numSet HN7.out Hr.out 0 (.string t4))
            have hx9 := (Hr.out.set 0 (.string t4))
            have hb9 : Below wc.heap.size wc (wz17.setCell ⟨wz3.heap.size, 0, none⟩ (.string t4)) := (HT.out.setCell (show wc.heap.size ≤ wz3.heap.size from HAr.out) _)
            clear HRR Hr HT fz_0 cz_0
            obtain ⟨wz18, hq9⟩ : ∃ W9 : World, (wz17.setCell ⟨wz3.heap.size, 0, none⟩ (.string t4)) = W9 := ⟨_, rfl⟩
            rw [hq9] at hx9 hb9 HN7
            try rw [hq9]
            clear hq9
            have HT := Lib.hid hb9
            have Hr := Lib.hid hx9
            clear hb9 hx9
            refine hK _ _ ⟨⟨⟨wz18, HT.out⟩, rfl⟩, ?_⟩
            clear hK K
            repeat (refine tree_q rfl rfl ?_; go_big_quiet_step (fail); refine wpQuiet_nil ?_)
            refine tree_end ?_
            go_wp2_with fail
            go_meet
            case rel => exact ⟨_, _, _, rfl, rfl, HN7, HT⟩
        case ta2 =>
          intro K hK
          go_simp
          have hb9 : Below wd.heap.size wd (wd.alloc (Obj.cells #[.string ⟨#[]⟩] 89)) := (Below.refl _ _).alloc (Nat.le_refl _) _
          have hx9 : Bx (wd.alloc (Obj.cells #[.string ⟨#[]⟩] 89)) wd.heap.size 89 [.string ⟨#[]⟩] := Bx.new _ _ _ _ rfl
          obtain ⟨wz19, hq9⟩ : ∃ W9 : World, (wd.alloc (Obj.cells #[.string ⟨#[]⟩] 89)) = W9 := ⟨_, rfl⟩
          rw [hq9] at hb9 hx9
          try rw [hq9]
          clear hq9
          have HAr := Lib.hid HT.out.size
          replace HT := Lib.hid (below_up HT.out hb9)
          have Hr := Lib.hid hx9
          clear hb9 hx9
          refine hK _ _ ⟨⟨⟨wz19, HT.out⟩, rfl⟩, ?_⟩
          clear hK K
          refine tree_a rfl (fun K hK => ?_)
          go_simp
          refine (HF5.out aq ap cq cp a5 c5 _ (HRG.out.up (below_up HK.out HT.out)) (HC.out.up (below_up HB.out HT.out)) (HS5.out.up (below_up BN.out HT.out))).mono ?_
          rintro e wz20 ⟨hb9, a9, c9, ro, rfl, hm9, hr9, _⟩
          replace Hr := Lib.hid (Hr.out.up hb9)
          replace HT := Lib.hid (below_up HT.out hb9)
          have HMR := Lib.hid hm9
          clear hm9
          have HRR := Lib.hid hr9
          clear hr9
          clear hb9
          refine hK _ _ ⟨⟨⟨wz20, HT.out⟩, rfl⟩, ?_⟩
          clear hK K
          refine tree_a rfl (fun K hK => ?_)
          go_simp
          refine (HF6.out ro HMR.out a9 c9 _ HRR.out).mono ?_
          rintro e wz21 ⟨rfl, hb9⟩
          replace Hr := Lib.hid (Hr.out.up hb9)
          replace HRR := Lib.hid (HRR.out.up hb9)
          replace HT := Lib.hid (below_up HT.out hb9)
          clear hb9
          refine hK _ _ ⟨⟨⟨wz21, HT.out⟩, rfl⟩, ?_⟩
          clear hK K
          refine tree_a rfl (fun K hK => ?_)
          go_simp
          refine (HF7.out _ aq cq _ (HRG.out.up (below_up HK.out HT.out)).q).mono ?_
          rintro e wz22 ⟨a7, c7, rfl, hn7, hb9⟩
          replace Hr := Lib.hid (Hr.out.up hb9)
          replace HRR := Lib.hid (HRR.out.up hb9)
          replace HT := Lib.hid (below_up HT.out hb9)
          have HN7 := Lib.hid hn7
          clear hn7
          clear hb9
          refine hK _ _ ⟨⟨⟨wz22, HT.out⟩, rfl⟩, ?_⟩
          clear hK K
          repeat (refine tree_q rfl rfl ?_; go_big_quiet_step (fail); refine wpQuiet_nil ?_)
          refine tree_a rfl (fun K hK => ?_)
          have fz_0 := Hr.out.frozen 0
          have cz_0 := Hr.out.cell (i := 0) rfl
          go_simp
          replace HN7 := Lib.hid (numSet HN7.out Hr.out 0 (.string t4))
          have hx9 := (Hr.out.set 0 (.string t4))
          have hb9 : Below wc.heap.size wc (wz22.setCell ⟨wd.heap.size, 0, none⟩ (.string t4)) := (HT.out.setCell (show wc.heap.size ≤ wd.heap.size from HAr.out) _)
          clear Hr HRR HT fz_0 cz_0
          obtain ⟨wz23, hq9⟩ : ∃ W9 : World, (wz22.setCell ⟨wd.heap.size, 0, none⟩ (.string t4)) = W9 := ⟨_, rfl⟩
          rw [hq9] at hx9 hb9 HN7
          try rw [hq9]
          clear hq9
          have HT := Lib.hid hb9
          have Hr := Lib.hid hx9
          clear hb9 hx9
          refine hK _ _ ⟨⟨⟨wz23, HT.out⟩, rfl⟩, ?_⟩
          clear hK K
          repeat (refine tree_q rfl rfl ?_; go_big_quiet_step (fail); refine wpQuiet_nil ?_)
          refine tree_end ?_
          go_wp2_with fail
          go_meet
          case rel => exact ⟨_, _, _, rfl, rfl, HN7, HT⟩
      case rest =>
        obtain ⟨b7, a7, c7, rfl, rfl, HN7, hb9⟩ := hcut
        replace hb9 := hb9.out
        clear out_
        replace Hout := Lib.hid (Hout.out.up hb9)
        clear bg_
        replace Hbg := Lib.hid (Hbg.out.up hb9)
        clear bt_
        replace Hbt := Lib.hid (Hbt.out.up hb9)
        replace HR5 := Lib.hid (HR5.out.up hb9)
        replace HK := hbu HK hb9
        replace BN := hbu BN hb9
        replace HB := hbu HB hb9
        replace HZS := sz HZS hb9.size
        clear hb9
        have out_ := Hout.out.c2
        have bg_ := Hbg.out.c3
        have bt_ := Hbt.out.c1
        go_wp2_with fail
        have HRGW := Lib.hid (HRG.out.up HK.out)
        have HSW := Lib.hid (RowO.sl HR5.out)
        have HXW := Lib.hid (HS.out.up HB.out)
        clear HK BN HR5
        have HT := Lib.hid (show Below wc.heap.size wc wc.drew from (Below.refl _ _).drew)
        have hl_bg := Hbg.out.lt
        have hl_bt := Hbt.out.lt
        refine wp_region_tree (fun wq9 => ∃ E : But wc (some (w.heap.size)), wq9 = E.w) ((.qs [0, 1, 2, 4, 5, 6, 7] (.a 3 (.a 8 (.qs [9] (.a 10 (.qs [11] .done))))))) (by kernel_rfl) (by kernel_rfl) (fun _ _ d _ _ h => by cases d <;> exact h) ⟨⟨_, ((below_grown HT.out).but _)⟩, rfl⟩ ?_
        have hov_bg := fun (E : But wc (some (w.heap.size))) o => E.cell (b := w2.heap.size) o hl_bg (by intro e9; have a0 := Option.some.inj e9; have g0 := HZS.out; omega)
        have hov_bt := fun (E : But wc (some (w.heap.size))) o => E.cell (b := w8.heap.size) o hl_bt (by intro e9; have a0 := Option.some.inj e9; have g0 := HZS.out; omega)
        simp only [Tree.qs]
        repeat (refine tree_q rfl rfl ?_; go_big_quiet_step (fail); refine wpQuiet_nil ?_)
        refine tree_a rfl (fun K hK => ?_)
        go_simp
        refine (rText OK.out (q_16 OK.out HML.out) _ (HN7.out.up HT.out)).mono ?_
        rintro e w10 ⟨rfl, hb9⟩
        replace HT := Lib.hid (below_up HT.out hb9)
        replace HZS := sz HZS (show wc.heap.size ≤ w10.heap.size from HT.out.size)
        clear hb9
        refine hK _ _ ⟨⟨⟨w10, ((below_grown HT.out).but _)⟩, rfl⟩, ?_⟩
        clear hK K
        repeat (refine tree_q rfl rfl ?_; go_big_quiet_step (fail); refine wpQuiet_nil ?_)
        refine tree_a rfl (fun K hK => ?_)
        go_simp
        refine (rAnswers_any OK.out PN M HM.out.symm NL xs n HNL.out HXL.out hl64 HNZ.out HSH.out.xs a7 a5 ax c7 c5 cx _ (HRGW.out.up HT.out) (HN7.out.up HT.out) (HSW.out.up HT.out) (HXW.out.up HT.out)).mono ?_
        rintro e w11 ⟨a6, c6, rfl, hs6, hc6, hn6, hf6, hb9⟩
        replace HT := Lib.hid (below_up HT.out hb9)
        replace HZS := sz HZS (show wc.heap.size ≤ w11.heap.size from HT.out.size)
        clear hb9
        have HS6 := Lib.hid hs6
        clear hs6
        have HC6 := Lib.hid hc6
        clear hc6
        have HN6 := Lib.hid hn6
        clear hn6
        have HF9 := Lib.hid hf6
        clear hf6
        refine hK _ _ ⟨⟨⟨w11, ((below_grown HT.out).but _)⟩, rfl⟩, ?_⟩
        clear hK K
        repeat (refine tree_q rfl rfl ?_; go_big_quiet_step (fail); refine wpQuiet_nil ?_)
        have HNO := Lib.hid (show ∀ x, a6 = some x → x.block ≠ w.heap.size from fun x hx e => by have h1 := HF9.out x hx; have h2 := HZS.out; omega)
        clear hov_bg hl_bg hov_bt hl_bt
        refine tree_a rfl (fun K hK => ?_)
        clear out_
        replace Hout := Lib.hid (Hout.out.up HT.out)
        clear bg_
        replace Hbg := Lib.hid (Hbg.out.up HT.out)
        clear bt_
        replace Hbt := Lib.hid (Hbt.out.up HT.out)
        replace HN7 := Lib.hid (HN7.out.up HT.out)
        replace HB := hbu HB HT.out
        replace HZS := sz HZS HT.out.size
        have out_ := Hout.out.c2
        have bg_ := Hbg.out.c3
        have bt_ := Hbt.out.c1
        replace HS6 := Lib.hid (Sl.setO HS6.out HNO.out 0 (.string (textS M (grp k).size)))
        replace HS6 := Lib.hid (Sl.setO HS6.out HNO.out 1 (.slice a6 n c6))
        have f12_out := Hout.out.frozen
        have o12_out_ := out_; clear out_
        have o12_bg_ := bg_; clear bg_
        have o12_bt_ := bt_; clear bt_
        obtain ⟨w12, hq12, hg9, hz9, hx9⟩ := put2 Hout 0 (.string (textS M (grp k).size)) 1 (.slice a6 n c6) [.string (textS M (grp k).size), .slice a6 n c6] rfl
        replace Hbg := Lib.hid (Hbg.out.grown hg9.out (sne (by have g0 := HZS.out; omega)))
        replace Hbt := Lib.hid (Hbt.out.grown hg9.out (sne (by have g0 := HZS.out; omega)))
        clear HN7
        replace HB := hbg HB hg9 (by have g0 := HZS.out; omega)
        replace HZS := sz HZS hz9.out
        replace Hout := hx9
        have HGR := Lib.hid (((below_grown HT.out).but _).trans hg9.out)
        clear hx9 hg9 hz9
        have out_ := Hout.out.c2
        have bg_ := Hbg.out.c3
        have bt_ := Hbt.out.c1
        rw [hq12] at HS6
        clear HT
        go_simp
        try rw [hq12]
        refine hK _ _ ⟨⟨⟨w12, HGR.out⟩, rfl⟩, ?_⟩
        clear hK K HGR
        clear hq12 o12_bt_ o12_bg_ o12_out_ f12_out
        repeat (refine tree_q rfl rfl ?_; go_big_quiet_step (fail); refine wpQuiet_nil ?_)
        refine tree_end ?_
        go_wp2_with fail
        have HPL := Lib.hid (show PA.length = n by rw [HRA.out]; exact ansL_len _ _ HNL.out HXL.out)
        have HRP := Lib.hid (show ∀ W, Below w.heap.size w W → Sl W W.heap.size a6 ((ansL (grp k) PN NL xs).map Value.string) → ProveR 0 PC PA w (.returned (.tuple #[.agg #[.string (textS M (grp k).size), .slice a6 n c6], .int .i64 0])) W from fun W h1 h2 => ⟨h1, a6, c6, by rw [HRC.out, HPL.out], by rw [HRA.out]; exact h2, fun e => HC6.out e, by rw [HPL.out]; exact HN6.out⟩)
        simp [bodyPost, results, Tryz.results15, go_sem, out_]
        exact HRP.out _ HB.out HS6.out
end Go.Proofs.YtdlnnkbigeiilaaGreat

/- Lists of strings are compared: same of the package hustingslaw5. Condition: the lists that memory can hold. -/
namespace Go.Proofs.YtdlnnkbigeiilaaGreat
open Go.RowKit

theorem take_eq_snoc {l m : List ByteArray} {j : Nat} (hl : j < l.length) (hm : j < m.length) (h : l.take j = m.take j) (h1 : l[j] = m[j]) : l.take (j + 1) = m.take (j + 1) := by
  rw [List.take_succ_eq_append_getElem hl, List.take_succ_eq_append_getElem hm, h, h1]
set_option maxRecDepth 100000 in
set_option maxHeartbeats 1000000 in
theorem same5_any (l m : List ByteArray) (al am : Option Addr) (cl cm : Nat) (hl : l.length ≤ 8796093022207) (b : Bool) (hb : decide (l = m) = b) (w : World) (hL : Sl w w.heap.size al (l.map Value.string)) (hM : Sl w w.heap.size am (m.map Value.string)) :
    Calls Tryz.prog 16 #[.slice al l.length cl, .slice am m.length cm] w (Gives (.bool b) w) := by
  have HL := Lib.hid hL
  have HM := Lib.hid hM
  have HBB := Lib.hid hb
  clear hL hM hb
  unfold Gives
  by_cases h1 : l.length = m.length
  · have hd : ((l.length : Int) != (m.length : Int)) = false := by rw [bne_eq_false_iff_eq]; omega
    obtain ⟨n, hn⟩ : ∃ n, l.length = n := ⟨_, rfl⟩
    have hm : m.length = n := by omega
    have HNL := Lib.hid hn
    have HNM := Lib.hid hm
    rw [hn] at hd hl ⊢
    rw [hm] at hd ⊢
    clear h1 hn hm
    go_enter Tryz.func16, Tryz.ntmps16
    go_wp2_with fail
    go_loopw [13] (fun i wr => ∃ j : Nat, j ≤ n ∧ i = .int .i64 j ∧ Hid (Below w.heap.size w wr) ∧ Hid (l.take j = m.take j)) (fun i _ => n - (intOf i).toNat)
    case atStart => exact ⟨0, Nat.zero_le _, rfl, Below.refl _ _, rfl⟩
    case round =>
      obtain ⟨j, hj, rfl, HB, HT⟩ := hrel
      by_cases hjn : j < n
      · skip
        have hjl : j < l.length := by rw [HNL.out]; exact hjn
        have hjm : j < m.length := by rw [HNM.out]; exact hjn
        obtain ⟨b1, o1, rfl, hb10, hb1, hc1⟩ := HL.out.atUp HB.out j (by simpa using hjl)
        obtain ⟨b2, o2, rfl, hb20, hb2, hc2⟩ := HM.out.atUp HB.out j (by simpa using hjm)
        rw [List.getElem_map] at hc1 hc2
        have HTS := Lib.hid (take_eq_snoc hjl hjm HT.out)
        have HNE := Lib.hid (fun (h : ¬ l[j] = m[j]) => (show ¬ l = m from fun e => h (by subst e; rfl)))
        generalize l[j] = x at *
        generalize m[j] = y at *
        by_cases hxy : x = y
        · have HF := Lib.hid (HTS.out hxy)
          subst hxy
          go_wp2_with fail
          refine wp_region_over (by kernel_rfl) (by kernel_rfl) ?_
          have hov_b1 := fun (E : Over wr) o => E.cell (b := b1) o hb1
          have hov_b2 := fun (E : Over wr) o => E.cell (b := b2) o hb2
          repeat (go_big_quiet_step (first | fail))
          all_goals (try unfold elV limbV)
          repeat (go_big_quiet_step (first | fail))
          all_goals (try unfold elV limbV)
          repeat (go_big_quiet_step (first | fail))
          all_goals (try unfold ciphV)
          refine wpQuiet_nil ?_
          rintro _ ⟨E, rfl⟩
          clear hov_b1 hov_b2
          replace HB := hbu HB E.h
          have HZS := Lib.hid E.h.size
          obtain ⟨w1, hq9⟩ : ∃ W9 : World, E.w = W9 := ⟨_, rfl⟩
          rw [hq9] at HB HZS ⊢
          clear hq9 E
          go_wp2_with fail
          go_roundw
          case rel => exact ⟨j + 1, by omega, by go_num, HB, HF⟩
          case measure => simp [intOf]; omega
        · obtain rfl : b = false := by rw [← HBB.out]; exact decide_eq_false (HNE.out hxy)
          have hcd := toList_bne hxy
          clear hxy
          go_wp2_with fail
          refine wp_region_over (by kernel_rfl) (by kernel_rfl) ?_
          have hov_b1 := fun (E : Over wr) o => E.cell (b := b1) o hb1
          have hov_b2 := fun (E : Over wr) o => E.cell (b := b2) o hb2
          repeat (go_big_quiet_step (first | fail))
          all_goals (try unfold elV limbV)
          repeat (go_big_quiet_step (first | fail))
          all_goals (try unfold elV limbV)
          repeat (go_big_quiet_step (first | fail))
          all_goals (try unfold ciphV)
          refine wpQuiet_nil ?_
          rintro _ ⟨E, rfl⟩
          clear hov_b1 hov_b2
          replace HB := hbu HB E.h
          have HZS := Lib.hid E.h.size
          obtain ⟨w1, hq9⟩ : ∃ W9 : World, E.w = W9 := ⟨_, rfl⟩
          rw [hq9] at HB HZS ⊢
          clear hq9 E
          go_wp2_with fail
          go_ret
          exact ⟨rfl, HB.out⟩
      · have hjn' : j = n := by omega
        subst hjn'
        obtain rfl : b = true := by
          rw [← HBB.out]
          refine decide_eq_true ?_
          have h9 := HT.out
          rwa [List.take_of_length_le (by rw [HNL.out]; exact Nat.le_refl _), List.take_of_length_le (by rw [HNM.out]; exact Nat.le_refl _)] at h9
        go_wp2_with fail
        go_ret
        exact ⟨rfl, HB.out⟩
  · have hd : ((l.length : Int) != (m.length : Int)) = true := by rw [bne_iff_ne]; omega
    obtain rfl : b = false := by rw [← HBB.out]; exact decide_eq_false (fun e => h1 (by rw [e]))
    clear h1
    go_enter Tryz.func16, Tryz.ntmps16
    go_wp2_with fail
    go_ret
    exact ⟨rfl, Below.refl _ _⟩
end Go.Proofs.YtdlnnkbigeiilaaGreat

/- Small words for opening arguments of deep types: slices of elements of any size, whatever each element is. No condition. -/
namespace Go.Proofs.YtdlnnkbigeiilaaGreat
open Go.ChangeShapes Go.WideShapes Go.ChangeAt Go.RowKit

/-! What the bound of the second form gives. -/
theorem flat_range (g : Nat → Value) (k len : Nat) : ((List.range len).map fun i => (List.range k).map fun j => g (i * k + j)).flatten = (List.range (len * k)).map g := by
  induction len with
  | zero => simp
  | succ m ih =>
    rw [List.range_succ, List.map_append, List.flatten_append, ih, Nat.succ_mul, List.range_add, List.map_append]
    simp [List.map_map, Function.comp_def]
section
variable {H : Type} {enc : TypeId × Value → H} {P : Program} {w : World}

/-- A list of lists of values each of which is of one shape. -/
theorem list_shapes {α : Type} (f : α → List Value) (R : α → Prop) : ∀ css : List (List Value), (∀ l ∈ css, ∃ x, l = f x ∧ R x) → ∃ xs : List α, xs.length = css.length ∧ css.flatten = xs.flatMap f ∧ ∀ x ∈ xs, R x
  | [], _ => ⟨[], rfl, rfl, by simp⟩
  | l :: css, h => by
    obtain ⟨x, rfl, hR⟩ := h l (by simp)
    obtain ⟨xs, h1, h2, h3⟩ := list_shapes f R css (fun c hc => h c (by simp [hc]))
    refine ⟨x :: xs, by simp [h1], by simp [h2], ?_⟩
    intro y hy
    rcases List.mem_cons.1 hy with rfl | hy
    · exact hR
    · exact h3 y hy
theorem list2 {cs : List Value} (h : cs.length = 2) : ∃ a b, cs = [a, b] := by
  match cs, h with
  | [a, b], _ => exact ⟨a, b, rfl⟩
/-- A cell that is a string. -/
theorem open_str {sp : Nat → Bool} {held : Bool} {t : TypeId} {fuel : Nat} {c : Value} {y : DataW H × List MemPlace} (ht : P.underlying t = some .string) (h : DataW.trod enc P w 0 sp held fuel t [c] = some y) : ∃ s : ByteArray, c = .string s := by
  obtain ⟨s, hs, _⟩ := DataW.trod_string ht h
  simp only [List.cons.injEq, and_true] at hs
  exact ⟨s, hs⟩
end

end Go.Proofs.YtdlnnkbigeiilaaGreat

/- Arguments of deep types are opened, with what the form's own reach says of each part's size. No condition. -/
namespace Go.Proofs.YtdlnnkbigeiilaaGreat
open Go.ChangeShapes Go.WideShapes Go.ChangeAt Go.RowKit

/-- No part of a datum is above the form's reach. -/
def Wt {H : Type} (P : Program) (t : TypeId) (d : DataW H) : Prop := ∀ n ∈ DataW.weights P t d, n ≤ reachBytes
theorem weightsAll_mem {H : Type} {P : Program} {e : TypeId} : ∀ {l : List (DataW H)} {d : DataW H}, d ∈ l → ∀ n ∈ DataW.weights P e d, n ∈ DataW.weightsAll P e l
  | x :: l, d, hd, n, hn => by
    simp only [DataW.weightsAll, List.mem_append]
    rcases List.mem_cons.1 hd with rfl | h
    · exact Or.inl hn
    · exact Or.inr (weightsAll_mem h n hn)
theorem Wt.slice {H : Type} {P : Program} {t e : TypeId} {elems spare : List (DataW H)} (ht : P.underlying t = some (.slice e)) (h : Wt P t (.slice elems spare)) : elems.length * P.bytesOf e ≤ reachBytes ∧ ∀ d ∈ elems, Wt P e d := by
  unfold Wt at h
  simp only [DataW.weights, ht, List.mem_cons, List.mem_append] at h
  refine ⟨Nat.le_trans (Nat.mul_le_mul_right _ (Nat.le_add_right _ _)) (h _ (Or.inl rfl)), fun d hd n hn => h n (Or.inr (Or.inl (weightsAll_mem hd n hn)))⟩
theorem Wt.agg {H : Type} {P : Program} {t : TypeId} {fs : Array Go.Field} {parts : List (DataW H)} (ht : P.underlying t = some (.struct fs)) (h : Wt P t (.agg parts)) : ∀ (j : Nat) (f : Go.Field) (d : DataW H), fs[j]? = some f → parts[j]? = some d → Wt P f.type d := by
  intro j f d hj hd n hn
  unfold Wt at h
  simp only [DataW.weights, ht] at h
  exact h n (DataW.weights_mem_each (ts := fs.toList.map (·.type)) (by rw [List.getElem?_map, Array.getElem?_toList, hj]; rfl) hd n hn)
theorem Wt.arg {H : Type} {P : Program} {ts : List TypeId} {ds : List (DataW H)} (h : (DataW.weightsEach P ts ds).all (· ≤ reachBytes) = true) {j : Nat} {t : TypeId} {d : DataW H} (ht : ts[j]? = some t) (hd : ds[j]? = some d) : Wt P t d :=
  fun n hn => of_decide_eq_true (List.all_eq_true.1 h _ (DataW.weights_mem_each ht hd n hn))
section
variable {H : Type} {enc : TypeId × Value → H} {P : Program} {w : World}

/-- A cell that is a slice of elements of k cells: all its elements' cells, each element with its own reading. -/
theorem open_flatW {sp : Nat → Bool} {held : Bool} {t e : TypeId} {k fuel : Nat} {c : Value} {y : DataW H × List MemPlace} (ht : P.underlying t = some (.slice e)) (hk : P.cellsOf e = k) (hk0 : 0 < k) (hW : Wt P t y.1)
    (h : DataW.trod enc P w 0 sp held fuel t [c] = some y) :
    ∃ (a : Option Addr) (cap : Nat) (css : List (List Value)), c = .slice a css.length cap ∧ css.length * P.bytesOf e ≤ reachBytes ∧ (a = none → cap = 0) ∧ (∀ l ∈ css, l.length = k) ∧ Sl w w.heap.size a css.flatten ∧
      ∀ l ∈ css, ∃ n y', Wt P e y'.1 ∧ DataW.trod enc P w 0 sp held n e l = some y' := by
  have hlt := DataW.trod_lt _ _ _ _ h
  rcases DataW.trod_slice ht h with ⟨hcs, _⟩ | ⟨x, len, cap, elems, rest, n, _, hcs, hx, hb, hl, hm, hlen, hel, _, _⟩
  · simp only [List.cons.injEq, and_true] at hcs
    exact ⟨none, 0, [], hcs, by simp, fun _ => rfl, by simp, Or.inl rfl, by simp⟩
  simp only [List.cons.injEq, and_true] at hcs
  subst hcs
  by_cases h0 : len = 0
  · subst h0
    exact ⟨some x, cap, [], rfl, by simp, by simp, by simp, Or.inl rfl, by simp⟩
  have hbk := Wt.slice (elems := elems.map (·.1)) (spare := rest.map (·.1)) ht (by rw [hx] at hW; exact hW)
  have each : ∀ i, i < len → ∃ l y', w.cells? 0 (x.add (i * k)) k = some l ∧ Wt P e y'.1 ∧ DataW.trod enc P w 0 sp held n e l = some y' := by
    intro i hi
    have h1 := hel i hi
    rw [hk, show elems[i]? = some (elems[i]'(by omega)) from List.getElem?_eq_getElem (by omega), Option.bind_eq_some_iff] at h1
    obtain ⟨l, hl, hy⟩ := h1
    exact ⟨l, _, hl, hbk.2 _ (List.mem_map.2 ⟨_, List.getElem_mem _, rfl⟩), hy⟩
  obtain ⟨b, off, spot⟩ := x
  have hspot : spot = none := by
    obtain ⟨l, _, h1, _⟩ := each 0 (by omega)
    obtain ⟨_, h2, h3⟩ := World.cells?_some h1
    have h4 := h3 0 hk0
    obtain ⟨v, hv⟩ : ∃ v, l[0]? = some v := ⟨_, List.getElem?_eq_getElem (by omega)⟩
    rw [hv, Deep.add_add, Nat.zero_mul, Nat.zero_add] at h4
    simpa [Addr.add] using World.cell?_spot h4
  subst hspot
  have hbW : b < w.heap.size := hlt (.cell b off) (by
    rw [hx]
    exact List.mem_append_left _ (MemPlace.mem_row.2 ⟨0, by rw [hk]; have : 0 < (elems.length + rest.length) * k := Nat.mul_pos (by omega) hk0; omega, by simp⟩))
  have hL : ∀ i, i < len → ((List.range k).map fun j => (w.cell? ⟨b, off + (i * k + j), none⟩).getD (.bool false)).length = k ∧
      (∀ j, j < k → w.cell? ⟨b, off + (i * k + j), none⟩ = some ((w.cell? ⟨b, off + (i * k + j), none⟩).getD (.bool false))) ∧
      ∃ y', Wt P e y'.1 ∧ DataW.trod enc P w 0 sp held n e ((List.range k).map fun j => (w.cell? ⟨b, off + (i * k + j), none⟩).getD (.bool false)) = some y' := by
    intro i hi
    obtain ⟨l, y', h1, h2b, h2⟩ := each i hi
    obtain ⟨_, h3, h4⟩ := World.cells?_some h1
    have h5 : ∀ j, j < k → w.cell? ⟨b, off + (i * k + j), none⟩ = l[j]? := by
      intro j hj
      have := h4 j hj
      rwa [Deep.add_add, add_plain] at this
    have e1 : (List.range k).map (fun j => (w.cell? ⟨b, off + (i * k + j), none⟩).getD (.bool false)) = l := by
      apply List.ext_getElem?
      intro j
      by_cases hj : j < k
      · rw [List.getElem?_map, List.getElem?_range hj, Option.map_some, h5 j hj, List.getElem?_eq_getElem (show j < l.length by omega), Option.getD_some]
      · rw [List.getElem?_eq_none (by simp; omega), List.getElem?_eq_none (by omega)]
    refine ⟨by simp, ?_, ?_⟩
    · intro j hj
      rw [h5 j hj, List.getElem?_eq_getElem (show j < l.length by omega), Option.getD_some]
    · rw [e1]; exact ⟨y', h2b, h2⟩
  refine ⟨some ⟨b, off, none⟩, cap, (List.range len).map fun i => (List.range k).map fun j => (w.cell? ⟨b, off + (i * k + j), none⟩).getD (.bool false), by simp, ?_, by simp, ?_, Or.inr ⟨b, off, rfl, hbW, ?_⟩, ?_⟩
  · have := hbk.1; rw [List.length_map, hlen] at this; simpa using this
  · intro l hl
    obtain ⟨i, _, rfl⟩ := List.mem_map.1 hl
    simp
  · have hflat := flat_range (fun m => (w.cell? ⟨b, off + m, none⟩).getD (.bool false)) k len
    intro i v hv
    rw [hflat] at hv
    have hi : i < len * k := by have := (List.getElem?_eq_some_iff.1 hv).1; simpa using this
    have hq : i / k < len := Nat.div_lt_of_lt_mul (by rwa [Nat.mul_comm] at hi)
    have hc := (hL (i / k) hq).2.1 (i % k) (Nat.mod_lt _ hk0)
    rw [show i / k * k + i % k = i by rw [Nat.mul_comm]; exact Nat.div_add_mod i k] at hc
    rw [hc, ← hv, List.getElem?_map, List.getElem?_range hi, Option.map_some]
  · intro l hl
    obtain ⟨i, hi, rfl⟩ := List.mem_map.1 hl
    obtain ⟨y', hyb, hy⟩ := (hL i (List.mem_range.1 hi)).2.2
    exact ⟨n, y', hyb, hy⟩
/-- The same, each element of a shape that is known. -/
theorem open_elsW {α : Type} (f : α → List Value) (R : α → Prop) {sp : Nat → Bool} {held : Bool} {t e : TypeId} {k fuel : Nat} {c : Value} {y : DataW H × List MemPlace} (ht : P.underlying t = some (.slice e)) (hk : P.cellsOf e = k) (hk0 : 0 < k) (hW : Wt P t y.1)
    (hel : ∀ n l y', l.length = k → Wt P e y'.1 → DataW.trod enc P w 0 sp held n e l = some y' → ∃ x, l = f x ∧ R x) (h : DataW.trod enc P w 0 sp held fuel t [c] = some y) :
    ∃ (a : Option Addr) (cap : Nat) (xs : List α), c = .slice a xs.length cap ∧ xs.length * P.bytesOf e ≤ reachBytes ∧ (a = none → cap = 0) ∧ Sl w w.heap.size a (xs.flatMap f) ∧ ∀ x ∈ xs, R x := by
  obtain ⟨a, cap, css, rfl, hlB, hno, hl, hs, he⟩ := open_flatW ht hk hk0 hW h
  obtain ⟨xs, h1, h2, h3⟩ := list_shapes f R css (fun l hm => by
    obtain ⟨n, y', hyb, hy⟩ := he l hm
    exact hel n l y' (hl l hm) hyb hy)
  exact ⟨a, cap, xs, by rw [h1], by rw [h1]; exact hlB, hno, h2 ▸ hs, h3⟩
/-- A struct whose fields are of one cell each. -/
theorem open_cellsW {sp : Nat → Bool} {held : Bool} {t : TypeId} {fs : Array Go.Field} {fuel : Nat} {cs : List Value} {y : DataW H × List MemPlace} (hs : P.underlying t = some (.struct fs)) (hone : Go.Deep.oneCellFields P fs = true) (hC : P.cellsOf t = fs.size) (hW : Wt P t y.1)
    (h : DataW.trod enc P w 0 sp held fuel t cs = some y) :
    cs.length = fs.size ∧ ∀ (j : Nat) (f : Go.Field) (c : Value), fs[j]? = some f → cs[j]? = some c → ∃ n y', Wt P f.type y'.1 ∧ DataW.trod enc P w 0 sp held n f.type [c] = some y' := by
  obtain ⟨ys, n, _, hy, hcl, hlen, hg⟩ := DataW.trod_struct hs h
  have hbk := Wt.agg (parts := ys.map (·.1)) hs (by rw [hy] at hW; exact hW)
  refine ⟨by omega, fun j f c hj hc => ?_⟩
  obtain ⟨ho, hk⟩ := Go.Deep.hone_of hone j f hj
  have hjf : j < fs.size := (Array.getElem?_eq_some_iff.1 hj).1
  have h1 := hg j f hj
  have hjc := (List.getElem?_eq_some_iff.1 hc).1
  rw [ho, hk, List.drop_eq_getElem_cons hjc, List.take_succ_cons, List.take_zero, (List.getElem?_eq_some_iff.1 hc).2, List.getElem?_eq_getElem (show j < ys.length by omega)] at h1
  exact ⟨n, _, hbk j f _ hj (by rw [List.getElem?_map, List.getElem?_eq_getElem (show j < ys.length by omega)]; rfl), h1⟩
/-- A cell that is a slice of strings. -/
theorem open_strsW {sp : Nat → Bool} {held : Bool} {t e : TypeId} {fuel : Nat} {c : Value} {y : DataW H × List MemPlace} (ht : P.underlying t = some (.slice e)) (he : P.underlying e = some .string) (hk : P.cellsOf e = 1) (hW : Wt P t y.1) (h : DataW.trod enc P w 0 sp held fuel t [c] = some y) :
    ∃ (a : Option Addr) (cap : Nat) (bs : List ByteArray), c = .slice a bs.length cap ∧ bs.length * P.bytesOf e ≤ reachBytes ∧ (a = none → cap = 0) ∧ Sl w w.heap.size a (bs.map Value.string) := by
  obtain ⟨a, cap, xs, h1, hb, hno, h2, _⟩ := open_elsW (fun s : ByteArray => [Value.string s]) (fun _ => True) ht hk (by omega) hW (fun n l y' hl _ hy => by
    match l, hl with
    | [c'], _ =>
      obtain ⟨s, rfl⟩ := open_str he hy
      exact ⟨s, rfl, trivial⟩) h
  refine ⟨a, cap, xs, h1, hb, hno, ?_⟩
  rw [← List.flatMap_singleton' (xs.map Value.string), List.flatMap_map]
  exact h2
end

end Go.Proofs.YtdlnnkbigeiilaaGreat

/- How many cells, how many bytes the arguments' types have. No condition. -/
namespace Go.Proofs.YtdlnnkbigeiilaaGreat
open Go.ChangeShapes Go.WideShapes Go.ChangeAt Go.RowKit

theorem str_cells : Tryz.prog.cellsOf 9 = 1 := by kernel_rfl
end Go.Proofs.YtdlnnkbigeiilaaGreat

/- Arguments of the laws of chapter 5 are opened: proofs, lists of lists, claims. Condition: they are as the row says. -/
namespace Go.Proofs.YtdlnnkbigeiilaaGreat
open Go.ChangeShapes Go.WideShapes Go.ChangeAt Go.RowKit

section
variable {H : Type} {enc : TypeId × Value → H} {w : World}
theorem open_capW {P : Program} {sp : Nat → Bool} {held : Bool} {t e : TypeId} {fuel n cap : Nat} {a : Option Addr} {y : DataW H × List MemPlace} (ht : P.underlying t = some (.slice e)) (h : DataW.trod enc P w 0 sp held fuel t [.slice a n cap] = some y) : n ≤ cap := by
  rcases DataW.trod_slice ht h with ⟨hcs, _⟩ | ⟨x, len, cap', elems, rest, n', _, hcs, hx, hb, hl, hm, hlen, hel, _, _⟩
  · simp only [List.cons.injEq, Value.slice.injEq, and_true] at hcs
    omega
  · simp only [List.cons.injEq, Value.slice.injEq, and_true] at hcs
    omega
end
theorem claim_cells : Tryz.prog.cellsOf 50 = 2 := by kernel_rfl
section
variable {H : Type} {enc : TypeId × Value → H} {w : World}
end

end Go.Proofs.YtdlnnkbigeiilaaGreat

/- Arguments of the laws: strings with their sizes, lists of strings with sizes, claims with the room of their lists. Condition: they are as the row says. -/
namespace Go.Proofs.YtdlnnkbigeiilaaGreat
open Go.ChangeShapes Go.WideShapes Go.ChangeAt Go.RowKit

theorem Wt.str {H : Type} {enc : TypeId × Value → H} {P : Program} {w : World} {sp : Nat → Bool} {held : Bool} {t : TypeId} {fuel : Nat} {s : ByteArray} {y : DataW H × List MemPlace} (ht : P.underlying t = some .string) (hW : Wt P t y.1) (h : DataW.trod enc P w 0 sp held fuel t [.string s] = some y) : s.size ≤ reachBytes := by
  obtain ⟨s', hs, hy, _⟩ := DataW.trod_string ht h
  simp only [List.cons.injEq, and_true, Value.string.injEq] at hs
  subst hs
  rw [hy] at hW
  exact hW s.data.toList.length (by simp [DataW.weights])
theorem askStr_bytes : Tryz.prog.bytesOf 9 = 16 := by kernel_rfl
theorem reach_lt : reachBytes < 140737488355328 := by decide
section
variable {H : Type} {enc : TypeId × Value → H} {w : World}
/-- Claims, and that each list has room for what it holds. -/
theorem open_claimsC {sp : Nat → Bool} {held : Bool} (fuel : Nat) (c : Value) (y : DataW H × List MemPlace) (hW : Wt Tryz.prog 22 y.1) (h : DataW.trod enc Tryz.prog w 0 sp held fuel 22 [c] = some y) :
    ∃ (a : Option Addr) (cap : Nat) (l : List ClaimA), c = .slice a l.length cap ∧ ClaimsAt w a l ∧ ∀ c ∈ l, c.bases.length ≤ c.cb ∧ c.images.length ≤ c.ci := by
  obtain ⟨a, cap, rs, h1, _, _, h4, h5⟩ := open_elsW (e := 50) ClaimA.cells (fun r => ClaimA.At w r ∧ r.bases.length ≤ r.cb ∧ r.images.length ≤ r.ci) Tryz.underlying22 claim_cells (by omega) hW (fun n l y' hl hW' hy => by
    obtain ⟨g1, g2⟩ := open_cellsW Tryz.underlying50 (by kernel_rfl) claim_cells hW' hy
    obtain ⟨x1, x2, rfl⟩ := list2 g1
    obtain ⟨_, _, hwa, ha⟩ := g2 0 _ _ rfl rfl
    obtain ⟨_, _, hwb, hb⟩ := g2 1 _ _ rfl rfl
    obtain ⟨al, cp, bs, rfl, _, _, hs⟩ := open_strsW Tryz.underlying23 Tryz.underlying9 str_cells hwa ha
    obtain ⟨ai, ci, is, rfl, _, _, hi⟩ := open_strsW Tryz.underlying23 Tryz.underlying9 str_cells hwb hb
    exact ⟨⟨al, cp, bs, ai, ci, is⟩, rfl, ⟨hs, hi⟩, open_capW Tryz.underlying23 ha, open_capW Tryz.underlying23 hb⟩) h
  exact ⟨a, cap, rs, h1, ⟨h4, fun c hc => (h5 c hc).1⟩, fun c hc => (h5 c hc).2⟩
end

end Go.Proofs.YtdlnnkbigeiilaaGreat

namespace Go.Proofs.YtdlnnkbigeiilaaGreat
open Go.ChangeShapes Go.WideShapes Go.ChangeAt Go.RowKit

theorem rProve_any (k : Int) (label : ByteArray) (hlb : label.size < 140737488355328) (l : List ClaimA) (al : Option Addr) (cl : Nat) (xs : List ByteArray) (ax : Option Addr) (cx : Nat) (hn : xs.length ≤ 8796093022207) (seed : ByteArray) (hsd : seed.size < 140737488355328) (w : World) (hC : ClaimsAt w al l) (hS : Sl w w.heap.size ax (xs.map Value.string)) :
    Calls Tryz.prog 15 #[.int .i64 k, .string label, .slice al l.length cl, .slice ax xs.length cx, .string seed] w (ProveR (prvE k l xs : Int) (if prvE k l xs = 0 then prvC k label l seed else ⟨#[]⟩) (if prvE k l xs = 0 then prvA k label l xs seed else []) w) := by
  by_cases hk : 1 ≤ k ∧ k ≤ 3
  · obtain ⟨j, rfl⟩ : ∃ j : Nat, k = (j : Int) := ⟨k.toNat, by omega⟩
    exact rProve_some j (by omega) (by omega) label hlb l l.length rfl xs hn seed hsd al ax cl cx w hC hS
  · have h1 : prvE k l xs = 1 := by unfold prvE openK; rw [if_neg hk]; rfl
    rw [h1]
    exact rProve_none k hk _ _ _ _ w
theorem prvA_len (k : Int) (label : ByteArray) (l : List ClaimA) (xs : List ByteArray) (seed : ByteArray) : (prvA k label l xs seed).length ≤ xs.length := by
  unfold prvA ansL
  rw [List.length_zipWith]
  exact Nat.min_le_right _ _
set_option maxRecDepth 100000 in
set_option maxHeartbeats 4000000 in
theorem sigmaProves_any (k : Int) (label : ByteArray) (hlb : label.size < 140737488355328) (l : List ClaimA) (al : Option Addr) (cl : Nat) (xs : List ByteArray) (ax : Option Addr) (cx : Nat) (hn : xs.length ≤ 8796093022207) (seed : ByteArray) (hsd : seed.size < 140737488355328) (hcap : ∀ c ∈ l, CapOk c) (w : World) (hC : ClaimsAt w al l) (hS : Sl w w.heap.size ax (xs.map Value.string)) :
    Calls Tryz.prog 5 #[.int .i64 k, .string label, .slice al l.length cl, .slice ax xs.length cx, .string seed] w fun e w' => e = .returned (.bool true) ∧ Below w.heap.size w w' := by
  have H1 := Lib.hid (fun w1 (hb : Below w.heap.size w w1) => sProve_any k label hlb l al cl xs ax cx hn seed hsd hcap w1 (hC.up hb) (hS.up hb))
  have H2 := Lib.hid (fun w1 (hb : Below w.heap.size w w1) => rProve_any k label hlb l al cl xs ax cx hn seed hsd w1 (hC.up hb) (hS.up hb))
  have HLL := Lib.hid (show (if prvE k l xs = 0 then prvA k label l xs seed else []).length ≤ 8796093022207 by
    by_cases g : prvE k l xs = 0
    · rw [if_pos g]; exact Nat.le_trans (prvA_len ..) hn
    · rw [if_neg g]; exact Nat.zero_le _)
  generalize (if prvE k l xs = 0 then prvA k label l xs seed else []) = PA at *
  generalize (if prvE k l xs = 0 then prvC k label l seed else ⟨#[]⟩) = PC at *
  generalize prvE k l xs = v at *
  generalize l.length = n at *
  generalize xs.length = m at *
  obtain ⟨q, hq⟩ : ∃ q, PA.length = q := ⟨_, rfl⟩
  have HQ := Lib.hid hq
  clear hC hS hn hcap hlb hsd hq
  go_enter Tryz.func5, Tryz.ntmps5
  go_wp2_with fail
  go_wp2_with fail
  refine (H1.out _ (Below.refl _ _)).mono ?_
  rintro e w1 ⟨hb9, a1, c1, rfl, hs1, _, _⟩
  have HB := Lib.hid hb9
  have HZS := Lib.hid hb9.size
  have HS1 := Lib.hid hs1
  clear hs1
  clear hb9
  have BS1 := Lib.hid (Below.refl w1.heap.size w1)
  rw [HQ.out]
  obtain ⟨w2, hq2, hb9, hz9, Hbp⟩ := new1 w1 25 [.string PC, .slice a1 q c1]
  replace BS1 := hbu BS1 hb9
  replace HB := hbu HB hb9
  replace HZS := sz HZS hz9.out
  clear hb9 hz9
  have bp_ := Hbp.out.c2
  go_wp2_with fail
  clear hq2
  refine (H2.out _ HB.out).mono ?_
  rintro e w3 ⟨hb9, a2, c2, rfl, hs2, _, _⟩
  clear bp_
  replace Hbp := Lib.hid (Hbp.out.up hb9)
  replace BS1 := hbu BS1 hb9
  replace HB := hbu HB hb9
  replace HZS := sz HZS hb9.size
  have HS2 := Lib.hid hs2
  clear hs2
  clear hb9
  have bp_ := Hbp.out.c2
  have BS2 := Lib.hid (Below.refl w3.heap.size w3)
  rw [HQ.out]
  have o4_bp_ := bp_; clear bp_
  obtain ⟨w4, hq4, hb9, hz9, Hbq⟩ := new1 w3 25 [.string PC, .slice a2 q c2]
  replace Hbp := Lib.hid (Hbp.out.up hb9)
  replace BS1 := hbu BS1 hb9
  replace BS2 := hbu BS2 hb9
  replace HB := hbu HB hb9
  replace HZS := sz HZS hz9.out
  clear hb9 hz9
  have bp_ := Hbp.out.c2
  have bq_ := Hbq.out.c2
  go_wp2_with fail
  clear hq4 o4_bp_
  have HSM := Lib.hid (HQ.out ▸ fun w1 h1 h2 => same5_any PA PA a1 a2 c1 c2 HLL.out true (by simp) w1 h1 h2)
  refine (HSM.out w4 (HS1.out.up BS1.out) (HS2.out.up BS2.out)).mono ?_
  rintro e w5 ⟨rfl, hb9⟩
  clear bp_
  replace Hbp := Lib.hid (Hbp.out.up hb9)
  clear bq_
  replace Hbq := Lib.hid (Hbq.out.up hb9)
  replace BS1 := hbu BS1 hb9
  replace BS2 := hbu BS2 hb9
  replace HB := hbu HB hb9
  replace HZS := sz HZS hb9.size
  clear hb9
  have bp_ := Hbp.out.c2
  have bq_ := Hbq.out.c2
  go_wp2_with fail
  go_ret
  exact ⟨by simp, HB.out⟩
set_option maxRecDepth 100000 in
theorem sigmaProves_calls {H : Type} (enc : TypeId × Value → H) (W : World) (base : Nat) {v0 v1 v2 v3 v4 : Value} {d0 d1 d2 d3 d4 : DataW H} {p0 p1 p2 p3 p4 : List MemPlace}
    (h0 : DataW.Trod enc Tryz.prog W 0 (fun _ => true) true 3 v0 d0 p0) (h1 : DataW.Trod enc Tryz.prog W 0 (fun _ => true) true 9 v1 d1 p1) (h2 : DataW.Trod enc Tryz.prog W 0 (fun _ => true) true 22 v2 d2 p2) (h3 : DataW.Trod enc Tryz.prog W 0 (fun _ => true) true 23 v3 d3 p3) (h4 : DataW.Trod enc Tryz.prog W 0 (fun _ => true) true 9 v4 d4 p4)
    (k0 : Value.okWide Tryz.prog W .any base 3 v0) (k1 : Value.okWide Tryz.prog W .any base 9 v1) (k2 : Value.okWide Tryz.prog W .any base 22 v2) (k3 : Value.okWide Tryz.prog W .any base 23 v3) (k4 : Value.okWide Tryz.prog W .any base 9 v4)
    (_lt0 : ∀ x ∈ p0, x.block < W.heap.size) (_lt1 : ∀ x ∈ p1, x.block < W.heap.size) (_lt2 : ∀ x ∈ p2, x.block < W.heap.size) (_lt3 : ∀ x ∈ p3, x.block < W.heap.size) (_lt4 : ∀ x ∈ p4, x.block < W.heap.size)
    (hsz : (DataW.weightsEach Tryz.prog ([3, 9, 22, 23, 9] ++ Rows.sigmaProvesSpec.plain.varTypes Tryz.prog) ([d0, d1, d2, d3, d4] ++ [])).all (· ≤ reachBytes) = true) :
    Calls Tryz.prog 5 #[v0, v1, v2, v3, v4] W fun e w' => e = .returned (.bool true) ∧ Below W.heap.size W w' := by
  obtain ⟨k, rfl, _, _, _⟩ := open_int Tryz.underlying3 k0 h0
  obtain ⟨b2, n2, m2, rfl⟩ := okWide_slice Tryz.underlying22 k2
  obtain ⟨b3, n3, m3, rfl⟩ := okWide_slice Tryz.underlying23 k3
  obtain ⟨f1, h1⟩ := h1
  obtain ⟨f2, h2⟩ := h2
  obtain ⟨f3, h3⟩ := h3
  obtain ⟨f4, h4⟩ := h4
  obtain ⟨label, rfl, _⟩ := Go.ChangeMaps.open_string Tryz.underlying9 k1 ⟨f1, h1⟩
  obtain ⟨seed, rfl, _⟩ := Go.ChangeMaps.open_string Tryz.underlying9 k4 ⟨f4, h4⟩
  obtain ⟨al, cl, l, e1, hC, hcap⟩ := open_claimsC f2 _ _ (Wt.arg hsz (j := 2) rfl rfl) h2
  obtain ⟨ax, cx, xs, e2, hb, _, hS⟩ := open_strsW Tryz.underlying23 Tryz.underlying9 str_cells (Wt.arg hsz (j := 3) rfl rfl) h3
  rw [e1, e2]
  rw [askStr_bytes] at hb
  have hr := reach_lt
  exact sigmaProves_any k label (Nat.lt_of_le_of_lt (Wt.str Tryz.underlying9 (Wt.arg hsz (j := 1) rfl rfl) h1) reach_lt) l al cl xs ax cx (by omega) seed (Nat.lt_of_le_of_lt (Wt.str Tryz.underlying9 (Wt.arg hsz (j := 4) rfl rfl) h4) reach_lt) hcap W hC hS
set_option maxRecDepth 100000 in
theorem sigmaProves_lifted (os : Os) (started : os.Started) (H : Type) (enc : TypeId × Value → H) :
    ReturnsInHanded {} Tryz.checked os 5 .any (Rows.sigmaProvesSpec.pre6 enc Tryz.prog Tryz.f5 Rows.sigmaProvesRow.domain false) (Rows.sigmaProvesSpec.post enc Tryz.prog Tryz.f5 false true false false) := by
  refine returnsInHanded_of_change_sized (C := Tryz.checked) law_own started (by kernel_rfl) Tryz.func5
    (ChangeSpec.witness6 (enc := enc) (C := Tryz.checked) false ⟨#[], #[.int .i64 0, .string ⟨#[]⟩, .slice none 0 0, .slice none 0 0, .string ⟨#[]⟩], []⟩ 8 (by kernel_rfl) (by kernel_rfl) (by kernel_rfl) (by kernel_rfl)) ?_
  intro W base args ds gs before hval0 hW _ hsz0 _
  have hsz : (DataW.weightsEach Tryz.prog (Tryz.f5.params.toList ++ Rows.sigmaProvesSpec.plain.varTypes Tryz.prog) (ds ++ gs)).all (· ≤ reachBytes) = true := hsz0
  clear hsz0
  have hval : ∀ (j : Nat) t v, Tryz.f5.params[j]? = some t → args[j]? = some v → Value.okWide Tryz.prog W .any base t v := hval0
  have hW' := hW
  obtain ⟨p, q, hA0, hV, rfl, _, _⟩ := hW
  have hA : DataW.TrodAll enc Tryz.prog W 0 (fun _ => true) true Tryz.f5.params.toList args.toList ds p := hA0
  rw [Tryz.params5] at hA hval hsz
  obtain ⟨v0, vs0, d0, ds0, p0, q0, hargs, rfl, rfl, h0, r0⟩ := trodAll_cons hA
  obtain ⟨v1, vs1, d1, ds1, p1, q1, rfl, rfl, rfl, h1, r1⟩ := trodAll_cons r0
  obtain ⟨v2, vs2, d2, ds2, p2, q2, rfl, rfl, rfl, h2, r2⟩ := trodAll_cons r1
  obtain ⟨v3, vs3, d3, ds3, p3, q3, rfl, rfl, rfl, h3, r3⟩ := trodAll_cons r2
  obtain ⟨v4, vs4, d4, ds4, p4, q4, rfl, rfl, rfl, h4, r4⟩ := trodAll_cons r3
  obtain ⟨rfl, rfl, rfl⟩ := trodAll_nil r4
  obtain rfl : args = #[v0, v1, v2, v3, v4] := by cases args; simp_all
  obtain ⟨rfl, rfl⟩ := trodVars_none hV
  have lt0 : ∀ x ∈ p0, x.block < W.heap.size := by obtain ⟨m, hm⟩ := h0; exact DataW.trod_lt m _ _ _ hm
  have lt1 : ∀ x ∈ p1, x.block < W.heap.size := by obtain ⟨m, hm⟩ := h1; exact DataW.trod_lt m _ _ _ hm
  have lt2 : ∀ x ∈ p2, x.block < W.heap.size := by obtain ⟨m, hm⟩ := h2; exact DataW.trod_lt m _ _ _ hm
  have lt3 : ∀ x ∈ p3, x.block < W.heap.size := by obtain ⟨m, hm⟩ := h3; exact DataW.trod_lt m _ _ _ hm
  have lt4 : ∀ x ∈ p4, x.block < W.heap.size := by obtain ⟨m, hm⟩ := h4; exact DataW.trod_lt m _ _ _ hm
  clear hA0 hval0
  refine (sigmaProves_calls enc W base h0 h1 h2 h3 h4 (hval 0 3 v0 rfl rfl) (hval 1 9 v1 rfl rfl) (hval 2 22 v2 rfl rfl) (hval 3 23 v3 rfl rfl) (hval 4 9 v4 rfl rfl) lt0 lt1 lt2 lt3 lt4 hsz).mono fun e W' ⟨he, bel⟩ => ?_
  subst he
  exact ⟨_, rfl, _, _, _, [], _, [], hW', trodAll_mk1 (shut_bool Tryz.underlying4 _), (trodAll_cons_mk (Below.trod law_laidOut (by kernel_rfl) (of_decide_eq_true (by kernel_rfl)) h0 bel lt0) (trodAll_cons_mk (Below.trod law_laidOut (by kernel_rfl) (of_decide_eq_true (by kernel_rfl)) h1 bel lt1) (trodAll_cons_mk (Below.trod law_laidOut (by kernel_rfl) (of_decide_eq_true (by kernel_rfl)) h2 bel lt2) (trodAll_cons_mk (Below.trod law_laidOut (by kernel_rfl) (of_decide_eq_true (by kernel_rfl)) h3 bel lt3) (trodAll_cons_mk (Below.trod law_laidOut (by kernel_rfl) (of_decide_eq_true (by kernel_rfl)) h4 bel lt4) trodAll_mk0))))), rfl, bel.frame _, fun h => by cases h⟩
theorem sigmaProves_holds : Rows.SigmaProvesSaid :=
  OpenClaim.holds_of_wide 5 Tryz.f5 rfl rfl rfl rfl rfl rfl rfl ⟨rfl, rfl, rfl, rfl, rfl⟩ rfl rfl rfl rfl rfl (by kernel_rfl) Tryz.func5 (by kernel_rfl)
    (of_decide_eq_true (by kernel_rfl)) (by unfold Func.isWrapper; first | (rw [if_pos (by decide +kernel)]; kernel_rfl) | (rw [if_neg (by decide +kernel)]; exact ⟨rfl, rfl⟩))
    (fun os started H enc _ => sigmaProves_lifted os started H enc)
#print axioms sigmaProves_holds



end Go.Proofs.YtdlnnkbigeiilaaGreat
