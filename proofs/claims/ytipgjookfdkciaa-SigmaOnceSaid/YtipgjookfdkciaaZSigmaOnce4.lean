/- SigmaOnce: a claim that is false is answered at one challenge at most. No condition. -/
import Derived.Test.YtipgjookfdkciaaZSigmaOnce3

set_option maxRecDepth 100000
set_option maxHeartbeats 4000000
set_option linter.unusedVariables false
set_option linter.unusedSimpArgs false
namespace Go.Proofs.Ytipgjookfdkciaa
open Go.RowKit
def openK (k : Int) (l : List ClaimA) (xs : List ByteArray) : Nat := if 1 ≤ k ∧ k ≤ 3 then openE (grp k.toNat) l xs else 1
def holdK (k : Int) (l : List ClaimA) (xs : List ByteArray) : Bool := decide (openK k l xs = 0) && holdP (grp k.toNat) l xs
def backE (k : Int) (l : List ClaimA) (ch : ByteArray) (xs : List ByteArray) : Nat := if openK k l xs ≠ 0 then openK k l xs else if isSc (grp k.toNat).q.m (grp k.toNat).size ch = true then 0 else 6
def backK (k : Int) (l : List ClaimA) (ch : ByteArray) (xs : List ByteArray) : List (List ByteArray) := if backE k l ch xs = 0 then eachA (grp k.toNat) (valB (grp k.toNat) ((grp k.toNat).q.m - numOf ch) l xs) (lens l) l.length else []
def RowsE (er : Int) (L : List (List ByteArray)) (w : World) (e : Ending) (w' : World) : Prop :=
 Below w.heap.size w w' ∧ ∃ a c ro, e = .returned (.tuple #[.slice a L.length c, .int .i64 er]) ∧ ro.map RowA.l = L ∧ RowsAt w' a ro ∧ (∀ r ∈ ro, r.Ok)
theorem rowsE_none (er : Int) {w w' : World} (h : Below w.heap.size w w') : RowsE er [] w (.returned (.tuple #[.slice none 0 0, .int .i64 er])) w' := ⟨h, none, 0, [], rfl, rfl, ⟨Or.inl rfl, fun _ h => by cases h⟩, fun _ h => by cases h⟩
theorem open_any (k : Int) (l : List ClaimA) (al : Option Addr) (cl : Nat) (xs : List ByteArray) (ax : Option Addr) (cx : Nat) (hn : xs.length ≤ 8796093022207) (w : World) (hC : ClaimsAt w al l) (hS : Sl w w.heap.size ax (xs.map Value.string)) :
  Calls Try.prog 112 #[.int .i64 k, .slice al l.length cl, .slice ax xs.length cx] w (OpenS (grp k.toNat) (openK k l xs) l xs w) := by
 unfold openK
 by_cases hk : 1 ≤ k ∧ k ≤ 3
 ·rw [if_pos hk]
  obtain ⟨j, rfl⟩ : ∃ j : Nat, k = j := ⟨k.toNat, by omega⟩
  exact open_some j (by omega) (by omega) l al cl xs ax cx hn w hC hS
 ·rw [if_neg hk]
  refine (open_none k hk l xs _ _ w).mono ?_
  rintro e w' ⟨hb, p, q, n9, c9, v, he, _⟩
  exact ⟨hb, p, q, n9, c9, v, he, fun h => by cases h⟩
theorem openK_ok {k : Int} {l : List ClaimA} {xs : List ByteArray} (h : openK k l xs = 0) : (1 ≤ k ∧ k ≤ 3) ∧ shapeE l = 0 ∧ l.all (cElems (grp k.toNat)) = true ∧ xs.length = l.length ∧ xs.all (isSc (grp k.toNat).q.m (grp k.toNat).size) = true := by
 unfold openK at h
 by_cases hk : 1 ≤ k ∧ k ≤ 3
 ·rw [if_pos hk] at h
  unfold openE at h
  by_cases hw : wrongE (grp k.toNat) l = 0
  ·rw [if_neg (by simpa using hw)] at h
   unfold scE at h
   by_cases hl : xs.length = l.length
   ·rw [if_pos hl] at h
    by_cases ha : xs.all (isSc (grp k.toNat).q.m (grp k.toNat).size) = true
    ·exact ⟨hk, (wrong_ok hw).1, (wrong_ok hw).2, hl, ha⟩
    ·rw [if_neg ha] at h; cases h
   ·rw [if_neg hl] at h; cases h
  ·rw [if_pos hw] at h; exact absurd h hw
 ·rw [if_neg hk] at h; cases h
theorem sHolds_any (k : Int) (l : List ClaimA) (al : Option Addr) (cl : Nat) (xs : List ByteArray) (ax : Option Addr) (cx : Nat) (hn : xs.length ≤ 8796093022207) (w : World) (hC : ClaimsAt w al l) (hS : Sl w w.heap.size ax (xs.map Value.string)) :
  Calls Try.prog 44 #[.int .i64 k, .slice al l.length cl, .slice ax xs.length cx] w (Gives (.bool (holdK k l xs)) w) := by
 have HC := Lib.hid hC
 have HS := Lib.hid hS
 obtain ⟨b, hb⟩ : ∃ b, holdK k l xs = b := ⟨_, rfl⟩
 rw [hb]
 have HO := Lib.hid (open_any k l al cl xs ax cx hn w hC hS)
 obtain ⟨z, hz⟩ : ∃ z, openK k l xs = z := ⟨_, rfl⟩
 rw [hz] at HO
 clear hC hS
 unfold holdK at hb
 rw [hz] at hb
 have HBB := Lib.hid hb
 clear hb
 unfold Gives
 by_cases h0 : z = 0
 ·subst h0
  go_enter Try.func44, Try.ntmps44
  go_wp2_with fail
  refine (HO.out).mono ?_
  rintro e w1 ⟨hb9, pp, qa, qn, qc, v, rfl, hok⟩
  have HB := Lib.hid hb9
  have HZS := Lib.hid hb9.size
  have HOK := Lib.hid hok
  clear hok hb9
  obtain ⟨gb, rs, a, c, a', c', e1, e2, rfl, hrk, hg9, hs9, hp9, hx9⟩ := HOK.out rfl
  obtain rfl := Value.pointer.inj e1
  obtain ⟨rfl, rfl, rfl⟩ := Value.slice.inj e2
  obtain ⟨hk9, hsh, hel, hxl, hxa⟩ := openK_ok hz
  have HRK := Lib.hid hrk
  have HRL := Lib.hid (show rs.length = l.length by rw [← hrk, List.length_map])
  have HG := Lib.hid hg9
  have HST := Lib.hid hs9
  have HXX := Lib.hid hx9
  have HXL := Lib.hid hxl
  have HXA := Lib.hid hxa
  have hl64 := (shape_ok hsh).2.1
  have HSHP := Lib.hid (show ∀ r ∈ rs, r.k.bases.length ≤ 8 ∧ r.k.images.length = r.k.bases.length from fun r hr => by
   have h9 := (shape_ok hsh).2.2 r.k (by rw [← hrk]; exact List.mem_map.2 ⟨r, hr, rfl⟩)
   exact ⟨h9.2.1, h9.2.2⟩)
  have OK := Lib.hid (grp_ok k.toNat (by omega) (by omega))
  rw [show xs.length = rs.length by rw [HXL.out, HRL.out]]
  clear hrk hg9 hs9 hp9 hx9 hsh hel hxl hxa HOK
  have BS := Lib.hid (Below.refl w1.heap.size w1)
  obtain ⟨w2, hq2, hb9, hz9, Hbs⟩ := new1 w1 157 [.pointer (some ⟨gb, 0, none⟩), .slice qa rs.length qc]
  replace BS := hbu BS hb9
  replace HB := hbu HB hb9
  replace HZS := sz HZS hz9.out
  clear hb9 hz9
  have bs_ := Hbs.out.c2
  go_wp2_with fail
  clear hq2
  refine (holds_any (grp k.toNat) OK.out gb rs rs.length rfl qa qc xs (by rw [HXL.out, HRL.out]) a' c' (by rw [HRL.out]; exact hl64) HSHP.out b (by rw [HRK.out, ← HBB.out]; simp) w2 (HG.out.up BS.out) (HST.out.up BS.out) (HXX.out.up BS.out)).mono ?_
  rintro e w3 ⟨rfl, hb9⟩
  clear bs_
  replace Hbs := Lib.hid (Hbs.out.up hb9)
  replace BS := hbu BS hb9
  replace HB := hbu HB hb9
  replace HZS := sz HZS hb9.size
  clear hb9
  have bs_ := Hbs.out.c2
  go_wp2_with fail
  go_ret
  exact ⟨rfl, HB.out⟩
 ·obtain rfl : b = false := by rw [← HBB.out, decide_eq_false h0]; rfl
  have hd : ((z : Int) == 0) = false := by simp; omega
  clear h0 hz
  go_enter Try.func44, Try.ntmps44
  go_wp2_with fail
  refine (HO.out).mono ?_
  rintro e w1 ⟨hb9, pp, qa, qn, qc, v, rfl, _⟩
  have HB := Lib.hid hb9
  have HZS := Lib.hid hb9.size
  clear hb9
  obtain ⟨w2, hq2, hb9, hz9, Hbs⟩ := new1 w1 157 [.pointer pp, .slice qa qn qc]
  replace HB := hbu HB hb9
  replace HZS := sz HZS hz9.out
  clear hb9 hz9
  have bs_ := Hbs.out.c2
  go_wp2_with fail
  clear hq2
  go_ret
  exact ⟨rfl, HB.out⟩
theorem sBack_any (k : Int) (l : List ClaimA) (al : Option Addr) (cl : Nat) (ch : ByteArray) (xs : List ByteArray) (ax : Option Addr) (cx : Nat) (hn : xs.length ≤ 8796093022207) (w : World) (hC : ClaimsAt w al l) (hS : Sl w w.heap.size ax (xs.map Value.string)) :
  Calls Try.prog 49 #[.int .i64 k, .slice al l.length cl, .string ch, .slice ax xs.length cx] w (RowsE (backE k l ch xs : Int) (backK k l ch xs) w) := by
 have HC := Lib.hid hC
 have HS := Lib.hid hS
 have HO := Lib.hid (open_any k l al cl xs ax cx hn w hC hS)
 obtain ⟨er, her⟩ : ∃ er, backE k l ch xs = er := ⟨_, rfl⟩
 obtain ⟨L, hL⟩ : ∃ L, backK k l ch xs = L := ⟨_, rfl⟩
 obtain ⟨z, hz⟩ : ∃ z, openK k l xs = z := ⟨_, rfl⟩
 obtain ⟨bc, hbc⟩ : ∃ b, isSc (grp k.toNat).q.m (grp k.toNat).size ch = b := ⟨_, rfl⟩
 have HZ := Lib.hid (show z ≠ 0 → er = z ∧ L = [] from fun h => by
  have e1 : er = z := by rw [← her]; unfold backE; rw [hz, if_pos h]
  exact ⟨e1, by rw [← hL]; unfold backK; rw [her, e1, if_neg h]⟩)
 have HF := Lib.hid (show z = 0 → bc = false → er = 6 ∧ L = [] from fun h g => by
  have e1 : er = 6 := by rw [← her]; unfold backE; rw [hz, if_neg (by simpa using h), hbc, g, if_neg (by decide)]
  exact ⟨e1, by rw [← hL]; unfold backK; rw [her, e1, if_neg (by decide)]⟩)
 have HT := Lib.hid (show z = 0 → bc = true → er = 0 ∧ L = eachA (grp k.toNat) (valB (grp k.toNat) ((grp k.toNat).q.m - numOf ch) l xs) (lens l) l.length from fun h g => by
  have e1 : er = 0 := by rw [← her]; unfold backE; rw [hz, if_neg (by simpa using h), hbc, g, if_pos rfl]
  exact ⟨e1, by rw [← hL]; unfold backK; rw [her, e1, if_pos rfl]⟩)
 rw [her, hL]
 rw [hz] at HO
 have HBC := Lib.hid hbc
 clear hC hS hbc her hL
 by_cases h0 : z = 0
 ·subst h0
  go_enter Try.func49, Try.ntmps49
  go_wp2_with fail
  refine (HO.out).mono ?_
  rintro e w1 ⟨hb9, pp, qa, qn, qc, v, rfl, hok⟩
  have HB := Lib.hid hb9
  have HZS := Lib.hid hb9.size
  have HOK := Lib.hid hok
  clear hok hb9
  obtain ⟨gb, rs, a, c, a', c', e1, e2, rfl, hrk, hg9, hs9, hp9, hx9⟩ := HOK.out rfl
  obtain rfl := Value.pointer.inj e1
  obtain ⟨rfl, rfl, rfl⟩ := Value.slice.inj e2
  obtain ⟨hk9, hsh, hel, hxl, hxa⟩ := openK_ok hz
  have HRK := Lib.hid hrk
  have HRL := Lib.hid (show rs.length = l.length by rw [← hrk, List.length_map])
  have HG := Lib.hid hg9
  have HST := Lib.hid hs9
  have HXX := Lib.hid hx9
  have HXL := Lib.hid hxl
  have HXA := Lib.hid hxa
  have hl64 := (shape_ok hsh).2.1
  have HSHP := Lib.hid (show ∀ r ∈ rs, r.k.bases.length ≤ 8 ∧ r.k.images.length = r.k.bases.length from fun r hr => by
   have h9 := (shape_ok hsh).2.2 r.k (by rw [← hrk]; exact List.mem_map.2 ⟨r, hr, rfl⟩)
   exact ⟨h9.2.1, h9.2.2⟩)
  have OK := Lib.hid (grp_ok k.toNat (by omega) (by omega))
  rw [show xs.length = rs.length by rw [HXL.out, HRL.out]]
  clear hrk hg9 hs9 hp9 hx9 hsh hel hxl hxa HOK
  have BS := Lib.hid (Below.refl w1.heap.size w1)
  obtain ⟨w2, hq2, hb9, hz9, Hbs⟩ := new1 w1 157 [.pointer (some ⟨gb, 0, none⟩), .slice qa rs.length qc]
  replace BS := hbu BS hb9
  replace HB := hbu HB hb9
  replace HZS := sz HZS hz9.out
  clear hb9 hz9
  have bs_ := Hbs.out.c2
  go_wp2_with fail
  clear hq2
  refine (gScalar_m (grp k.toNat) OK.out gb ch bc HBC.out w2 (HG.out.up BS.out)).mono ?_
  rintro e w3 ⟨x, rfl, hb9, hx9⟩
  clear bs_
  replace Hbs := Lib.hid (Hbs.out.up hb9)
  replace BS := hbu BS hb9
  replace HB := hbu HB hb9
  replace HZS := sz HZS hb9.size
  have HX := Lib.hid hx9
  clear hx9 hb9
  have bs_ := Hbs.out.c2
  unfold limbV
  have o4_bs_ := bs_; clear bs_
  obtain ⟨w4, hq4, hb9, hz9, Hbx⟩ := new1 w3 91 [.int .u64 (dig (x) 0 : Int), .int .u64 (dig (x) 1 : Int), .int .u64 (dig (x) 2 : Int), .int .u64 (dig (x) 3 : Int)]
  replace Hbs := Lib.hid (Hbs.out.up hb9)
  replace BS := hbu BS hb9
  replace HB := hbu HB hb9
  replace HZS := sz HZS hz9.out
  clear hb9 hz9
  have bs_ := Hbs.out.c2
  have bx_ := Hbx.out.c4
  cases bc
  ·obtain ⟨rfl, rfl⟩ := HF.out (by simp) (by simp)
   go_wp2_with fail
   clear hq4 o4_bs_
   go_ret2
   exact rowsE_none _ HB.out
  ·obtain ⟨rfl, rfl⟩ := HT.out (by simp) (by simp)
   obtain rfl : x = mont (grp k.toNat).q.m (numOf ch) := HX.out rfl
   go_wp2_with fail
   clear hq4 o4_bs_
   refine (back_any (grp k.toNat) OK.out gb (numOf ch) (isSc_le HBC.out) rs rs.length rfl (by rw [HRL.out]; exact hl64) HSHP.out qa qc xs (by rw [HXL.out, HRL.out]) a' c' w4 (HG.out.up BS.out) (HST.out.up BS.out) (HXX.out.up BS.out)).mono ?_
   rintro e w5 ⟨hb9, a9, c9, ro, rfl, hm9, hr9, hz9⟩
   clear bs_
   replace Hbs := Lib.hid (Hbs.out.up hb9)
   clear bx_
   replace Hbx := Lib.hid (Hbx.out.up hb9)
   replace BS := hbu BS hb9
   replace HB := hbu HB hb9
   replace HZS := sz HZS hb9.size
   have HMR := Lib.hid hm9
   clear hm9
   have HRR := Lib.hid hr9
   clear hr9
   have HZR := Lib.hid hz9
   clear hz9 hb9
   have bs_ := Hbs.out.c2
   have bx_ := Hbx.out.c4
   rw [HRK.out, HRL.out] at HMR ⊢
   go_wp2_with fail
   go_ret2
   exact ⟨HB.out, a9, c9, ro, rfl, HMR.out, HRR.out, HZR.out.1⟩
 ·obtain ⟨rfl, rfl⟩ := HZ.out h0
  have hd : ((er : Int) != 0) = true := by simp; omega
  clear h0 hz
  go_enter Try.func49, Try.ntmps49
  go_wp2_with fail
  refine (HO.out).mono ?_
  rintro e w1 ⟨hb9, pp, qa, qn, qc, v, rfl, _⟩
  have HB := Lib.hid hb9
  have HZS := Lib.hid hb9.size
  clear hb9
  obtain ⟨w2, hq2, hb9, hz9, Hbs⟩ := new1 w1 157 [.pointer pp, .slice qa qn qc]
  replace HB := hbu HB hb9
  replace HZS := sz HZS hz9.out
  clear hb9 hz9
  have bs_ := Hbs.out.c2
  go_wp2_with fail
  clear hq2
  go_ret2
  exact rowsE_none _ HB.out
end Go.Proofs.Ytipgjookfdkciaa
namespace Go.Proofs.Ytipgjookfdkciaa
open Go.RowKit
theorem isSc_lt' {G : GP} {s : ByteArray} (h : isSc G.q.m G.size s = true) : numOf s % G.q.m = numOf s ∧ numOf s < G.q.m := by
 unfold isSc at h
 simp only [Bool.and_eq_true, decide_eq_true_eq] at h
 exact ⟨Nat.mod_eq_of_lt h.2, h.2⟩
theorem isSc_inj {G : GP} {s t : ByteArray} (h : isSc G.q.m G.size s = true) (g : isSc G.q.m G.size t = true) (e : numOf s = numOf t) : s = t := numOf_inj (by rw [isSc_size h, isSc_size g]) e
theorem T_numOf {k : Nat} (h1 : 1 ≤ k) (h3 : k ≤ 3) (x : Nat) : numOf (textS (lowN (grp k) x) (grp k).size) = lowN (grp k) x := T_num (grp_ok k h1 h3) (lowN_le (grp_ok k h1 h3) x) (grp_fits k h1 h3)
theorem T_isEl {k : Nat} (h1 : 1 ≤ k) (h3 : k ≤ 3) {x : Nat} (h : ¬ (grp k).p.m ∣ x) : isEl (grp k).q.m (grp k).size (textS (lowN (grp k) x) (grp k).size) = true :=
 T_el (grp_ok k h1 h3) (grp_fits k h1 h3) (lowN_pos (grp_ok k h1 h3) (grp_prime_p k h1 h3) h) (lowN_le (grp_ok k h1 h3) x)
theorem T_eq {k : Nat} (h1 : 1 ≤ k) (h3 : k ≤ 3) {x y : Nat} : textS (lowN (grp k) x) (grp k).size = textS (lowN (grp k) y) (grp k).size ↔ lowN (grp k) x = lowN (grp k) y :=
 ⟨fun h => T_inj (grp_ok k h1 h3) (grp_fits k h1 h3) (lowN_le (grp_ok k h1 h3) x) (lowN_le (grp_ok k h1 h3) y) h, fun h => by rw [h]⟩
end Go.Proofs.Ytipgjookfdkciaa
namespace Go.Proofs.Ytipgjookfdkciaa
open Go.RowKit
theorem el_le {q size : Nat} {s : ByteArray} (h : isEl q size s = true) : numOf s ≤ q := by
 unfold isEl at h
 simp only [Bool.and_eq_true, decide_eq_true_eq] at h
 exact h.2
structure AllOk (G : GP) (l : List ClaimA) (xs : List ByteArray) : Prop where
 len : ∀ c ∈ l, c.images.length = c.bases.length
 bs : ∀ c ∈ l, ∀ s ∈ c.bases, isEl G.q.m G.size s = true
 ims : ∀ c ∈ l, ∀ s ∈ c.images, isEl G.q.m G.size s = true
 xl : xs.length = l.length
 xs : ∀ s ∈ xs, isSc G.q.m G.size s = true
theorem allOk {k : Int} {l : List ClaimA} {xs : List ByteArray} (h : openK k l xs = 0) : (1 ≤ k ∧ k ≤ 3) ∧ AllOk (grp k.toNat) l xs := by
 obtain ⟨hk, hs, he, hxl, hxa⟩ := openK_ok h
 have hs := shape_ok hs
 have hc : ∀ c ∈ l, c.bases.all (isEl (grp k.toNat).q.m (grp k.toNat).size) = true ∧ c.images.all (isEl (grp k.toNat).q.m (grp k.toNat).size) = true := fun c hc => by
  have h9 : (c.bases.all (isEl (grp k.toNat).q.m (grp k.toNat).size) && c.images.all (isEl (grp k.toNat).q.m (grp k.toNat).size)) = true := List.all_eq_true.1 he c hc
  exact (Bool.and_eq_true _ _).mp h9
 exact ⟨hk, fun c h => (hs.2.2 c h).2.2, fun c h s g => List.all_eq_true.1 (hc c h).1 s g, fun c h s g => List.all_eq_true.1 (hc c h).2 s g, hxl, fun s g => List.all_eq_true.1 hxa s g⟩
theorem backE_ok {k : Int} {l : List ClaimA} {ch : ByteArray} {xs : List ByteArray} (h : backE k l ch xs = 0) : openK k l xs = 0 ∧ isSc (grp k.toNat).q.m (grp k.toNat).size ch = true := by
 unfold backE at h
 by_cases g : openK k l xs = 0
 ·rw [if_neg (by simpa using g)] at h
  refine ⟨g, ?_⟩
  by_cases f : isSc (grp k.toNat).q.m (grp k.toNat).size ch = true
  ·exact f
  ·rw [if_neg f] at h; cases h
 ·rw [if_pos g] at h
  exact absurd h g
end Go.Proofs.Ytipgjookfdkciaa
namespace Go.Proofs.Ytipgjookfdkciaa
open Go.RowKit
theorem pm_exp {q p a m n : Nat} (hpp : IsPrime p) (hp : p = 2 * q + 1) (h0 : 0 < a) (ha : a < p) (h : m % q = n % q) : PM p (a ^ m) (a ^ n) := by
 have h1 := pm_pow_mod hpp hp h0 ha m
 rw [h] at h1
 exact h1.symm.trans (pm_pow_mod hpp hp h0 ha n)
theorem sub_mod_zero {q c : Nat} (h : c < q) : ((q - c) % q + c) % q = 0 % q := by
 rw [Nat.mod_add_mod, Nat.sub_add_cancel (Nat.le_of_lt h), Nat.mod_self, Nat.zero_mod]
theorem diff_ne {q c d : Nat} (hc : c < q) (hd : d < q) (hne : c ≠ d) : ¬ q ∣ (c + (q - d)) % q := by
 intro h
 have h1 := fun (g : 0 < (c + (q - d)) % q) => Nat.le_of_dvd g h
 rcases Nat.lt_or_ge c d with g | g
 ·rw [Nat.mod_eq_of_lt (show c + (q - d) < q by omega)] at h h1
  have := h1 (by omega)
  omega
 ·have e : c + (q - d) = c - d + q := by omega
  rw [e, Nat.add_mod_right, Nat.mod_eq_of_lt (show c - d < q by omega)] at h h1
  have := h1 (by omega)
  omega
theorem inv_mod {q v : Nat} (hqp : IsPrime q) (hq : 1 < q) (hv : ¬ q ∣ v) : v * (v ^ (q - 2) % q) % q = 1 % q := by
 rw [Nat.mul_mod_mod, Nat.mul_comm, ← Nat.pow_succ, show (q - 2).succ = q - 1 by omega]
 exact fermat hqp hv
theorem sound2 {q p B M c1 c2 x1 x2 u v d : Nat} (hqp : IsPrime q) (hpp : IsPrime p) (hp : p = 2 * q + 1) (hq : 1 < q) (hB0 : 0 < B) (hB : B < p) (hM0 : 0 < M) (hM : M < p) (hc1 : c1 < q) (hc2 : c2 < q) (_hx1 : x1 < q) (hx2 : x2 < q) (hne : c1 ≠ c2)
  (h : PM p (B ^ x1 * M ^ ((q - c1) % q)) (B ^ x2 * M ^ ((q - c2) % q))) (hu : (x1 + (q - x2)) % q = u) (hv : (c1 + (q - c2)) % q = v) (hd : v ^ (q - 2) % q = d) : PM p (B ^ (d * u % q)) M := by
 have hvn : ¬ q ∣ v := by rw [← hv]; exact diff_ne hc1 hc2 hne
 have h1 := h.mul (PM.refl p (B ^ (q - x2) * M ^ c1))
 rw [show B ^ x1 * M ^ ((q - c1) % q) * (B ^ (q - x2) * M ^ c1) = B ^ (x1 + (q - x2)) * M ^ ((q - c1) % q + c1) by rw [Nat.pow_add, Nat.pow_add]; ac_rfl,
  show B ^ x2 * M ^ ((q - c2) % q) * (B ^ (q - x2) * M ^ c1) = B ^ (x2 + (q - x2)) * M ^ ((q - c2) % q + c1) by rw [Nat.pow_add, Nat.pow_add]; ac_rfl] at h1
 have e1 : PM p (B ^ (x1 + (q - x2)) * M ^ ((q - c1) % q + c1)) (B ^ u * M ^ 0) :=
  (pm_exp hpp hp hB0 hB (by rw [← hu, Nat.mod_mod])).mul (pm_exp hpp hp hM0 hM (sub_mod_zero hc1))
 have e2 : PM p (B ^ (x2 + (q - x2)) * M ^ ((q - c2) % q + c1)) (B ^ 0 * M ^ v) :=
  (pm_exp hpp hp hB0 hB (by rw [show x2 + (q - x2) = q by omega, Nat.mod_self, Nat.zero_mod])).mul (pm_exp hpp hp hM0 hM (by rw [← hv, Nat.mod_mod, Nat.mod_add_mod, Nat.add_comm]))
 have h2 : PM p (B ^ u) (M ^ v) := by
  have h3 := (e1.symm.trans h1).trans e2
  rwa [Nat.pow_zero, Nat.pow_zero, Nat.mul_one, Nat.one_mul] at h3
 refine (pm_exp hpp hp hB0 hB (show d * u % q % q = u * d % q by rw [Nat.mod_mod, Nat.mul_comm])).trans ?_
 rw [Nat.pow_mul]
 refine (h2.pow d).trans ?_
 rw [← Nat.pow_mul]
 have h4 := pm_exp hpp hp hM0 hM (show v * d % q = 1 % q by rw [← hd]; exact inv_mod hqp hq hvn)
 rwa [Nat.pow_one] at h4
theorem eachA_inj {G : GP} {v v' : Nat → Nat → Nat} {ms : List Nat} {n : Nat} (h : eachA G v ms n = eachA G v' ms n) {i t : Nat} (hi : i < n) (ht : t < ms.getD i 0) : textS (lowN G (v i t)) G.size = textS (lowN G (v' i t)) G.size := by
 unfold eachA at h
 have h1 := List.map_inj_left.1 h i (List.mem_range.2 hi)
 unfold eachL at h1
 exact List.map_inj_left.1 h1 t (List.mem_range.2 ht)
theorem zip_all {α β : Type} {f : α → β → Bool} {l : List α} {m : List β} (h : ∀ i (hl : i < l.length) (hm : i < m.length), f l[i] m[i] = true) : (List.zipWith f l m).all id = true := by
 rw [List.all_eq_true]
 intro x hx
 obtain ⟨i, hi, rfl⟩ := List.getElem_of_mem hx
 rw [List.getElem_zipWith]
 exact h i _ _
theorem openK_zero {k : Int} (h1 : 1 ≤ k ∧ k ≤ 3) {l : List ClaimA} {xs : List ByteArray} (hs : shapeE l = 0) (he : l.all (cElems (grp k.toNat)) = true) (hl : xs.length = l.length) (ha : xs.all (isSc (grp k.toNat).q.m (grp k.toNat).size) = true) : openK k l xs = 0 := by
 unfold openK
 rw [if_pos h1]
 unfold openE
 rw [(wrong_elems hs).1 he, if_neg (by simp)]
 unfold scE
 rw [if_pos hl, if_pos ha]
theorem exF_num {k : Nat} (h1 : 1 ≤ k) (h3 : k ≤ 3) (d : Nat) (x y : ByteArray) : numOf (exF (grp k) d x y) = d * ((numOf x + ((grp k).q.m - numOf y)) % (grp k).q.m) % (grp k).q.m :=
 T_num (grp_ok k h1 h3) (Nat.le_of_lt (Nat.mod_lt _ (grp_ok k h1 h3).q.pos)) (grp_fits k h1 h3)
theorem exF_sc {k : Nat} (h1 : 1 ≤ k) (h3 : k ≤ 3) (d : Nat) (x y : ByteArray) : isSc (grp k).q.m (grp k).size (exF (grp k) d x y) = true :=
 T_sc (grp_ok k h1 h3) (grp_fits k h1 h3) (Nat.mod_lt _ (grp_ok k h1 h3).q.pos)
theorem isEl_bd {G : GP} (ok : G.Ok) {s : ByteArray} (h : isEl G.q.m G.size s = true) : 0 < numOf s ∧ numOf s < G.p.m := by
 unfold isEl at h
 simp only [Bool.and_eq_true, decide_eq_true_eq] at h
 have := ok.twice
 exact ⟨by omega, by omega⟩
theorem sound_any {k : Int} {l : List ClaimA} {p q : PrfA} (h1 : backE k l p.c p.l = 0) (h2 : backE k l q.c q.l = 0) (he : backK k l p.c p.l = backK k l q.c q.l) (hne : p.c ≠ q.c) :
  exEk k p q = 0 ∧ (exLk k p q).length = l.length ∧ holdK k l (exLk k p q) = true := by
 obtain ⟨o1, s1⟩ := backE_ok h1
 obtain ⟨o2, s2⟩ := backE_ok h2
 obtain ⟨hk, hsh, hel, hxl, hxa⟩ := openK_ok o1
 obtain ⟨_, _, _, hyl, hya⟩ := openK_ok o2
 obtain ⟨_, a1⟩ := allOk o1
 obtain ⟨_, a2⟩ := allOk o2
 obtain ⟨j, rfl⟩ : ∃ j : Nat, k = j := ⟨k.toNat, by omega⟩
 simp only [Int.toNat_natCast] at *
 have k1 : 1 ≤ j := by omega
 have k3 : j ≤ 3 := by omega
 have ok := grp_ok j k1 k3
 have hpp := grp_prime_p j k1 k3
 have hqp := grp_prime_q j k1 k3
 have hq : 1 < (grp j).q.m := by have := ok.odd; omega
 have hl0 := (shape_ok hsh).1
 have eE : exE (grp j) p q = 0 := by
  unfold exE
  rw [if_pos ⟨by omega, by omega⟩, if_pos, if_neg hne]
  rw [List.all_cons, List.all_cons, s1, s2, hxa, hya]
  rfl
 have eK : exEk (j : Int) p q = 0 := by
  unfold exEk
  rw [if_pos (by omega)]
  exact eE
 have eL : exLk (j : Int) p q = List.zipWith (exF (grp j) (exI (grp j) p.c q.c)) p.l q.l := by
  unfold exLk
  rw [if_pos (by omega)]
  unfold exL
  simp only [Int.toNat_natCast]
  rw [if_pos eE]
 have hlen : (exLk (j : Int) p q).length = l.length := by rw [eL, List.length_zipWith, hxl, hyl, Nat.min_self]
 refine ⟨eK, hlen, ?_⟩
 have hop : openK (j : Int) l (exLk (j : Int) p q) = 0 := by
  refine openK_zero (by omega) hsh hel hlen ?_
  rw [List.all_eq_true]
  intro x hx
  rw [eL] at hx
  obtain ⟨i, hi, rfl⟩ := List.getElem_of_mem hx
  rw [List.getElem_zipWith]
  exact exF_sc k1 k3 _ _ _
 unfold holdK
 rw [hop, decide_eq_true rfl, Bool.true_and]
 simp only [Int.toNat_natCast]
 unfold backK at he
 rw [if_pos h1, if_pos h2] at he
 simp only [Int.toNat_natCast] at he
 unfold holdP
 refine zip_all fun i hi hz => ?_
 unfold hold1
 refine zip_all fun t hb hm => ?_
 unfold hold2
 rw [decide_eq_true_eq]
 have hlt : t < (lens l).getD i 0 := by
  have e : (lens l).getD i 0 = l[i].bases.length := by unfold lens; simp [List.getD, hi]
  omega
 have h9 := (T_eq k1 k3).1 (eachA_inj he hi hlt)
 have hx : i < p.l.length := by omega
 have hy : i < q.l.length := by omega
 have sx := isSc_lt' (a1.xs _ (List.getElem_mem hx))
 have sy := isSc_lt' (a2.xs _ (List.getElem_mem hy))
 have bb := isEl_bd ok (a1.bs _ (List.getElem_mem hi) _ (List.getElem_mem hb))
 have mm := isEl_bd ok (a1.ims _ (List.getElem_mem hi) _ (List.getElem_mem hm))
 have n1 := isSc_lt' s1
 have n2 := isSc_lt' s2
 have hcd : numOf p.c ≠ numOf q.c := fun e => hne (isSc_inj s1 s2 e)
 have ev : ∀ (y : Nat) (xs : List ByteArray) (hxs : i < xs.length), valB (grp j) y l xs i t = numOf l[i].bases[t] ^ (numOf xs[i] % (grp j).q.m) * numOf l[i].images[t] ^ (y % (grp j).q.m) := fun y xs hxs => by
  unfold valB valF
  simp [List.getD, hi, hb, hm, hxs]
 rw [ev _ _ hx, ev _ _ hy, sx.1, sy.1] at h9
 refine (lowN_iff ok _ _).2 ?_
 have hz' : numOf (exLk (j : Int) p q)[i] = exI (grp j) p.c q.c * ((numOf p.l[i] + ((grp j).q.m - numOf q.l[i])) % (grp j).q.m) % (grp j).q.m := by
  rw [← exF_num k1 k3, ← List.getElem_zipWith (f := exF (grp j) (exI (grp j) p.c q.c)) (l := p.l) (l' := q.l) (i := i) (h := by rw [List.length_zipWith]; omega)]
  congr 1
  exact getElem_congr_coll eL
 rw [hz', Nat.mod_mod]
 exact sound2 hqp hpp ok.twice hq bb.1 bb.2 mm.1 mm.2 n1.2 n2.2 sx.2 sy.2 hcd ((lowN_iff ok _ _).1 h9) rfl rfl rfl
end Go.Proofs.Ytipgjookfdkciaa
namespace Go.Proofs.Ytipgjookfdkciaa
open Go.RowKit
structure ClaimB where
 bb : Nat
 ib : Nat
 s : ByteArray
 t : ByteArray
 u : ByteArray
 v : ByteArray
def ClaimB.a (c : ClaimB) : ClaimA := ⟨some ⟨c.bb, 0, none⟩, 2, [c.s, c.t], some ⟨c.ib, 0, none⟩, 2, [c.u, c.v]⟩
def ClaimB.x (c : ClaimB) : ByteArray × ByteArray × ByteArray × ByteArray := (c.s, c.t, c.u, c.v)
def ClaimB.cells (c : ClaimB) : List Value := [.slice (some ⟨c.bb, 0, none⟩) 2 2, .slice (some ⟨c.ib, 0, none⟩) 2 2]
theorem ClaimB.cells_len (c : ClaimB) : c.cells.length = 2 := rfl
structure ClaimB.At (w : World) (c : ClaimB) : Prop where
 b : Bx w c.bb 9 [.string c.s, .string c.t]
 i : Bx w c.ib 9 [.string c.u, .string c.v]
def ClaimsOff (v : Value) (N : Nat) (w : World) (cs : List ClaimB) : Prop := ∀ c ∈ cs, c.At w ∧ N ≤ c.bb ∧ N ≤ c.ib ∧ c.bb ≠ c.ib ∧ v.ownBlock ≠ some c.bb ∧ v.ownBlock ≠ some c.ib
theorem ClaimB.At.up {w w1 : World} {c : ClaimB} (h : c.At w) (hb : Below w.heap.size w w1) : c.At w1 := ⟨h.b.up hb, h.i.up hb⟩
theorem ClaimsOff.up {v : Value} {N : Nat} {w w1 : World} {cs : List ClaimB} (h : ClaimsOff v N w cs) (hb : Below w.heap.size w w1) : ClaimsOff v N w1 cs := fun c hc =>
 let ⟨h1, h2⟩ := h c hc
 ⟨h1.up hb, h2⟩
theorem ClaimsOff.push {v : Value} {N g n c : Nat} {w w1 : World} {cs : List ClaimB} {r : ClaimB} (h : ClaimsOff v N w cs) (hr : ClaimsOff v N w [r]) (hk : Kept (fun q => Value.ownBlock v = some q) w w1) (hf : Value.ownBlock v = some g ∨ w.heap.size ≤ g) : ClaimsOff (.slice (some ⟨g, 0, none⟩) n c) N w1 (cs ++ [r]) := fun s hs => by
 obtain ⟨h1, h2, h3, h4, h5, h6⟩ : s.At w ∧ N ≤ s.bb ∧ N ≤ s.ib ∧ s.bb ≠ s.ib ∧ v.ownBlock ≠ some s.bb ∧ v.ownBlock ≠ some s.ib := by
  rcases List.mem_append.1 hs with h9 | h9
  ·exact h s h9
  ·exact hr s h9
 have key : ∀ b, b < w.heap.size → v.ownBlock ≠ some b → (Value.slice (some ⟨g, 0, none⟩) n c).ownBlock ≠ some b := fun b hl hv e => by
  have e9 : g = b := Option.some.inj e
  rcases hf with hf | hf
  ·exact hv (by rw [hf, e9])
  ·omega
 exact ⟨⟨h1.b.keptP hk h5, h1.i.keptP hk h6⟩, h2, h3, h4, key _ h1.b.lt h5, key _ h1.i.lt h6⟩
theorem ClaimB.At.full {w : World} {c : ClaimB} (h : c.At w) : c.a.At w := by
 have key : ∀ (b : Nat) (s t : ByteArray), Bx w b 9 [.string s, .string t] → Sl w w.heap.size (some ⟨b, 0, none⟩) ([s, t].map Value.string) := fun b s t hb => Sl.of_bx hb
 exact ⟨key _ _ _ h.b, key _ _ _ h.i⟩
def madeT (G : GP) (o x : ByteArray) : ByteArray × ByteArray × ByteArray × ByteArray := (textS 2 G.size, o, textS (lowN G (2 ^ numOf x)) G.size, textS (lowN G (numOf o ^ numOf x)) G.size)
def MadeR (z : Bool) (L : List (ByteArray × ByteArray × ByteArray × ByteArray)) (w : World) (e : Ending) (w' : World) : Prop :=
 Below w.heap.size w w' ∧ ∃ (a : Option Addr) (c : Nat) (cs : List ClaimB), e = .returned (.slice a L.length c) ∧ cs.map ClaimB.x = L ∧ Sl w' w'.heap.size a (cs.flatMap ClaimB.cells) ∧ ClaimsOff (.slice a L.length c) w.heap.size w' cs ∧ (∀ x, a = some x → w.heap.size ≤ x.block) ∧ (z = true → a = none)
theorem infoClaimA : (Try.prog.info? 70).map (fun i => (i.zero, i.size, i.bytes)) = some (some (.agg #[.slice none 0 0, .slice none 0 0]), 2, 48) := by kernel_rfl
theorem madeR_none {z : Bool} {w w' : World} (h : Below w.heap.size w w') : MadeR z [] w (.returned (.slice none 0 0)) w' := ⟨h, none, 0, [], rfl, rfl, Or.inl rfl, (fun _ h => by cases h), (fun _ h => by cases h), fun _ => rfl⟩
theorem grp2 {k : Nat} (h1 : 1 ≤ k) (h3 : k ≤ 3) : isEl (grp k).q.m (grp k).size (textS 2 (grp k).size) = true ∧ numOf (textS 2 (grp k).size) = 2 := by
 have ok := grp_ok k h1 h3
 have := ok.odd
 exact ⟨T_el ok (grp_fits k h1 h3) (by decide) (by omega), T_num ok (by omega) (grp_fits k h1 h3)⟩
theorem powA {k : Nat} {a x : ByteArray} (ha : isEl (grp k).q.m (grp k).size a = true) (hx : isSc (grp k).q.m (grp k).size x = true) : powV (grp k) a x = textS (lowN (grp k) (numOf a ^ numOf x)) (grp k).size ∧ powE (grp k) a x = 0 := by
 unfold powV powE
 rw [ha, hx]
 exact ⟨rfl, rfl⟩
theorem powB {k : Nat} {a x : ByteArray} (ha : isEl (grp k).q.m (grp k).size a = true) (hx : isSc (grp k).q.m (grp k).size x = false) : powE (grp k) a x = 6 := by
 unfold powE
 rw [ha, hx]
 rfl
theorem made_some (k : Nat) (h1 : 1 ≤ k) (h3 : k ≤ 3) (o : ByteArray) (ho : isEl (grp k).q.m (grp k).size o = true) (xs : List ByteArray) (n : Nat) (hxn : xs.length = n) (ax : Option Addr) (cx : Nat) (hn : n ≤ 1000000000000) (b : Bool) (hb : xs.all (isSc (grp k).q.m (grp k).size) = b) (w : World) (hX : Sl w w.heap.size ax (xs.map Value.string)) :
  Calls Try.prog 54 #[.int .i64 (k : Int), .string o, .slice ax n cx] w (MadeR (!b) (if b = true then xs.map (madeT (grp k) o) else []) w) := by
 have HB0 := Lib.hid (fun w => Base_some k h1 h3 w)
 have hm := fun w => Member_some k h1 h3 o w
 rw [ho] at hm
 have HM := Lib.hid hm
 have HP1 := Lib.hid (fun x (hx : isSc (grp k).q.m (grp k).size x = true) w => by
  have h := Power_some k h1 h3 (textS 2 (grp k).size) x w
  rw [(powA (grp2 h1 h3).1 hx).1, (powA (grp2 h1 h3).1 hx).2, (grp2 h1 h3).2] at h
  exact h)
 have HP2 := Lib.hid (fun x (hx : isSc (grp k).q.m (grp k).size x = true) w => by
  have h := Power_some k h1 h3 o x w
  rw [(powA ho hx).1, (powA ho hx).2] at h
  exact h)
 have HP3 := Lib.hid (fun x (hx : isSc (grp k).q.m (grp k).size x = false) w => by
  have h := Power_some k h1 h3 (textS 2 (grp k).size) x w
  rw [powB (grp2 h1 h3).1 hx] at h
  exact h)
 have HP4 := Lib.hid (fun x w => Power_some k h1 h3 o x w)
 have HXN := Lib.hid hxn
 have HX := Lib.hid hX
 have HBB := Lib.hid hb
 have HTE0 := Lib.hid (fun x => (show madeT (grp k) o x = (textS 2 (grp k).size, o, textS (lowN (grp k) (2 ^ numOf x)) (grp k).size, textS (lowN (grp k) (numOf o ^ numOf x)) (grp k).size) from rfl))
 obtain ⟨tb, htb⟩ : ∃ t, textS 2 (grp k).size = t := ⟨_, rfl⟩
 rw [htb] at HB0 HP1 HP3
 simp only [htb] at HTE0
 obtain ⟨L, hL⟩ : ∃ L, (if b = true then xs.map (madeT (grp k) o) else []) = L := ⟨_, rfl⟩
 rw [hL]
 have HLF := Lib.hid (show b = false → L = [] from fun h => by rw [← hL, h]; rfl)
 have HLT := Lib.hid (show b = true → L = xs.map (madeT (grp k) o) from fun h => by rw [← hL, if_pos h])
 clear hm ho hxn hX hb hL htb
 go_enter Try.func54, Try.ntmps54
 go_wp2_with fail
 refine (HB0.out w).mono ?_
 rintro e w1 ⟨rfl, hb9⟩
 have HB := Lib.hid hb9
 have HZS := Lib.hid hb9.size
 clear hb9
 go_wp2_with fail
 refine (HM.out w1).mono ?_
 rintro e w2 ⟨rfl, hb9⟩
 replace HB := hbu HB hb9
 replace HZS := sz HZS hb9.size
 clear hb9
 have BL := Lib.hid (Below.refl w2.heap.size w2)
 have HBS := Lib.hid HB.out.size
 go_wp2_with fail
 go_loopw [31, 9] (fun i v wr => ∃ (j : Nat) (g : Option Addr) (c9 : Nat) (cs : List ClaimB), j ≤ n ∧ i = .int .i64 j ∧ v = .slice g j c9 ∧ Hid (cs.map ClaimB.x = (xs.take j).map (madeT (grp k) o)) ∧ Hid ((xs.take j).all (isSc (grp k).q.m (grp k).size) = true) ∧ Hid (Below w2.heap.size w2 wr) ∧ Hid (RowO w2.heap.size wr 70 2 (.slice g j c9) j (cs.flatMap ClaimB.cells)) ∧ Hid (ClaimsOff (.slice g j c9) w2.heap.size wr cs)) (fun i _ _ => n - (intOf i).toNat)
 case atStart => exact ⟨0, none, 0, [], Nat.zero_le _, rfl, rfl, rfl, rfl, BL, RowO.nil, fun _ h => by cases h⟩
 case round =>
  obtain ⟨j, g, c9, cs, hj, rfl, rfl, HCM, HAL, HL9, Hr, HCN⟩ := hrel
  have hb9 := HL9.out
  clear HL9
  replace BL := hbu BL hb9
  replace HB := hbu HB hb9
  replace HZS := sz HZS hb9.size
  clear hb9
  have BR := Lib.hid (Below.refl wr.heap.size wr)
  have hro := Hr.out.lt
  by_cases hjn : j < n
  ·have hjx : j < xs.length := by rw [HXN.out]; exact hjn
   obtain ⟨bx, ox, rfl, hbx, hcx⟩ := (HX.out.up HB.out).at j (by simpa using hjx)
   rw [List.getElem_map] at hcx
   have HTK := Lib.hid (List.take_succ_eq_append_getElem hjx)
   have HALS := Lib.hid (fun h => all_snoc (f := isSc (grp k).q.m (grp k).size) hjx HAL.out h)
   have HALN := Lib.hid (fun h => all_not (f := isSc (grp k).q.m (grp k).size) hjx h)
   generalize xs[j] = x at *
   obtain ⟨bj, hbj⟩ : ∃ b, isSc (grp k).q.m (grp k).size x = b := ⟨_, rfl⟩
   have HBJ := Lib.hid hbj
   clear hbj
   cases bj
   ·obtain rfl : b = false := by rw [← HBB.out]; exact HALN.out HBJ.out
    obtain rfl := HLF.out rfl
    obtain ⟨pv, hpv⟩ : ∃ v, powV (grp k) o x = v := ⟨_, rfl⟩
    obtain ⟨pe, hpe⟩ : ∃ v, powE (grp k) o x = v := ⟨_, rfl⟩
    have h4 := HP4.out x
    rw [hpv, hpe] at h4
    have HP5 := Lib.hid h4
    obtain ⟨pw, hpw⟩ : ∃ v, powV (grp k) tb x = v := ⟨_, rfl⟩
    have h3' := HP3.out x HBJ.out
    rw [hpw] at h3'
    have HP6 := Lib.hid h3'
    clear h4 h3' hpv hpe hpw HP4 HP3
    go_wp2_with fail
    refine (HP6.out wr).mono ?_
    rintro e w3 ⟨rfl, hb9⟩
    replace Hr := Lib.hid (Hr.out.up hb9)
    replace BL := hbu BL hb9
    replace BR := hbu BR hb9
    replace HB := hbu HB hb9
    replace HZS := sz HZS hb9.size
    clear hb9
    go_wp2_with fail
    refine (HP5.out w3).mono ?_
    rintro e w4 ⟨rfl, hb9⟩
    replace Hr := Lib.hid (Hr.out.up hb9)
    replace BL := hbu BL hb9
    replace BR := hbu BR hb9
    replace HB := hbu HB hb9
    replace HZS := sz HZS hb9.size
    clear hb9
    go_wp2_with fail
    go_ret
    exact madeR_none HB.out
   ·have HT := Lib.hid (HALS.out HBJ.out)
    have HQ1 := Lib.hid (HP1.out x HBJ.out)
    have HQ2 := Lib.hid (HP2.out x HBJ.out)
    have HTE := Lib.hid (HTE0.out x)
    obtain ⟨tu, htu⟩ : ∃ t, textS (lowN (grp k) (2 ^ numOf x)) (grp k).size = t := ⟨_, rfl⟩
    obtain ⟨tv, htv⟩ : ∃ t, textS (lowN (grp k) (numOf o ^ numOf x)) (grp k).size = t := ⟨_, rfl⟩
    rw [htu] at HQ1 HTE
    rw [htv] at HQ2 HTE
    clear htu htv
    go_wp2_with fail
    refine (HQ1.out wr).mono ?_
    rintro e w3 ⟨rfl, hb9⟩
    replace Hr := Lib.hid (Hr.out.up hb9)
    replace BL := hbu BL hb9
    replace BR := hbu BR hb9
    replace HB := hbu HB hb9
    replace HZS := sz HZS hb9.size
    clear hb9
    go_wp2_with fail
    refine (HQ2.out w3).mono ?_
    rintro e w4 ⟨rfl, hb9⟩
    replace Hr := Lib.hid (Hr.out.up hb9)
    replace BL := hbu BL hb9
    replace BR := hbu BR hb9
    replace HB := hbu HB hb9
    replace HZS := sz HZS hb9.size
    clear hb9
    obtain ⟨w5, hq5, hb9, hz9, Hbb, Hbi⟩ := new2 w4 9 [.string tb, .string o] 9 [.string tu, .string tv]
    replace Hr := Lib.hid (Hr.out.up hb9)
    replace BL := hbu BL hb9
    replace BR := hbu BR hb9
    replace HB := hbu HB hb9
    replace HZS := sz HZS hz9.out
    clear hb9 hz9
    have bb_ := Hbb.out.c2
    have bi_ := Hbi.out.c2
    have HOFF := Lib.hid (HCN.out.up BR.out)
    have HONE := Lib.hid (show ClaimsOff (.slice g j c9) w2.heap.size w5 [⟨w4.heap.size, w4.heap.size + 1, tb, o, tu, tv⟩] from fun s hs => by
     obtain rfl := List.mem_singleton.1 hs
     have g1 := BR.out.size
     have g2 := BL.out.size
     exact ⟨⟨Hbb.out, Hbi.out⟩, by show _ ≤ w4.heap.size; have q1 := HZS.out; have q2 := HZS.out; have q3 := HZS.out; omega, by show _ ≤ w4.heap.size + 1; have q1 := HZS.out; have q2 := HZS.out; have q3 := HZS.out; omega, by show w4.heap.size ≠ w4.heap.size + 1; omega, fun e => by have a1 := hro _ e; have a2 : w4.heap.size < wr.heap.size := a1.2; have q1 := HZS.out; have q2 := HZS.out; have q3 := HZS.out; omega, fun e => by have a1 := hro _ e; have a2 : w4.heap.size + 1 < wr.heap.size := a1.2; have q1 := HZS.out; have q2 := HZS.out; have q3 := HZS.out; omega⟩)
    have HKP := Lib.hid (Kept.refl (fun q9 => Value.ownBlock (.slice g j c9) = some q9) w5)
    obtain ⟨i9, hi9, hz90, hz91, hz92⟩ := info_parts infoClaimA
    go_wp2_with (at_builtin; refine wpList_pushF (w2.heap.size) w5 (by have g0 := HZS.out; omega) rfl _ _ 58 rfl 70 i9 _ 2 48 Try.underlying58 hi9 hz90 hz91 hz92 rfl (by omega) ((.slice g j c9)) (j) ((cs.flatMap ClaimB.cells)) rfl Hr.out _ _ _ rfl rfl rfl (by simp [Value.oneCell']) (by omega) (by unfold maxLen; omega) ?_)
    intro g6 c6 w6 hown9 hg9 hf9
    clear hq5 bb_ bi_ Hbb Hbi
    have hb9 := Below.grown HB.out hg9 (by have g0 := HZS.out; omega) (fun q hq => Nat.le_trans (show w.heap.size ≤ w2.heap.size by have g0 := HZS.out; omega) (Hr.out.lt q hq).1)
    replace BL := Lib.hid (Below.grown BL.out hg9 (by have g0 := HZS.out; omega) (fun q hq => Nat.le_trans (show w2.heap.size ≤ w2.heap.size by have g0 := HZS.out; omega) (Hr.out.lt q hq).1))
    replace HKP := Lib.hid (Kept.grown HKP.out hg9 (fun q hq => Or.inr hq))
    replace HZS := sz HZS hg9.size
    clear Hr HB
    have Hr := Lib.hid hown9
    have HB := Lib.hid hb9
    clear hb9 hown9 hg9 hi9 hz90 hz91 hz92
    have HRP := Lib.hid (fun (n9 c9 : Nat) => ClaimsOff.push (n := n9) (c := c9) HOFF.out HONE.out HKP.out hf9)
    go_wp2_with fail
    go_roundw
    case rel => exact ⟨j + 1, _, _, _, by omega, by go_num, rfl, Lib.hid (by rw [List.map_append, HCM.out, HTK.out, List.map_append, show [x].map (madeT (grp k) o) = [madeT (grp k) o x] from rfl, HTE.out]; rfl), HT, BL, Hr.out.eq (by rw [List.flatMap_append]; simp [ClaimB.cells]) rfl, HRP.out _ _⟩
    case measure => simp [intOf]; omega
  ·have hjn' : j = n := by omega
   subst hjn'
   obtain rfl : b = true := by rw [← HBB.out]; have h9 := HAL.out; rwa [List.take_of_length_le (by rw [HXN.out]; exact Nat.le_refl _)] at h9
   have HCM2 := Lib.hid (show cs.map ClaimB.x = xs.map (madeT (grp k) o) by have h9 := HCM.out; rwa [List.take_of_length_le (by rw [HXN.out]; exact Nat.le_refl _)] at h9)
   obtain rfl := HLT.out rfl
   go_wp2_with fail
   go_ret
   exact ⟨HB.out, g, c9, cs, by rw [List.length_map, HXN.out]; rfl, HCM2.out, Hr.out.sl, by rw [List.length_map, HXN.out]; exact fun s hs => let ⟨h1, h2, h3, h4⟩ := HCN.out s hs; ⟨h1, Nat.le_trans HBS.out h2, Nat.le_trans HBS.out h3, h4⟩, fun x hx => Nat.le_trans HBS.out (RowO.own_le Hr.out hx), fun h => by cases h⟩
end Go.Proofs.Ytipgjookfdkciaa
namespace Go.Proofs.Ytipgjookfdkciaa
open Go.RowKit
theorem shape_two {l : List ClaimA} (h0 : 0 < l.length) (h64 : l.length ≤ 64) (h : ∀ c ∈ l, c.bases.length = 2 ∧ c.images.length = 2) : shapeE l = 0 := by
 unfold shapeE
 have e1 : l.any cLong = false := by
  rw [List.any_eq_false]
  intro c hc
  unfold cLong
  rw [(h c hc).1, (h c hc).2]
  decide
 have e2 : l.any cForm = false := by
  rw [List.any_eq_false]
  intro c hc
  unfold cForm
  rw [(h c hc).1, (h c hc).2]
  decide
 rw [e1, e2, decide_eq_false (by omega), decide_eq_false (by omega)]
 rfl
end Go.Proofs.Ytipgjookfdkciaa
namespace Go.Proofs.Ytipgjookfdkciaa
open Go.RowKit
theorem hold_one {k : Int} {c : ClaimB} {xs : List ByteArray} (h : holdK k [c.a] xs = true) : ∃ z, xs = [z] ∧ lowN (grp k.toNat) (numOf c.s ^ (numOf z % (grp k.toNat).q.m)) = lowN (grp k.toNat) (numOf c.u) ∧ lowN (grp k.toNat) (numOf c.t ^ (numOf z % (grp k.toNat).q.m)) = lowN (grp k.toNat) (numOf c.v) := by
 unfold holdK at h
 simp only [Bool.and_eq_true, decide_eq_true_eq] at h
 obtain ⟨h1, h2⟩ := h
 have hl := (openK_ok h1).2.2.2.1
 obtain ⟨z, rfl⟩ := List.length_eq_one_iff.1 (show xs.length = 1 from hl)
 refine ⟨z, rfl, ?_⟩
 unfold holdP hold1 hold2 ClaimB.a at h2
 simpa using h2
theorem once_plain {k : Nat} (h1 : 1 ≤ k) (h3 : k ≤ 3) {o x y : ByteArray} (ho : isEl (grp k).q.m (grp k).size o = true) (ho1 : o ≠ textS 1 (grp k).size) (hx : isSc (grp k).q.m (grp k).size x = true) (hy : isSc (grp k).q.m (grp k).size y = true) (hne : x ≠ y)
  {c : ClaimB} (hc : c.x = (textS 2 (grp k).size, o, textS (lowN (grp k) (2 ^ numOf x)) (grp k).size, textS (lowN (grp k) (numOf o ^ numOf y)) (grp k).size)) (xs : List ByteArray) : holdK (k : Int) [c.a] xs = false := by
 rw [Bool.eq_false_iff]
 intro h
 obtain ⟨z, _, e1, e2⟩ := hold_one h
 simp only [Int.toNat_natCast] at e1 e2
 unfold ClaimB.x at hc
 simp only [Prod.mk.injEq] at hc
 obtain ⟨c1, c2, c3, c4⟩ := hc
 rw [c1, c3, (grp2 h1 h3).2, T_numOf h1 h3] at e1
 rw [c2, c4, T_numOf h1 h3] at e2
 have ok := grp_ok k h1 h3
 have hpp := grp_prime_p k h1 h3
 have hqp := grp_prime_q k h1 h3
 have hq : 1 < (grp k).q.m := by have := ok.odd; omega
 have bo := isEl_bd ok ho
 have lo := el_le ho
 have hz := Nat.mod_lt (numOf z) (show 0 < (grp k).q.m by omega)
 have x1 := isSc_lt' hx
 have y1 := isSc_lt' hy
 have p1 := ((lowN_iff ok _ _).1 e1).trans (lowN_pm ok _)
 have p2 := ((lowN_iff ok _ _).1 e2).trans (lowN_pm ok _)
 have ho2 : 1 < numOf o := by
  rcases Nat.lt_or_ge 1 (numOf o) with g | g
  ·exact g
  ·exfalso
   have e : numOf o = 1 := by omega
   exact ho1 (by rw [← e, ← isEl_size ho, text_numOf])
 have q1 := order_lt hqp hpp ok.twice hq (by decide) hq hz x1.2 p1
 have q2 := order_lt hqp hpp ok.twice hq ho2 lo hz y1.2 p2
 exact hne (isSc_inj hx hy (by omega))
theorem once_err {k : Nat} (h1 : 1 ≤ k) (h3 : k ≤ 3) {c : ClaimA} (hs : shapeE [c] = 0) (he : [c].all (cElems (grp k)) = true) (ch z : ByteArray) : backE (k : Int) [c] ch [z] = 0 ∨ backE (k : Int) [c] ch [z] = 6 := by
 have hw : wrongE (grp k) [c] = 0 := by unfold wrongE; rw [hs, if_neg (by simp), if_pos he]
 have ho : openK (k : Int) [c] [z] = if isSc (grp k).q.m (grp k).size z = true then 0 else 6 := by
  unfold openK openE scE
  rw [if_pos (⟨by omega, by omega⟩ : 1 ≤ (k : Int) ∧ (k : Int) ≤ 3), Int.toNat_natCast, if_neg (by rw [hw]; simp), if_pos (show [z].length = [c].length from rfl), List.all_cons, List.all_nil, Bool.and_true]
 unfold backE
 rw [ho, Int.toNat_natCast]
 by_cases g : isSc (grp k).q.m (grp k).size z = true
 ·rw [if_pos g, if_neg (by simp)]
  by_cases g2 : isSc (grp k).q.m (grp k).size ch = true
  ·rw [if_pos g2]; exact Or.inl rfl
  ·rw [if_neg g2]; exact Or.inr rfl
 ·rw [if_neg g, if_pos (by simp)]; exact Or.inr rfl
theorem once_lens {k : Nat} {c : ClaimB} {ch : ByteArray} {xs : List ByteArray} (h : backE (k : Int) [c.a] ch xs = 0) : ∃ r, backK (k : Int) [c.a] ch xs = [r] ∧ r.length = 2 := by
 unfold backK
 rw [if_pos h]
 exact ⟨_, rfl, by rw [eachL_len]; rfl⟩
theorem once_wf {k : Nat} (h1 : 1 ≤ k) (h3 : k ≤ 3) {o x y : ByteArray} (ho : isEl (grp k).q.m (grp k).size o = true) {c : ClaimB} (hc : c.x = (textS 2 (grp k).size, o, textS (lowN (grp k) (2 ^ numOf x)) (grp k).size, textS (lowN (grp k) (numOf o ^ numOf y)) (grp k).size)) :
  shapeE [c.a] = 0 ∧ [c.a].all (cElems (grp k)) = true := by
 refine ⟨shape_two (by simp) (by simp) fun d hd => by obtain rfl := List.mem_singleton.1 hd; exact ⟨rfl, rfl⟩, ?_⟩
 unfold ClaimB.x at hc
 simp only [Prod.mk.injEq] at hc
 obtain ⟨e1, e2, e3, e4⟩ := hc
 have hpp := grp_prime_p k h1 h3
 have ok := grp_ok k h1 h3
 have bd := isEl_bd ok ho
 have m1 := T_isEl h1 h3 (pow2_nd ok hpp (numOf x))
 have m2 := T_isEl h1 h3 (hpp.not_dvd_pow (not_dvd_small bd.1 bd.2) (numOf y))
 unfold cElems ClaimB.a
 simp only [List.all_cons, List.all_nil, Bool.and_true, e1, e2, e3, e4, (grp2 h1 h3).1, ho, m1, m2]
theorem once_two {k : Nat} (h1 : 1 ≤ k) (h3 : k ≤ 3) {o x y : ByteArray} (ho : isEl (grp k).q.m (grp k).size o = true) (ho1 : o ≠ textS 1 (grp k).size) (hx : isSc (grp k).q.m (grp k).size x = true) (hy : isSc (grp k).q.m (grp k).size y = true) (hne : x ≠ y)
  {c : ClaimB} (hc : c.x = (textS 2 (grp k).size, o, textS (lowN (grp k) (2 ^ numOf x)) (grp k).size, textS (lowN (grp k) (numOf o ^ numOf y)) (grp k).size)) {p q : PrfA} (e1 : backE (k : Int) [c.a] p.c p.l = 0) (e2 : backE (k : Int) [c.a] q.c q.l = 0) (hd : p.c ≠ q.c) :
  backK (k : Int) [c.a] p.c p.l ≠ backK (k : Int) [c.a] q.c q.l := by
 intro he
 have h9 := (sound_any e1 e2 he hd).2.2
 rw [once_plain h1 h3 ho ho1 hx hy hne hc] at h9
 cases h9
end Go.Proofs.Ytipgjookfdkciaa
namespace Go.Proofs.Ytipgjookfdkciaa
open Go.RowKit
end Go.Proofs.Ytipgjookfdkciaa
namespace Go.Proofs.Ytipgjookfdkciaa
open Go.ChangeShapes Go.WideShapes Go.ChangeAt Go.RowKit
theorem flat_range (g : Nat → Value) (k len : Nat) : ((List.range len).map fun i => (List.range k).map fun j => g (i * k + j)).flatten = (List.range (len * k)).map g := by
 induction len with
 | zero => simp
 | succ m ih =>
  rw [List.range_succ, List.map_append, List.flatten_append, ih, Nat.succ_mul, List.range_add, List.map_append]
  simp [List.map_map, Function.comp_def]
section
variable {H : Type} {enc : TypeId × Value → H} {P : Program} {w : World}
theorem list_shapes {α : Type} (f : α → List Value) (R : α → Prop) : ∀ css : List (List Value), (∀ l ∈ css, ∃ x, l = f x ∧ R x) → ∃ xs : List α, xs.length = css.length ∧ css.flatten = xs.flatMap f ∧ ∀ x ∈ xs, R x
 | [], _ => ⟨[], rfl, rfl, by simp⟩
 | l :: css, h => by
  obtain ⟨x, rfl, hR⟩ := h l (by simp)
  obtain ⟨xs, h1, h2, h3⟩ := list_shapes f R css (fun c hc => h c (by simp [hc]))
  refine ⟨x :: xs, by simp [h1], by simp [h2], ?_⟩
  intro y hy
  rcases List.mem_cons.1 hy with rfl | hy
  ·exact hR
  ·exact h3 y hy
theorem list2 {cs : List Value} (h : cs.length = 2) : ∃ a b, cs = [a, b] := by
 match cs, h with
 | [a, b], _ => exact ⟨a, b, rfl⟩
theorem open_str {sp : Nat → Bool} {held : Bool} {t : TypeId} {fuel : Nat} {c : Value} {y : DataW H × List MemPlace} (ht : P.underlying t = some .string) (h : DataW.trod enc P w 0 sp held fuel t [c] = some y) : ∃ s : ByteArray, c = .string s := by
 obtain ⟨s, hs, _⟩ := DataW.trod_string ht h
 simp only [List.cons.injEq, and_true] at hs
 exact ⟨s, hs⟩
end
end Go.Proofs.Ytipgjookfdkciaa
namespace Go.Proofs.Ytipgjookfdkciaa
open Go.ChangeShapes Go.WideShapes Go.ChangeAt Go.RowKit
def Wt {H : Type} (P : Program) (t : TypeId) (d : DataW H) : Prop := ∀ n ∈ DataW.weights P t d, n ≤ reachBytes
theorem weightsAll_mem {H : Type} {P : Program} {e : TypeId} : ∀ {l : List (DataW H)} {d : DataW H}, d ∈ l → ∀ n ∈ DataW.weights P e d, n ∈ DataW.weightsAll P e l
 | x :: l, d, hd, n, hn => by
  simp only [DataW.weightsAll, List.mem_append]
  rcases List.mem_cons.1 hd with rfl | h
  ·exact Or.inl hn
  ·exact Or.inr (weightsAll_mem h n hn)
theorem Wt.slice {H : Type} {P : Program} {t e : TypeId} {elems spare : List (DataW H)} (ht : P.underlying t = some (.slice e)) (h : Wt P t (.slice elems spare)) : elems.length * P.bytesOf e ≤ reachBytes ∧ ∀ d ∈ elems, Wt P e d := by
 unfold Wt at h
 simp only [DataW.weights, ht, List.mem_cons, List.mem_append] at h
 refine ⟨Nat.le_trans (Nat.mul_le_mul_right _ (Nat.le_add_right _ _)) (h _ (Or.inl rfl)), fun d hd n hn => h n (Or.inr (Or.inl (weightsAll_mem hd n hn)))⟩
theorem Wt.agg {H : Type} {P : Program} {t : TypeId} {fs : Array Go.Field} {parts : List (DataW H)} (ht : P.underlying t = some (.struct fs)) (h : Wt P t (.agg parts)) : ∀ (j : Nat) (f : Go.Field) (d : DataW H), fs[j]? = some f → parts[j]? = some d → Wt P f.type d := by
 intro j f d hj hd n hn
 unfold Wt at h
 simp only [DataW.weights, ht] at h
 exact h n (DataW.weights_mem_each (ts := fs.toList.map (·.type)) (by rw [List.getElem?_map, Array.getElem?_toList, hj]; rfl) hd n hn)
theorem Wt.arg {H : Type} {P : Program} {ts : List TypeId} {ds : List (DataW H)} (h : (DataW.weightsEach P ts ds).all (· ≤ reachBytes) = true) {j : Nat} {t : TypeId} {d : DataW H} (ht : ts[j]? = some t) (hd : ds[j]? = some d) : Wt P t d :=
 fun n hn => of_decide_eq_true (List.all_eq_true.1 h _ (DataW.weights_mem_each ht hd n hn))
section
variable {H : Type} {enc : TypeId × Value → H} {P : Program} {w : World}
theorem open_flatW {sp : Nat → Bool} {held : Bool} {t e : TypeId} {k fuel : Nat} {c : Value} {y : DataW H × List MemPlace} (ht : P.underlying t = some (.slice e)) (hk : P.cellsOf e = k) (hk0 : 0 < k) (hW : Wt P t y.1)
  (h : DataW.trod enc P w 0 sp held fuel t [c] = some y) :
  ∃ (a : Option Addr) (cap : Nat) (css : List (List Value)), c = .slice a css.length cap ∧ css.length * P.bytesOf e ≤ reachBytes ∧ (a = none → cap = 0) ∧ (∀ l ∈ css, l.length = k) ∧ Sl w w.heap.size a css.flatten ∧
   ∀ l ∈ css, ∃ n y', Wt P e y'.1 ∧ DataW.trod enc P w 0 sp held n e l = some y' := by
 have hlt := DataW.trod_lt _ _ _ _ h
 rcases DataW.trod_slice ht h with ⟨hcs, _⟩ | ⟨x, len, cap, elems, rest, n, _, hcs, hx, hb, hl, hm, hlen, hel, _, _⟩
 ·simp only [List.cons.injEq, and_true] at hcs
  exact ⟨none, 0, [], hcs, by simp, fun _ => rfl, by simp, Or.inl rfl, by simp⟩
 simp only [List.cons.injEq, and_true] at hcs
 subst hcs
 by_cases h0 : len = 0
 ·subst h0
  exact ⟨some x, cap, [], rfl, by simp, by simp, by simp, Or.inl rfl, by simp⟩
 have hbk := Wt.slice (elems := elems.map (·.1)) (spare := rest.map (·.1)) ht (by rw [hx] at hW; exact hW)
 have each : ∀ i, i < len → ∃ l y', w.cells? 0 (x.add (i * k)) k = some l ∧ Wt P e y'.1 ∧ DataW.trod enc P w 0 sp held n e l = some y' := by
  intro i hi
  have h1 := hel i hi
  rw [hk, show elems[i]? = some (elems[i]'(by omega)) from List.getElem?_eq_getElem (by omega), Option.bind_eq_some_iff] at h1
  obtain ⟨l, hl, hy⟩ := h1
  exact ⟨l, _, hl, hbk.2 _ (List.mem_map.2 ⟨_, List.getElem_mem _, rfl⟩), hy⟩
 obtain ⟨b, off, spot⟩ := x
 have hspot : spot = none := by
  obtain ⟨l, _, h1, _⟩ := each 0 (by omega)
  obtain ⟨_, h2, h3⟩ := World.cells?_some h1
  have h4 := h3 0 hk0
  obtain ⟨v, hv⟩ : ∃ v, l[0]? = some v := ⟨_, List.getElem?_eq_getElem (by omega)⟩
  rw [hv, Deep.add_add, Nat.zero_mul, Nat.zero_add] at h4
  simpa [Addr.add] using World.cell?_spot h4
 subst hspot
 have hbW : b < w.heap.size := hlt (.cell b off) (by
  rw [hx]
  exact List.mem_append_left _ (MemPlace.mem_row.2 ⟨0, by rw [hk]; have : 0 < (elems.length + rest.length) * k := Nat.mul_pos (by omega) hk0; omega, by simp⟩))
 have hL : ∀ i, i < len → ((List.range k).map fun j => (w.cell? ⟨b, off + (i * k + j), none⟩).getD (.bool false)).length = k ∧
   (∀ j, j < k → w.cell? ⟨b, off + (i * k + j), none⟩ = some ((w.cell? ⟨b, off + (i * k + j), none⟩).getD (.bool false))) ∧
   ∃ y', Wt P e y'.1 ∧ DataW.trod enc P w 0 sp held n e ((List.range k).map fun j => (w.cell? ⟨b, off + (i * k + j), none⟩).getD (.bool false)) = some y' := by
  intro i hi
  obtain ⟨l, y', h1, h2b, h2⟩ := each i hi
  obtain ⟨_, h3, h4⟩ := World.cells?_some h1
  have h5 : ∀ j, j < k → w.cell? ⟨b, off + (i * k + j), none⟩ = l[j]? := by
   intro j hj
   have := h4 j hj
   rwa [Deep.add_add, add_plain] at this
  have e1 : (List.range k).map (fun j => (w.cell? ⟨b, off + (i * k + j), none⟩).getD (.bool false)) = l := by
   apply List.ext_getElem?
   intro j
   by_cases hj : j < k
   ·rw [List.getElem?_map, List.getElem?_range hj, Option.map_some, h5 j hj, List.getElem?_eq_getElem (show j < l.length by omega), Option.getD_some]
   ·rw [List.getElem?_eq_none (by simp; omega), List.getElem?_eq_none (by omega)]
  refine ⟨by simp, ?_, ?_⟩
  ·intro j hj
   rw [h5 j hj, List.getElem?_eq_getElem (show j < l.length by omega), Option.getD_some]
  ·rw [e1]; exact ⟨y', h2b, h2⟩
 refine ⟨some ⟨b, off, none⟩, cap, (List.range len).map fun i => (List.range k).map fun j => (w.cell? ⟨b, off + (i * k + j), none⟩).getD (.bool false), by simp, ?_, by simp, ?_, Or.inr ⟨b, off, rfl, hbW, ?_⟩, ?_⟩
 ·have := hbk.1; rw [List.length_map, hlen] at this; simpa using this
 ·intro l hl
  obtain ⟨i, _, rfl⟩ := List.mem_map.1 hl
  simp
 ·have hflat := flat_range (fun m => (w.cell? ⟨b, off + m, none⟩).getD (.bool false)) k len
  intro i v hv
  rw [hflat] at hv
  have hi : i < len * k := by have := (List.getElem?_eq_some_iff.1 hv).1; simpa using this
  have hq : i / k < len := Nat.div_lt_of_lt_mul (by rwa [Nat.mul_comm] at hi)
  have hc := (hL (i / k) hq).2.1 (i % k) (Nat.mod_lt _ hk0)
  rw [show i / k * k + i % k = i by rw [Nat.mul_comm]; exact Nat.div_add_mod i k] at hc
  rw [hc, ← hv, List.getElem?_map, List.getElem?_range hi, Option.map_some]
 ·intro l hl
  obtain ⟨i, hi, rfl⟩ := List.mem_map.1 hl
  obtain ⟨y', hyb, hy⟩ := (hL i (List.mem_range.1 hi)).2.2
  exact ⟨n, y', hyb, hy⟩
theorem open_elsW {α : Type} (f : α → List Value) (R : α → Prop) {sp : Nat → Bool} {held : Bool} {t e : TypeId} {k fuel : Nat} {c : Value} {y : DataW H × List MemPlace} (ht : P.underlying t = some (.slice e)) (hk : P.cellsOf e = k) (hk0 : 0 < k) (hW : Wt P t y.1)
  (hel : ∀ n l y', l.length = k → Wt P e y'.1 → DataW.trod enc P w 0 sp held n e l = some y' → ∃ x, l = f x ∧ R x) (h : DataW.trod enc P w 0 sp held fuel t [c] = some y) :
  ∃ (a : Option Addr) (cap : Nat) (xs : List α), c = .slice a xs.length cap ∧ xs.length * P.bytesOf e ≤ reachBytes ∧ (a = none → cap = 0) ∧ Sl w w.heap.size a (xs.flatMap f) ∧ ∀ x ∈ xs, R x := by
 obtain ⟨a, cap, css, rfl, hlB, hno, hl, hs, he⟩ := open_flatW ht hk hk0 hW h
 obtain ⟨xs, h1, h2, h3⟩ := list_shapes f R css (fun l hm => by
  obtain ⟨n, y', hyb, hy⟩ := he l hm
  exact hel n l y' (hl l hm) hyb hy)
 exact ⟨a, cap, xs, by rw [h1], by rw [h1]; exact hlB, hno, h2 ▸ hs, h3⟩
theorem open_cellsW {sp : Nat → Bool} {held : Bool} {t : TypeId} {fs : Array Go.Field} {fuel : Nat} {cs : List Value} {y : DataW H × List MemPlace} (hs : P.underlying t = some (.struct fs)) (hone : Go.Deep.oneCellFields P fs = true) (hC : P.cellsOf t = fs.size) (hW : Wt P t y.1)
  (h : DataW.trod enc P w 0 sp held fuel t cs = some y) :
  cs.length = fs.size ∧ ∀ (j : Nat) (f : Go.Field) (c : Value), fs[j]? = some f → cs[j]? = some c → ∃ n y', Wt P f.type y'.1 ∧ DataW.trod enc P w 0 sp held n f.type [c] = some y' := by
 obtain ⟨ys, n, _, hy, hcl, hlen, hg⟩ := DataW.trod_struct hs h
 have hbk := Wt.agg (parts := ys.map (·.1)) hs (by rw [hy] at hW; exact hW)
 refine ⟨by omega, fun j f c hj hc => ?_⟩
 obtain ⟨ho, hk⟩ := Go.Deep.hone_of hone j f hj
 have hjf : j < fs.size := (Array.getElem?_eq_some_iff.1 hj).1
 have h1 := hg j f hj
 have hjc := (List.getElem?_eq_some_iff.1 hc).1
 rw [ho, hk, List.drop_eq_getElem_cons hjc, List.take_succ_cons, List.take_zero, (List.getElem?_eq_some_iff.1 hc).2, List.getElem?_eq_getElem (show j < ys.length by omega)] at h1
 exact ⟨n, _, hbk j f _ hj (by rw [List.getElem?_map, List.getElem?_eq_getElem (show j < ys.length by omega)]; rfl), h1⟩
theorem open_strsW {sp : Nat → Bool} {held : Bool} {t e : TypeId} {fuel : Nat} {c : Value} {y : DataW H × List MemPlace} (ht : P.underlying t = some (.slice e)) (he : P.underlying e = some .string) (hk : P.cellsOf e = 1) (hW : Wt P t y.1) (h : DataW.trod enc P w 0 sp held fuel t [c] = some y) :
  ∃ (a : Option Addr) (cap : Nat) (bs : List ByteArray), c = .slice a bs.length cap ∧ bs.length * P.bytesOf e ≤ reachBytes ∧ (a = none → cap = 0) ∧ Sl w w.heap.size a (bs.map Value.string) := by
 obtain ⟨a, cap, xs, h1, hb, hno, h2, _⟩ := open_elsW (fun s : ByteArray => [Value.string s]) (fun _ => True) ht hk (by omega) hW (fun n l y' hl _ hy => by
  match l, hl with
  | [c'], _ =>
   obtain ⟨s, rfl⟩ := open_str he hy
   exact ⟨s, rfl, trivial⟩) h
 refine ⟨a, cap, xs, h1, hb, hno, ?_⟩
 rw [← List.flatMap_singleton' (xs.map Value.string), List.flatMap_map]
 exact h2
end
end Go.Proofs.Ytipgjookfdkciaa
namespace Go.Proofs.Ytipgjookfdkciaa
open Go.ChangeShapes Go.WideShapes Go.ChangeAt Go.RowKit
theorem proof_cells : Try.prog.cellsOf 24 = 2 := by kernel_rfl
theorem str_cells : Try.prog.cellsOf 9 = 1 := by kernel_rfl
theorem str_bytes : Try.prog.bytesOf 9 = 16 := by kernel_rfl
theorem reach16 {n : Nat} (h : n * 16 ≤ reachBytes) : n ≤ 8796093022206 := by unfold reachBytes at h; omega
end Go.Proofs.Ytipgjookfdkciaa
namespace Go.Proofs.Ytipgjookfdkciaa
open Go.ChangeShapes Go.WideShapes Go.ChangeAt Go.RowKit
section
variable {H : Type} {enc : TypeId × Value → H} {w : World}
theorem open_prf {sp : Nat → Bool} {held : Bool} (fuel : Nat) (cs : List Value) (y : DataW H × List MemPlace) (hW : Wt Try.prog 24 y.1) (h : DataW.trod enc Try.prog w 0 sp held fuel 24 cs = some y) :
  ∃ p : PrfA, cs = p.cells ∧ p.At w ∧ p.l.length ≤ 8796093022206 := by
 obtain ⟨h1, h2⟩ := open_cellsW Try.underlying24 (by kernel_rfl) proof_cells hW h
 obtain ⟨a, b, rfl⟩ := list2 h1
 obtain ⟨_, _, _, ha⟩ := h2 0 _ _ rfl rfl
 obtain ⟨_, _, hw, hb⟩ := h2 1 _ _ rfl rfl
 obtain ⟨s, rfl⟩ := open_str Try.underlying9 ha
 obtain ⟨al, cap, l, rfl, hn, hno, hs⟩ := open_strsW Try.underlying22 Try.underlying9 str_cells hw hb
 rw [str_bytes] at hn
 exact ⟨⟨s, al, cap, l⟩, rfl, ⟨hs, hno⟩, reach16 hn⟩
end
theorem agg_of {cs : Array Value} {l : List Value} (h : cs.toList = l) : Value.agg cs = .agg l.toArray := by rw [← h]
section
variable {H : Type} {enc : TypeId × Value → H} {w : World}
end
end Go.Proofs.Ytipgjookfdkciaa
namespace Go.Proofs.Ytipgjookfdkciaa
open Go.RowKit
section
variable {G : GP} {aq ap : Option Addr} {cq cp : Nat}
end
theorem toList_ne {a b : ByteArray} (h : ¬ a = b) : ¬ a.toList = b.toList := fun e => h (by
 have h9 : (a == b) = true := by rw [beq_toListBytes]; exact beq_iff_eq.2 e
 obtain ⟨x⟩ := a
 obtain ⟨y⟩ := b
 have h10 : (x == y) = true := h9
 rw [eq_of_beq h10])
theorem toList_bne {a b : ByteArray} (h : ¬ a = b) : (a.toList == b.toList) = false := beq_eq_false_iff_ne.2 (toList_ne h)
section
variable {G : GP} {aq ap : Option Addr} {cq cp : Nat}
end
end Go.Proofs.Ytipgjookfdkciaa
namespace Go.Proofs.Ytipgjookfdkciaa
open Go.RowKit
theorem take_eq_snoc {l m : List ByteArray} {j : Nat} (hl : j < l.length) (hm : j < m.length) (h : l.take j = m.take j) (h1 : l[j] = m[j]) : l.take (j + 1) = m.take (j + 1) := by
 rw [List.take_succ_eq_append_getElem hl, List.take_succ_eq_append_getElem hm, h, h1]
theorem same5_any (l m : List ByteArray) (al am : Option Addr) (cl cm : Nat) (hl : l.length ≤ 8796093022207) (b : Bool) (hb : decide (l = m) = b) (w : World) (hL : Sl w w.heap.size al (l.map Value.string)) (hM : Sl w w.heap.size am (m.map Value.string)) :
  Calls Try.prog 17 #[.slice al l.length cl, .slice am m.length cm] w (Gives (.bool b) w) := by
 have HL := Lib.hid hL
 have HM := Lib.hid hM
 have HBB := Lib.hid hb
 clear hL hM hb
 unfold Gives
 by_cases h1 : l.length = m.length
 ·have hd : ((l.length : Int) != (m.length : Int)) = false := by rw [bne_eq_false_iff_eq]; omega
  obtain ⟨n, hn⟩ : ∃ n, l.length = n := ⟨_, rfl⟩
  have hm : m.length = n := by omega
  have HNL := Lib.hid hn
  have HNM := Lib.hid hm
  rw [hn] at hd hl ⊢
  rw [hm] at hd ⊢
  clear h1 hn hm
  go_enter Try.func17, Try.ntmps17
  go_wp2_with fail
  go_loopw [13] (fun i wr => ∃ j : Nat, j ≤ n ∧ i = .int .i64 j ∧ Hid (Below w.heap.size w wr) ∧ Hid (l.take j = m.take j)) (fun i _ => n - (intOf i).toNat)
  case atStart => exact ⟨0, Nat.zero_le _, rfl, Below.refl _ _, rfl⟩
  case round =>
   obtain ⟨j, hj, rfl, HB, HT⟩ := hrel
   by_cases hjn : j < n
   ·skip
    have hjl : j < l.length := by rw [HNL.out]; exact hjn
    have hjm : j < m.length := by rw [HNM.out]; exact hjn
    obtain ⟨b1, o1, rfl, hb10, hb1, hc1⟩ := HL.out.atUp HB.out j (by simpa using hjl)
    obtain ⟨b2, o2, rfl, hb20, hb2, hc2⟩ := HM.out.atUp HB.out j (by simpa using hjm)
    rw [List.getElem_map] at hc1 hc2
    have HTS := Lib.hid (take_eq_snoc hjl hjm HT.out)
    have HNE := Lib.hid (fun (h : ¬ l[j] = m[j]) => (show ¬ l = m from fun e => h (by subst e; rfl)))
    generalize l[j] = x at *
    generalize m[j] = y at *
    by_cases hxy : x = y
    ·have HF := Lib.hid (HTS.out hxy)
     subst hxy
     go_wp2_with fail
     refine wp_region_over (by kernel_rfl) (by kernel_rfl) ?_
     have hov_b1 := fun (E : Over wr) o => E.cell (b := b1) o hb1
     have hov_b2 := fun (E : Over wr) o => E.cell (b := b2) o hb2
     repeat (go_big_quiet_step (first | fail))
     all_goals (try unfold elV limbV)
     repeat (go_big_quiet_step (first | fail))
     all_goals (try unfold elV limbV)
     repeat (go_big_quiet_step (first | fail))
     all_goals (try unfold ciphV)
     refine wpQuiet_nil ?_
     rintro _ ⟨E, rfl⟩
     clear hov_b1 hov_b2
     replace HB := hbu HB E.h
     have HZS := Lib.hid E.h.size
     obtain ⟨w1, hq9⟩ : ∃ W9 : World, E.w = W9 := ⟨_, rfl⟩
     rw [hq9] at HB HZS ⊢
     clear hq9 E
     go_wp2_with fail
     go_roundw
     case rel => exact ⟨j + 1, by omega, by go_num, HB, HF⟩
     case measure => simp [intOf]; omega
    ·obtain rfl : b = false := by rw [← HBB.out]; exact decide_eq_false (HNE.out hxy)
     have hcd := toList_bne hxy
     clear hxy
     go_wp2_with fail
     refine wp_region_over (by kernel_rfl) (by kernel_rfl) ?_
     have hov_b1 := fun (E : Over wr) o => E.cell (b := b1) o hb1
     have hov_b2 := fun (E : Over wr) o => E.cell (b := b2) o hb2
     repeat (go_big_quiet_step (first | fail))
     all_goals (try unfold elV limbV)
     repeat (go_big_quiet_step (first | fail))
     all_goals (try unfold elV limbV)
     repeat (go_big_quiet_step (first | fail))
     all_goals (try unfold ciphV)
     refine wpQuiet_nil ?_
     rintro _ ⟨E, rfl⟩
     clear hov_b1 hov_b2
     replace HB := hbu HB E.h
     have HZS := Lib.hid E.h.size
     obtain ⟨w1, hq9⟩ : ∃ W9 : World, E.w = W9 := ⟨_, rfl⟩
     rw [hq9] at HB HZS ⊢
     clear hq9 E
     go_wp2_with fail
     go_ret
     exact ⟨rfl, HB.out⟩
   ·have hjn' : j = n := by omega
    subst hjn'
    obtain rfl : b = true := by
     rw [← HBB.out]
     refine decide_eq_true ?_
     have h9 := HT.out
     rwa [List.take_of_length_le (by rw [HNL.out]; exact Nat.le_refl _), List.take_of_length_le (by rw [HNM.out]; exact Nat.le_refl _)] at h9
    go_wp2_with fail
    go_ret
    exact ⟨rfl, HB.out⟩
 ·have hd : ((l.length : Int) != (m.length : Int)) = true := by rw [bne_iff_ne]; omega
  obtain rfl : b = false := by rw [← HBB.out]; exact decide_eq_false (fun e => h1 (by rw [e]))
  clear h1
  go_enter Try.func17, Try.ntmps17
  go_wp2_with fail
  go_ret
  exact ⟨rfl, Below.refl _ _⟩
end Go.Proofs.Ytipgjookfdkciaa
namespace Go.Proofs.Ytipgjookfdkciaa
open Go.RowKit
theorem take_rows {L M : List (List ByteArray)} {j : Nat} (hl : j < L.length) (hm : j < M.length) (h : L.take j = M.take j) (h1 : L[j] = M[j]) : L.take (j + 1) = M.take (j + 1) := by
 rw [List.take_succ_eq_append_getElem hl, List.take_succ_eq_append_getElem hm, h, h1]
theorem sameLists5_any (L M : List (List ByteArray)) (n m : Nat) (hL : L.length = n) (hM : M.length = m) (hn : n ≤ 8796093022206) (hr : ∀ r ∈ L, r.length ≤ 8796093022206) (ro so : List RowA) (h1 : ro.map RowA.l = L) (h2 : so.map RowA.l = M) (b : Bool) (hb : decide (L = M) = b) (a1 a2 : Option Addr) (c1 c2 : Nat) (w : World) (hR : RowsAt w a1 ro) (hS : RowsAt w a2 so) :
  Calls Try.prog 48 #[.slice a1 n c1, .slice a2 m c2] w (Gives (.bool b) w) := by
 have hn1 : ro.length = n := by rw [← hL, ← h1, List.length_map]
 have hn2 : so.length = m := by rw [← hM, ← h2, List.length_map]
 have HN1 := Lib.hid hn1
 have HN2 := Lib.hid hn2
 have HLL := Lib.hid hL
 have HLM := Lib.hid hM
 have HBB := Lib.hid hb
 have HE := Lib.hid (fun i (g1 : i < ro.length) (g2 : i < L.length) => (show L[i] = ro[i].l by subst h1; simp))
 have HF := Lib.hid (fun i (g1 : i < so.length) (g2 : i < M.length) => (show M[i] = so[i].l by subst h2; simp))
 have HLE := Lib.hid (fun i (g1 : i < ro.length) => (show ro[i].l.length ≤ 8796093022207 by
  have := hr ro[i].l (by rw [← h1]; exact List.mem_map.2 ⟨_, List.getElem_mem g1, rfl⟩)
  omega))
 have HR := Lib.hid hR
 have HS := Lib.hid hS
 clear hn1 hn2 h1 h2 hr hR hS hL hM hb
 unfold Gives
 by_cases hnm : n = m
 ·subst hnm
  have hd : ((n : Int) != (n : Int)) = false := by simp
  go_enter Try.func48, Try.ntmps48
  go_wp2_with fail
  go_loopw [13] (fun i wr => ∃ j : Nat, j ≤ n ∧ i = .int .i64 j ∧ Hid (Below w.heap.size w wr) ∧ Hid (L.take j = M.take j)) (fun i _ => n - (intOf i).toNat)
  case atStart => exact ⟨0, Nat.zero_le _, rfl, Below.refl _ _, rfl⟩
  case round =>
   obtain ⟨j, hj, rfl, HB, HT⟩ := hrel
   by_cases hjn : j < n
   ·skip
    have g1 : j < ro.length := by rw [HN1.out]; exact hjn
    have g2 : j < so.length := by rw [HN2.out]; exact hjn
    have g3 : j < L.length := by rw [HLL.out]; exact hjn
    have g4 : j < M.length := by rw [HLM.out]; exact hjn
    obtain ⟨b1, o1, rfl, hb10, hb1, hc1⟩ := HR.out.cell HB.out j g1
    obtain ⟨b2, o2, rfl, hb20, hb2, hc2⟩ := HS.out.cell HB.out j g2
    have HP := Lib.hid (show Sl wr wr.heap.size ro[j].a (ro[j].l.map Value.string) from (HR.out.up HB.out).one j g1)
    have HQ := Lib.hid (show Sl wr wr.heap.size so[j].a (so[j].l.map Value.string) from (HS.out.up HB.out).one j g2)
    have HYE := Lib.hid (fun (e : ro[j].l = so[j].l) => take_rows g3 g4 HT.out ((HE.out j g1 g3).trans (e.trans (HF.out j g2 g4).symm)))
    have HNE := Lib.hid (fun (e : ¬ ro[j].l = so[j].l) => (show ¬ L = M from fun e' => e ((HE.out j g1 g3).symm.trans (Eq.trans (by subst e'; rfl) (HF.out j g2 g4)))))
    have HLJ := Lib.hid (HLE.out j g1)
    generalize ro[j] = r at *
    generalize so[j] = s at *
    obtain ⟨bj, hbj⟩ : ∃ x, decide (r.l = s.l) = x := ⟨_, rfl⟩
    have HBJ := Lib.hid hbj
    cases bj
    ·obtain rfl : b = false := by rw [← HBB.out]; exact decide_eq_false (HNE.out (of_decide_eq_false hbj))
     clear hbj
     go_wp2_with fail
     refine wp_region_over (by kernel_rfl) (by kernel_rfl) ?_
     have hov_b1 := fun (E : Over wr) o => E.cell (b := b1) o hb1
     have hov_b2 := fun (E : Over wr) o => E.cell (b := b2) o hb2
     repeat (go_big_quiet_step (first | (go_at_call 17; exact calls_over (same5_any r.l s.l r.a s.a r.c s.c HLJ.out false HBJ.out _ (HP.out.up (Over.h _)) (HQ.out.up (Over.h _))))))
     all_goals (try unfold elV limbV)
     repeat (go_big_quiet_step (first | (go_at_call 17; exact calls_over (same5_any r.l s.l r.a s.a r.c s.c HLJ.out false HBJ.out _ (HP.out.up (Over.h _)) (HQ.out.up (Over.h _))))))
     all_goals (try unfold elV limbV)
     repeat (go_big_quiet_step (first | (go_at_call 17; exact calls_over (same5_any r.l s.l r.a s.a r.c s.c HLJ.out false HBJ.out _ (HP.out.up (Over.h _)) (HQ.out.up (Over.h _))))))
     all_goals (try unfold ciphV)
     refine wpQuiet_nil ?_
     rintro _ ⟨E, rfl⟩
     clear hov_b1 hov_b2
     replace HB := hbu HB E.h
     have HZS := Lib.hid E.h.size
     obtain ⟨w1, hq9⟩ : ∃ W9 : World, E.w = W9 := ⟨_, rfl⟩
     rw [hq9] at HB HZS ⊢
     clear hq9 E
     go_wp2_with fail
     go_ret
     exact ⟨rfl, HB.out⟩
    ·have HTS := Lib.hid (HYE.out (of_decide_eq_true hbj))
     clear hbj
     go_wp2_with fail
     refine wp_region_over (by kernel_rfl) (by kernel_rfl) ?_
     have hov_b1 := fun (E : Over wr) o => E.cell (b := b1) o hb1
     have hov_b2 := fun (E : Over wr) o => E.cell (b := b2) o hb2
     repeat (go_big_quiet_step (first | (go_at_call 17; exact calls_over (same5_any r.l s.l r.a s.a r.c s.c HLJ.out true HBJ.out _ (HP.out.up (Over.h _)) (HQ.out.up (Over.h _))))))
     all_goals (try unfold elV limbV)
     repeat (go_big_quiet_step (first | (go_at_call 17; exact calls_over (same5_any r.l s.l r.a s.a r.c s.c HLJ.out true HBJ.out _ (HP.out.up (Over.h _)) (HQ.out.up (Over.h _))))))
     all_goals (try unfold elV limbV)
     repeat (go_big_quiet_step (first | (go_at_call 17; exact calls_over (same5_any r.l s.l r.a s.a r.c s.c HLJ.out true HBJ.out _ (HP.out.up (Over.h _)) (HQ.out.up (Over.h _))))))
     all_goals (try unfold ciphV)
     refine wpQuiet_nil ?_
     rintro _ ⟨E, rfl⟩
     clear hov_b1 hov_b2
     replace HB := hbu HB E.h
     have HZS := Lib.hid E.h.size
     obtain ⟨w1, hq9⟩ : ∃ W9 : World, E.w = W9 := ⟨_, rfl⟩
     rw [hq9] at HB HZS ⊢
     clear hq9 E
     go_wp2_with fail
     go_roundw
     case rel => exact ⟨j + 1, by omega, by go_num, HB, HTS⟩
     case measure => simp [intOf]; omega
   ·have hjn' : j = n := by omega
    subst hjn'
    obtain rfl : b = true := by
     rw [← HBB.out]
     refine decide_eq_true ?_
     have h9 := HT.out
     rwa [List.take_of_length_le (by rw [HLL.out]; exact Nat.le_refl _), List.take_of_length_le (by rw [HLM.out]; exact Nat.le_refl _)] at h9
    go_wp2_with fail
    go_ret
    exact ⟨rfl, HB.out⟩
 ·have hd : ((n : Int) != (m : Int)) = true := by rw [bne_iff_ne]; omega
  obtain rfl : b = false := by rw [← HBB.out]; exact decide_eq_false (fun e => hnm (by rw [← HLL.out, ← HLM.out, e]))
  clear hnm
  go_enter Try.func48, Try.ntmps48
  go_wp2_with fail
  go_ret
  exact ⟨rfl, Below.refl _ _⟩
end Go.Proofs.Ytipgjookfdkciaa
namespace Go.Proofs.Ytipgjookfdkciaa
open Go.RowKit
theorem alive5 (w : World) : Calls Try.prog 52 #[] w fun e w' => e = .returned (.bool true) ∧ Below w.heap.size w w' := by
 have h := fun w => Scalar_some 1 (by decide) (by decide) ⟨#[0, 5]⟩ w
 rw [show isSc (grp 1).q.m (grp 1).size ⟨#[0, 5]⟩ = true by decide +kernel] at h
 have HS := Lib.hid h
 clear h
 go_enter Try.func52, Try.ntmps52
 go_wp2_with fail
 refine (HS.out w).mono ?_
 rintro e w1 ⟨rfl, hb9⟩
 have HB := Lib.hid hb9
 have HZS := Lib.hid hb9.size
 clear hb9
 go_wp2_with fail
 go_ret
 exact ⟨rfl, HB.out⟩
theorem grp_size_pos5 (k : Nat) (h1 : 1 ≤ k) (h3 : k ≤ 3) : 0 < (grp k).size := by
 obtain rfl | rfl | rfl : k = 1 ∨ k = 2 ∨ k = 3 := by omega
 all_goals decide
end Go.Proofs.Ytipgjookfdkciaa
namespace Go.Proofs.Ytipgjookfdkciaa
open Go.ChangeShapes Go.WideShapes Go.ChangeAt Go.RowKit
theorem one_facts {k : Nat} (h1 : 1 ≤ k) (h3 : k ≤ 3) : isSc (grp k).q.m (grp k).size (textS 0 (grp k).size) = true ∧ numOf (textS 0 (grp k).size) = 0 ∧ lowN (grp k) 1 = 1 ∧ modI (grp k).q.m 0 = 0 := by
 have ok := grp_ok k h1 h3
 have := ok.odd
 refine ⟨T_sc ok (grp_fits k h1 h3) ok.q.pos, T_num ok (Nat.zero_le _) (grp_fits k h1 h3), lowN_fix ok (by omega), ?_⟩
 unfold modI
 simp
theorem one_pow {k : Nat} (h1 : 1 ≤ k) (h3 : k ≤ 3) {o : ByteArray} (ho : isEl (grp k).q.m (grp k).size o = true) (w : World) :
  Calls Try.prog 37 #[.int .i64 (k : Int), .string o, .string (textS 0 (grp k).size)] w (Ans (.string (textS 1 (grp k).size)) 0 w) := by
 obtain ⟨f1, f2, f3, _⟩ := one_facts h1 h3
 have h := Power_some k h1 h3 o (textS 0 (grp k).size) w
 rwa [(powA ho f1).1, (powA ho f1).2, f2, Nat.pow_zero, f3] at h
section
variable (pa qa : Option Addr) (pc qc : ByteArray) (n1 n2 pp qp : Nat)
theorem once_none (k : Int) (hk : ¬ (1 ≤ k ∧ k ≤ 3)) (o x y : ByteArray) (w : World) :
  Calls Try.prog 11 #[.int .i64 k, .string o, .string x, .string y, .agg #[.string pc, .slice pa n1 pp], .agg #[.string qc, .slice qa n2 qp]] w fun e w' => e = .returned (.bool true) ∧ Below w.heap.size w w' := by
 have HN := Lib.hid (fun w => Number_none k hk 0 w)
 have HP := Lib.hid (fun w => Power_none k hk o ⟨#[]⟩ w)
 clear hk
 go_enter Try.func11, Try.ntmps11
 go_wp2_with fail
 obtain ⟨w1, hq1, hb9, hz9, Hbp, Hbq⟩ := new2 w 24 [.string pc, .slice pa n1 pp] 24 [.string qc, .slice qa n2 qp]
 rw [hq1]
 clear hq1
 have HB := Lib.hid hb9
 have HZS := hz9
 clear hb9 hz9
 have bp_ := Hbp.out.c2
 have bq_ := Hbq.out.c2
 go_wp2_with fail
 refine (alive5 w1).mono ?_
 rintro e w2 ⟨rfl, hb9⟩
 clear bp_
 replace Hbp := Lib.hid (Hbp.out.up hb9)
 clear bq_
 replace Hbq := Lib.hid (Hbq.out.up hb9)
 replace HB := hbu HB hb9
 replace HZS := sz HZS hb9.size
 clear hb9
 have bp_ := Hbp.out.c2
 have bq_ := Hbq.out.c2
 go_wp2_with fail
 refine (HN.out w2).mono ?_
 rintro e w3 ⟨rfl, hb9⟩
 clear bp_
 replace Hbp := Lib.hid (Hbp.out.up hb9)
 clear bq_
 replace Hbq := Lib.hid (Hbq.out.up hb9)
 replace HB := hbu HB hb9
 replace HZS := sz HZS hb9.size
 clear hb9
 have bp_ := Hbp.out.c2
 have bq_ := Hbq.out.c2
 go_wp2_with fail
 refine (HP.out w3).mono ?_
 rintro e w4 ⟨rfl, hb9⟩
 clear bp_
 replace Hbp := Lib.hid (Hbp.out.up hb9)
 clear bq_
 replace Hbq := Lib.hid (Hbq.out.up hb9)
 replace HB := hbu HB hb9
 replace HZS := sz HZS hb9.size
 clear hb9
 have bp_ := Hbp.out.c2
 have bq_ := Hbq.out.c2
 go_wp2_with fail
 go_ret
 exact ⟨rfl, HB.out⟩
theorem once_elem (k : Nat) (h1 : 1 ≤ k) (h3 : k ≤ 3) (o x y : ByteArray) (ho : isEl (grp k).q.m (grp k).size o = false) (w : World) :
  Calls Try.prog 11 #[.int .i64 (k : Int), .string o, .string x, .string y, .agg #[.string pc, .slice pa n1 pp], .agg #[.string qc, .slice qa n2 qp]] w fun e w' => e = .returned (.bool true) ∧ Below w.heap.size w w' := by
 have hn := fun w => Number_some k h1 h3 0 (by decide) (by decide) w
 rw [(one_facts h1 h3).2.2.2] at hn
 have HN := Lib.hid hn
 have hp := fun w => Power_some k h1 h3 o (textS 0 (grp k).size) w
 unfold powV powE at hp
 rw [ho, if_pos rfl, if_pos rfl] at hp
 have HP := Lib.hid hp
 clear hn hp ho
 generalize textS 0 (grp k).size = zero at *
 go_enter Try.func11, Try.ntmps11
 go_wp2_with fail
 obtain ⟨w1, hq1, hb9, hz9, Hbp, Hbq⟩ := new2 w 24 [.string pc, .slice pa n1 pp] 24 [.string qc, .slice qa n2 qp]
 rw [hq1]
 clear hq1
 have HB := Lib.hid hb9
 have HZS := hz9
 clear hb9 hz9
 have bp_ := Hbp.out.c2
 have bq_ := Hbq.out.c2
 go_wp2_with fail
 refine (alive5 w1).mono ?_
 rintro e w2 ⟨rfl, hb9⟩
 clear bp_
 replace Hbp := Lib.hid (Hbp.out.up hb9)
 clear bq_
 replace Hbq := Lib.hid (Hbq.out.up hb9)
 replace HB := hbu HB hb9
 replace HZS := sz HZS hb9.size
 clear hb9
 have bp_ := Hbp.out.c2
 have bq_ := Hbq.out.c2
 go_wp2_with fail
 refine (HN.out w2).mono ?_
 rintro e w3 ⟨rfl, hb9⟩
 clear bp_
 replace Hbp := Lib.hid (Hbp.out.up hb9)
 clear bq_
 replace Hbq := Lib.hid (Hbq.out.up hb9)
 replace HB := hbu HB hb9
 replace HZS := sz HZS hb9.size
 clear hb9
 have bp_ := Hbp.out.c2
 have bq_ := Hbq.out.c2
 go_wp2_with fail
 refine (HP.out w3).mono ?_
 rintro e w4 ⟨rfl, hb9⟩
 clear bp_
 replace Hbp := Lib.hid (Hbp.out.up hb9)
 clear bq_
 replace Hbq := Lib.hid (Hbq.out.up hb9)
 replace HB := hbu HB hb9
 replace HZS := sz HZS hb9.size
 clear hb9
 have bp_ := Hbp.out.c2
 have bq_ := Hbq.out.c2
 go_wp2_with fail
 go_ret
 exact ⟨rfl, HB.out⟩
theorem once_one (k : Nat) (h1 : 1 ≤ k) (h3 : k ≤ 3) (o x y : ByteArray) (ho : isEl (grp k).q.m (grp k).size o = true) (h : o = textS 1 (grp k).size ∨ x = y) (w : World) :
  Calls Try.prog 11 #[.int .i64 (k : Int), .string o, .string x, .string y, .agg #[.string pc, .slice pa n1 pp], .agg #[.string qc, .slice qa n2 qp]] w fun e w' => e = .returned (.bool true) ∧ Below w.heap.size w w' := by
 have hn := fun w => Number_some k h1 h3 0 (by decide) (by decide) w
 rw [(one_facts h1 h3).2.2.2] at hn
 have HN := Lib.hid hn
 have HP := Lib.hid (fun w => one_pow h1 h3 ho w)
 have hs0 : (textS 0 (grp k).size).size = (grp k).size := textS_size _ _
 have hs1 : (textS 1 (grp k).size).size = (grp k).size := textS_size _ _
 have hsz := grp_size_pos5 k h1 h3
 have hd1 : decide (((textS 0 (grp k).size).size : Int) > 0) = true := by rw [hs0]; simp; omega
 have hd2 : (((textS 1 (grp k).size).size : Int) == ((textS 0 (grp k).size).size : Int)) = true := by rw [hs0, hs1]; simp
 have hzp : 0 < (textS 0 (grp k).size).size := by rw [hs0]; exact hsz
 clear hn ho hs0 hs1 hsz
 generalize textS 0 (grp k).size = zero at *
 generalize textS 1 (grp k).size = one at *
 by_cases ho : o = one
 ·subst ho
  have hd3 : (o.toList == o.toList) = true := by simp
  clear h
  go_enter Try.func11, Try.ntmps11
  go_wp2_with fail
  obtain ⟨w1, hq1, hb9, hz9, Hbp, Hbq⟩ := new2 w 24 [.string pc, .slice pa n1 pp] 24 [.string qc, .slice qa n2 qp]
  rw [hq1]
  clear hq1
  have HB := Lib.hid hb9
  have HZS := hz9
  clear hb9 hz9
  have bp_ := Hbp.out.c2
  have bq_ := Hbq.out.c2
  go_wp2_with fail
  refine (alive5 w1).mono ?_
  rintro e w2 ⟨rfl, hb9⟩
  clear bp_
  replace Hbp := Lib.hid (Hbp.out.up hb9)
  clear bq_
  replace Hbq := Lib.hid (Hbq.out.up hb9)
  replace HB := hbu HB hb9
  replace HZS := sz HZS hb9.size
  clear hb9
  have bp_ := Hbp.out.c2
  have bq_ := Hbq.out.c2
  go_wp2_with fail
  refine (HN.out w2).mono ?_
  rintro e w3 ⟨rfl, hb9⟩
  clear bp_
  replace Hbp := Lib.hid (Hbp.out.up hb9)
  clear bq_
  replace Hbq := Lib.hid (Hbq.out.up hb9)
  replace HB := hbu HB hb9
  replace HZS := sz HZS hb9.size
  clear hb9
  have bp_ := Hbp.out.c2
  have bq_ := Hbq.out.c2
  go_wp2_with fail
  refine (HP.out w3).mono ?_
  rintro e w4 ⟨rfl, hb9⟩
  clear bp_
  replace Hbp := Lib.hid (Hbp.out.up hb9)
  clear bq_
  replace Hbq := Lib.hid (Hbq.out.up hb9)
  replace HB := hbu HB hb9
  replace HZS := sz HZS hb9.size
  clear hb9
  have bp_ := Hbp.out.c2
  have bq_ := Hbq.out.c2
  go_wp2_with fail
  go_ret
  exact ⟨rfl, HB.out⟩
 ·have hxy : x = y := h.elim (fun e => absurd e ho) id
  subst hxy
  have hd3 := toList_bne ho
  have hd4 : (x.toList == x.toList) = true := by simp
  clear h ho
  go_enter Try.func11, Try.ntmps11
  go_wp2_with fail
  obtain ⟨w1, hq1, hb9, hz9, Hbp, Hbq⟩ := new2 w 24 [.string pc, .slice pa n1 pp] 24 [.string qc, .slice qa n2 qp]
  rw [hq1]
  clear hq1
  have HB := Lib.hid hb9
  have HZS := hz9
  clear hb9 hz9
  have bp_ := Hbp.out.c2
  have bq_ := Hbq.out.c2
  go_wp2_with fail
  refine (alive5 w1).mono ?_
  rintro e w2 ⟨rfl, hb9⟩
  clear bp_
  replace Hbp := Lib.hid (Hbp.out.up hb9)
  clear bq_
  replace Hbq := Lib.hid (Hbq.out.up hb9)
  replace HB := hbu HB hb9
  replace HZS := sz HZS hb9.size
  clear hb9
  have bp_ := Hbp.out.c2
  have bq_ := Hbq.out.c2
  go_wp2_with fail
  refine (HN.out w2).mono ?_
  rintro e w3 ⟨rfl, hb9⟩
  clear bp_
  replace Hbp := Lib.hid (Hbp.out.up hb9)
  clear bq_
  replace Hbq := Lib.hid (Hbq.out.up hb9)
  replace HB := hbu HB hb9
  replace HZS := sz HZS hb9.size
  clear hb9
  have bp_ := Hbp.out.c2
  have bq_ := Hbq.out.c2
  go_wp2_with fail
  refine (HP.out w3).mono ?_
  rintro e w4 ⟨rfl, hb9⟩
  clear bp_
  replace Hbp := Lib.hid (Hbp.out.up hb9)
  clear bq_
  replace Hbq := Lib.hid (Hbq.out.up hb9)
  replace HB := hbu HB hb9
  replace HZS := sz HZS hb9.size
  clear hb9
  have bp_ := Hbp.out.c2
  have bq_ := Hbq.out.c2
  go_wp2_with fail
  go_ret
  exact ⟨rfl, HB.out⟩
theorem once_main (k : Nat) (h1 : 1 ≤ k) (h3 : k ≤ 3) (o x y : ByteArray) (ho : isEl (grp k).q.m (grp k).size o = true) (ho1 : o ≠ textS 1 (grp k).size) (hxy : x ≠ y) (pl ql : List ByteArray) (hpl : pl.length = n1) (hql : ql.length = n2) (w : World) (hP : Sl w w.heap.size pa (pl.map Value.string)) (hQ : Sl w w.heap.size qa (ql.map Value.string)) :
  Calls Try.prog 11 #[.int .i64 (k : Int), .string o, .string x, .string y, .agg #[.string pc, .slice pa n1 pp], .agg #[.string qc, .slice qa n2 qp]] w fun e w' => e = .returned (.bool true) ∧ Below w.heap.size w w' := by
 have hn := fun w => Number_some k h1 h3 0 (by decide) (by decide) w
 rw [(one_facts h1 h3).2.2.2] at hn
 have HN := Lib.hid hn
 have HP := Lib.hid (fun w => one_pow h1 h3 ho w)
 have hd3 := toList_bne ho1
 have hd4 := toList_bne hxy
 obtain ⟨sx, hsx⟩ : ∃ b, isSc (grp k).q.m (grp k).size x = b := ⟨_, rfl⟩
 obtain ⟨sy, hsy⟩ : ∃ b, isSc (grp k).q.m (grp k).size y = b := ⟨_, rfl⟩
 have hc := fun ax W hS => made_some k h1 h3 o ho [x] 1 rfl ax 1 (by decide) sx (by rw [List.all_cons, hsx]; simp) W hS
 have hd := fun ax W hS => made_some k h1 h3 o ho [y] 1 rfl ax 1 (by decide) sy (by rw [List.all_cons, hsy]; simp) W hS
 have hnil := fun (W : World) (a : Option Addr) (n c : Nat) => Lib.run_eql_slice_nil (P := Try.prog) W 58 70 a n c 0 0 Try.underlying58
 have HP0 := Lib.hid hP
 have HQ0 := Lib.hid hQ
 have HPL := Lib.hid hpl
 have HQL := Lib.hid hql
 have HO := Lib.hid ho
 have HO1 := Lib.hid ho1
 have HXY := Lib.hid hxy
 have HSX := Lib.hid hsx
 have HSY := Lib.hid hsy
 unfold MadeR at hc hd
 clear hn hP hQ hpl hql ho ho1 hxy hsx hsy
 generalize textS 0 (grp k).size = zero at *
 obtain ⟨one, hone⟩ : ∃ t, textS 1 (grp k).size = t := ⟨_, rfl⟩
 rw [hone] at HP hd3
 clear hone
 cases sx
 case false =>
  have HC := Lib.hid hc
  have HD := Lib.hid hd
  clear hc hd
  rw [if_neg (by decide)] at HC
  obtain ⟨nd, hnd⟩ : ∃ n, (if sy = true then [y].map (madeT (grp k) o) else []).length = n := ⟨_, rfl⟩
  rw [hnd] at HD
  go_enter Try.func11, Try.ntmps11
  go_wp2_with fail
  obtain ⟨w1, hq1, hb9, hz9, Hbp, Hbq⟩ := new2 w 24 [.string pc, .slice pa n1 pp] 24 [.string qc, .slice qa n2 qp]
  rw [hq1]
  clear hq1
  have HB := Lib.hid hb9
  have HZS := hz9
  clear hb9 hz9
  have bp_ := Hbp.out.c2
  have bq_ := Hbq.out.c2
  go_wp2_with fail
  refine (alive5 w1).mono ?_
  rintro e w2 ⟨rfl, hb9⟩
  clear bp_
  replace Hbp := Lib.hid (Hbp.out.up hb9)
  clear bq_
  replace Hbq := Lib.hid (Hbq.out.up hb9)
  replace HB := hbu HB hb9
  replace HZS := sz HZS hb9.size
  clear hb9
  have bp_ := Hbp.out.c2
  have bq_ := Hbq.out.c2
  go_wp2_with fail
  refine (HN.out w2).mono ?_
  rintro e w3 ⟨rfl, hb9⟩
  clear bp_
  replace Hbp := Lib.hid (Hbp.out.up hb9)
  clear bq_
  replace Hbq := Lib.hid (Hbq.out.up hb9)
  replace HB := hbu HB hb9
  replace HZS := sz HZS hb9.size
  clear hb9
  have bp_ := Hbp.out.c2
  have bq_ := Hbq.out.c2
  go_wp2_with fail
  refine (HP.out w3).mono ?_
  rintro e w4 ⟨rfl, hb9⟩
  clear bp_
  replace Hbp := Lib.hid (Hbp.out.up hb9)
  clear bq_
  replace Hbq := Lib.hid (Hbq.out.up hb9)
  replace HB := hbu HB hb9
  replace HZS := sz HZS hb9.size
  clear hb9
  have bp_ := Hbp.out.c2
  have bq_ := Hbq.out.c2
  have o5_bp_ := bp_; clear bp_
  have o5_bq_ := bq_; clear bq_
  obtain ⟨w5, hq5, hb9, hz9, Hbx⟩ := new1 w4 9 [.string x]
  replace Hbp := Lib.hid (Hbp.out.up hb9)
  replace Hbq := Lib.hid (Hbq.out.up hb9)
  replace HB := hbu HB hb9
  replace HZS := sz HZS hz9.out
  clear hb9 hz9
  have bp_ := Hbp.out.c2
  have bq_ := Hbq.out.c2
  have bx_ := Hbx.out.c1
  go_wp2_with fail
  clear hq5 o5_bq_ o5_bp_
  refine (HC.out _ w5 (Sl.of_bx Hbx.out)).mono ?_
  rintro e w6 ⟨hb9, ac, cc, cs, rfl, hcx, hcs, hco, hcn, hcz⟩
  clear bp_
  replace Hbp := Lib.hid (Hbp.out.up hb9)
  clear bq_
  replace Hbq := Lib.hid (Hbq.out.up hb9)
  clear bx_
  replace Hbx := Lib.hid (Hbx.out.up hb9)
  replace HB := hbu HB hb9
  replace HZS := sz HZS hb9.size
  have HCX := Lib.hid hcx
  clear hcx
  have HCS := Lib.hid hcs
  clear hcs
  have HCO := Lib.hid hco
  clear hco
  have HCN := Lib.hid hcn
  clear hcn
  have HCZ := Lib.hid hcz
  clear hcz hb9
  have bp_ := Hbp.out.c2
  have bq_ := Hbq.out.c2
  have bx_ := Hbx.out.c1
  obtain rfl := HCZ.out rfl
  clear HCX HCS HCO HCN HCZ
  have o7_bp_ := bp_; clear bp_
  have o7_bq_ := bq_; clear bq_
  have o7_bx_ := bx_; clear bx_
  obtain ⟨w7, hq7, hb9, hz9, Hby⟩ := new1 w6 9 [.string y]
  replace Hbp := Lib.hid (Hbp.out.up hb9)
  replace Hbq := Lib.hid (Hbq.out.up hb9)
  replace Hbx := Lib.hid (Hbx.out.up hb9)
  replace HB := hbu HB hb9
  replace HZS := sz HZS hz9.out
  clear hb9 hz9
  have bp_ := Hbp.out.c2
  have bq_ := Hbq.out.c2
  have bx_ := Hbx.out.c1
  have by_ := Hby.out.c1
  go_wp2_with fail
  clear hq7 o7_bx_ o7_bq_ o7_bp_
  refine (HD.out _ w7 (Sl.of_bx Hby.out)).mono ?_
  rintro e w8 ⟨hb9, ad, cd, ds, rfl, hdx, hds, hdo, hdn, hdz⟩
  clear bp_
  replace Hbp := Lib.hid (Hbp.out.up hb9)
  clear bq_
  replace Hbq := Lib.hid (Hbq.out.up hb9)
  clear bx_
  replace Hbx := Lib.hid (Hbx.out.up hb9)
  clear by_
  replace Hby := Lib.hid (Hby.out.up hb9)
  replace HB := hbu HB hb9
  replace HZS := sz HZS hb9.size
  have HDX := Lib.hid hdx
  clear hdx
  have HDS := Lib.hid hds
  clear hds
  have HDO := Lib.hid hdo
  clear hdo
  have HDN := Lib.hid hdn
  clear hdn
  have HDZ := Lib.hid hdz
  clear hdz hb9
  have bp_ := Hbp.out.c2
  have bq_ := Hbq.out.c2
  have bx_ := Hbx.out.c1
  have by_ := Hby.out.c1
  clear HDX HDS HDO HDN HDZ
  go_wp2_with fail
  go_ret
  exact ⟨rfl, HB.out⟩
 rw [if_pos rfl, List.length_map, List.length_singleton] at hc
 have HC := Lib.hid hc
 clear hc
 cases sy
 case false =>
  have HD := Lib.hid hd
  clear hd
  rw [if_neg (by decide)] at HD
  go_enter Try.func11, Try.ntmps11
  go_wp2_with fail
  obtain ⟨w1, hq1, hb9, hz9, Hbp, Hbq⟩ := new2 w 24 [.string pc, .slice pa n1 pp] 24 [.string qc, .slice qa n2 qp]
  rw [hq1]
  clear hq1
  have HB := Lib.hid hb9
  have HZS := hz9
  clear hb9 hz9
  have bp_ := Hbp.out.c2
  have bq_ := Hbq.out.c2
  go_wp2_with fail
  refine (alive5 w1).mono ?_
  rintro e w2 ⟨rfl, hb9⟩
  clear bp_
  replace Hbp := Lib.hid (Hbp.out.up hb9)
  clear bq_
  replace Hbq := Lib.hid (Hbq.out.up hb9)
  replace HB := hbu HB hb9
  replace HZS := sz HZS hb9.size
  clear hb9
  have bp_ := Hbp.out.c2
  have bq_ := Hbq.out.c2
  go_wp2_with fail
  refine (HN.out w2).mono ?_
  rintro e w3 ⟨rfl, hb9⟩
  clear bp_
  replace Hbp := Lib.hid (Hbp.out.up hb9)
  clear bq_
  replace Hbq := Lib.hid (Hbq.out.up hb9)
  replace HB := hbu HB hb9
  replace HZS := sz HZS hb9.size
  clear hb9
  have bp_ := Hbp.out.c2
  have bq_ := Hbq.out.c2
  go_wp2_with fail
  refine (HP.out w3).mono ?_
  rintro e w4 ⟨rfl, hb9⟩
  clear bp_
  replace Hbp := Lib.hid (Hbp.out.up hb9)
  clear bq_
  replace Hbq := Lib.hid (Hbq.out.up hb9)
  replace HB := hbu HB hb9
  replace HZS := sz HZS hb9.size
  clear hb9
  have bp_ := Hbp.out.c2
  have bq_ := Hbq.out.c2
  have o5_bp_ := bp_; clear bp_
  have o5_bq_ := bq_; clear bq_
  obtain ⟨w5, hq5, hb9, hz9, Hbx⟩ := new1 w4 9 [.string x]
  replace Hbp := Lib.hid (Hbp.out.up hb9)
  replace Hbq := Lib.hid (Hbq.out.up hb9)
  replace HB := hbu HB hb9
  replace HZS := sz HZS hz9.out
  clear hb9 hz9
  have bp_ := Hbp.out.c2
  have bq_ := Hbq.out.c2
  have bx_ := Hbx.out.c1
  go_wp2_with fail
  clear hq5 o5_bq_ o5_bp_
  refine (HC.out _ w5 (Sl.of_bx Hbx.out)).mono ?_
  rintro e w6 ⟨hb9, ac, cc, cs, rfl, hcx, hcs, hco, hcn, hcz⟩
  clear bp_
  replace Hbp := Lib.hid (Hbp.out.up hb9)
  clear bq_
  replace Hbq := Lib.hid (Hbq.out.up hb9)
  clear bx_
  replace Hbx := Lib.hid (Hbx.out.up hb9)
  replace HB := hbu HB hb9
  replace HZS := sz HZS hb9.size
  have HCX := Lib.hid hcx
  clear hcx
  have HCS := Lib.hid hcs
  clear hcs
  have HCO := Lib.hid hco
  clear hco
  have HCN := Lib.hid hcn
  clear hcn
  have HCZ := Lib.hid hcz
  clear hcz hb9
  have bp_ := Hbp.out.c2
  have bq_ := Hbq.out.c2
  have bx_ := Hbx.out.c1
  obtain ⟨c1, rfl⟩ : ∃ c1, cs = [c1] := List.length_eq_one_iff.1 (by have h9 := congrArg List.length HCX.out; simpa using h9)
  obtain ⟨gk, gof, rfl, hgk, _⟩ := Sl.elem HCS.out ClaimB.cells_len (by omega) 0 (by simp)
  clear HCX HCS HCO HCN HCZ
  have o7_bp_ := bp_; clear bp_
  have o7_bq_ := bq_; clear bq_
  have o7_bx_ := bx_; clear bx_
  obtain ⟨w7, hq7, hb9, hz9, Hby⟩ := new1 w6 9 [.string y]
  replace Hbp := Lib.hid (Hbp.out.up hb9)
  replace Hbq := Lib.hid (Hbq.out.up hb9)
  replace Hbx := Lib.hid (Hbx.out.up hb9)
  replace HB := hbu HB hb9
  replace HZS := sz HZS hz9.out
  clear hb9 hz9
  have bp_ := Hbp.out.c2
  have bq_ := Hbq.out.c2
  have bx_ := Hbx.out.c1
  have by_ := Hby.out.c1
  go_wp2_with fail
  clear hq7 o7_bx_ o7_bq_ o7_bp_
  refine (HD.out _ w7 (Sl.of_bx Hby.out)).mono ?_
  rintro e w8 ⟨hb9, ad, cd, ds, rfl, hdx, hds, hdo, hdn, hdz⟩
  clear bp_
  replace Hbp := Lib.hid (Hbp.out.up hb9)
  clear bq_
  replace Hbq := Lib.hid (Hbq.out.up hb9)
  clear bx_
  replace Hbx := Lib.hid (Hbx.out.up hb9)
  clear by_
  replace Hby := Lib.hid (Hby.out.up hb9)
  replace HB := hbu HB hb9
  replace HZS := sz HZS hb9.size
  have HDX := Lib.hid hdx
  clear hdx
  have HDS := Lib.hid hds
  clear hds
  have HDO := Lib.hid hdo
  clear hdo
  have HDN := Lib.hid hdn
  clear hdn
  have HDZ := Lib.hid hdz
  clear hdz hb9
  have bp_ := Hbp.out.c2
  have bq_ := Hbq.out.c2
  have bx_ := Hbx.out.c1
  have by_ := Hby.out.c1
  obtain rfl := HDZ.out rfl
  clear HDX HDS HDO HDN HDZ
  go_wp2_with fail
  go_ret
  exact ⟨rfl, HB.out⟩
 rw [if_pos rfl, List.length_map, List.length_singleton] at hd
 have HD := Lib.hid hd
 clear hd
 go_enter Try.func11, Try.ntmps11
 go_wp2_with fail
 obtain ⟨w1, hq1, hb9, hz9, Hbp, Hbq⟩ := new2 w 24 [.string pc, .slice pa n1 pp] 24 [.string qc, .slice qa n2 qp]
 rw [hq1]
 clear hq1
 have HB := Lib.hid hb9
 have HZS := hz9
 clear hb9 hz9
 have bp_ := Hbp.out.c2
 have bq_ := Hbq.out.c2
 go_wp2_with fail
 refine (alive5 w1).mono ?_
 rintro e w2 ⟨rfl, hb9⟩
 clear bp_
 replace Hbp := Lib.hid (Hbp.out.up hb9)
 clear bq_
 replace Hbq := Lib.hid (Hbq.out.up hb9)
 replace HB := hbu HB hb9
 replace HZS := sz HZS hb9.size
 clear hb9
 have bp_ := Hbp.out.c2
 have bq_ := Hbq.out.c2
 go_wp2_with fail
 refine (HN.out w2).mono ?_
 rintro e w3 ⟨rfl, hb9⟩
 clear bp_
 replace Hbp := Lib.hid (Hbp.out.up hb9)
 clear bq_
 replace Hbq := Lib.hid (Hbq.out.up hb9)
 replace HB := hbu HB hb9
 replace HZS := sz HZS hb9.size
 clear hb9
 have bp_ := Hbp.out.c2
 have bq_ := Hbq.out.c2
 go_wp2_with fail
 refine (HP.out w3).mono ?_
 rintro e w4 ⟨rfl, hb9⟩
 clear bp_
 replace Hbp := Lib.hid (Hbp.out.up hb9)
 clear bq_
 replace Hbq := Lib.hid (Hbq.out.up hb9)
 replace HB := hbu HB hb9
 replace HZS := sz HZS hb9.size
 clear hb9
 have bp_ := Hbp.out.c2
 have bq_ := Hbq.out.c2
 have o5_bp_ := bp_; clear bp_
 have o5_bq_ := bq_; clear bq_
 obtain ⟨w5, hq5, hb9, hz9, Hbx⟩ := new1 w4 9 [.string x]
 replace Hbp := Lib.hid (Hbp.out.up hb9)
 replace Hbq := Lib.hid (Hbq.out.up hb9)
 replace HB := hbu HB hb9
 replace HZS := sz HZS hz9.out
 clear hb9 hz9
 have bp_ := Hbp.out.c2
 have bq_ := Hbq.out.c2
 have bx_ := Hbx.out.c1
 go_wp2_with fail
 clear hq5 o5_bq_ o5_bp_
 refine (HC.out _ w5 (Sl.of_bx Hbx.out)).mono ?_
 rintro e w6 ⟨hb9, ac, cc, cs, rfl, hcx, hcs, hco, hcn, hcz⟩
 clear bp_
 replace Hbp := Lib.hid (Hbp.out.up hb9)
 clear bq_
 replace Hbq := Lib.hid (Hbq.out.up hb9)
 clear bx_
 replace Hbx := Lib.hid (Hbx.out.up hb9)
 replace HB := hbu HB hb9
 replace HZS := sz HZS hb9.size
 have HCX := Lib.hid hcx
 clear hcx
 have HCS := Lib.hid hcs
 clear hcs
 have HCO := Lib.hid hco
 clear hco
 have HCN := Lib.hid hcn
 clear hcn
 have HCZ := Lib.hid hcz
 clear hcz hb9
 have bp_ := Hbp.out.c2
 have bq_ := Hbq.out.c2
 have bx_ := Hbx.out.c1
 obtain ⟨c1, rfl⟩ : ∃ c1, cs = [c1] := List.length_eq_one_iff.1 (by have h9 := congrArg List.length HCX.out; simpa using h9)
 have hx1 : c1.x = madeT (grp k) o x := by have h9 := HCX.out; simpa using h9
 obtain ⟨gk, gof, rfl, hgk, hgc⟩ := Sl.elem HCS.out ClaimB.cells_len (by omega) 0 (by simp)
 have hgc1 := hgc 1 _ rfl
 rw [Nat.zero_mul, Nat.add_zero] at hgc1
 obtain ⟨⟨h1b, h1i⟩, hN1, hN2, hbi, hob, hoi⟩ := HCO.out c1 (by simp)
 have HGC := Lib.hid hgc1
 have HX1 := Lib.hid hx1
 have H1B := Lib.hid h1b
 have H1I := Lib.hid h1i
 have HL1 := Lib.hid h1i.lt
 have HL2 := Lib.hid h1b.lt
 have HGK := Lib.hid hgk
 have hgi : gk ≠ c1.ib := fun e => hoi (by rw [← e]; rfl)
 clear hgc hgc1 hx1 h1b h1i hgk hob hoi HCX HCO HCN HCZ hN1
 have BC1 := Lib.hid (Below.refl w6.heap.size w6)
 replace HZS := sz HZS HL1.out
 replace HZS := sz HZS HL2.out
 replace HZS := sz HZS HGK.out
 have o7_bp_ := bp_; clear bp_
 have o7_bq_ := bq_; clear bq_
 have o7_bx_ := bx_; clear bx_
 obtain ⟨w7, hq7, hb9, hz9, Hby⟩ := new1 w6 9 [.string y]
 replace Hbp := Lib.hid (Hbp.out.up hb9)
 replace Hbq := Lib.hid (Hbq.out.up hb9)
 replace Hbx := Lib.hid (Hbx.out.up hb9)
 replace BC1 := hbu BC1 hb9
 replace HB := hbu HB hb9
 replace HZS := sz HZS hz9.out
 clear hb9 hz9
 have bp_ := Hbp.out.c2
 have bq_ := Hbq.out.c2
 have bx_ := Hbx.out.c1
 have by_ := Hby.out.c1
 go_wp2_with fail
 clear hq7 o7_bx_ o7_bq_ o7_bp_
 refine (HD.out _ w7 (Sl.of_bx Hby.out)).mono ?_
 rintro e w8 ⟨hb9, ad, cd, ds, rfl, hdx, hds, hdo, hdn, hdz⟩
 clear bp_
 replace Hbp := Lib.hid (Hbp.out.up hb9)
 clear bq_
 replace Hbq := Lib.hid (Hbq.out.up hb9)
 clear bx_
 replace Hbx := Lib.hid (Hbx.out.up hb9)
 clear by_
 replace Hby := Lib.hid (Hby.out.up hb9)
 replace BC1 := hbu BC1 hb9
 replace HB := hbu HB hb9
 replace HZS := sz HZS hb9.size
 have HDX := Lib.hid hdx
 clear hdx
 have HDS := Lib.hid hds
 clear hds
 have HDO := Lib.hid hdo
 clear hdo
 have HDN := Lib.hid hdn
 clear hdn
 have HDZ := Lib.hid hdz
 clear hdz hb9
 have bp_ := Hbp.out.c2
 have bq_ := Hbq.out.c2
 have bx_ := Hbx.out.c1
 have by_ := Hby.out.c1
 obtain ⟨d1, rfl⟩ : ∃ d1, ds = [d1] := List.length_eq_one_iff.1 (by have h9 := congrArg List.length HDX.out; simpa using h9)
 have hy1 : d1.x = madeT (grp k) o y := by have h9 := HDX.out; simpa using h9
 obtain ⟨ek, eof, rfl, hek, hec⟩ := Sl.elem HDS.out ClaimB.cells_len (by omega) 0 (by simp)
 have hec1 := hec 1 _ rfl
 rw [Nat.zero_mul, Nat.add_zero] at hec1
 obtain ⟨⟨_, h2i⟩, _, hM2, _, _, _⟩ := HDO.out d1 (by simp)
 have hdv := h2i.cell (i := 1) rfl
 have hEN : _ ≤ ek := HDN.out _ rfl
 have hdl := h2i.lt
 have HY1 := Lib.hid hy1
 clear hec hy1 h2i HDX HDS HDO HDN HDZ
 by_cases g1 : n1 = 1
 case neg =>
  have hd5 : ((n1 : Int) != 1) = true := by simp; omega
  clear g1 hec1 hdv hek hdl
  go_wp2_with fail
  go_ret
  exact ⟨rfl, HB.out⟩
 by_cases g2 : n2 = 1
 case neg =>
  have hd5 : ((n1 : Int) != 1) = false := by simp; omega
  have hd6 : ((n2 : Int) != 1) = true := by simp; omega
  clear g1 g2 hec1 hdv hek hdl
  go_wp2_with fail
  go_ret
  exact ⟨rfl, HB.out⟩
 subst g1
 subst g2
 obtain ⟨z1, rfl⟩ := List.length_eq_one_iff.1 HPL.out
 obtain ⟨z2, rfl⟩ := List.length_eq_one_iff.1 HQL.out
 go_wp2_with fail
 have hgc1 := (BC1.out.cell (p := ⟨gk, gof + 1, none⟩) HGK.out).trans HGC.out
 have hgk := Nat.lt_of_lt_of_le HGK.out BC1.out.size
 have Hci := Lib.hid (H1I.out.up BC1.out)
 have HCSD := Lib.hid (HCS.out.up BC1.out)
 have HBBD := Lib.hid (H1B.out.up BC1.out)
 clear BC1 HGC HGK H1I H1B HCS
 have ci_ := Hci.out.c2
 clear bp_ bq_ bx_ by_
 have HKC := Lib.hid (Kept.refl (fun q9 => q9 = c1.ib) w8)
 have HT := Lib.hid (show Below w8.heap.size w8 w8.drew from (Below.refl _ _).drew)
 refine wp_region_tree (fun wq9 => ∃ E : But w8 (some (c1.ib)), wq9 = E.w) ((.qs [0, 1, 2, 3, 4, 5, 6, 7, 8, 9, 10] (.a 11 .done))) (by kernel_rfl) (by kernel_rfl) (fun _ _ d _ _ h => by cases d <;> exact h) ⟨⟨_, ((below_grown HT.out).but _)⟩, rfl⟩ ?_
 have hov_gk := fun (E : But w8 (some (c1.ib))) o => E.cell (b := gk) o hgk (by intro e9; have a0 := Option.some.inj e9; have g0 := HZS.out; omega)
 have hov_ek := fun (E : But w8 (some (c1.ib))) o => E.cell (b := ek) o hek (by intro e9; have a0 := Option.some.inj e9; have g0 := HZS.out; omega)
 have hov_d1_ib := fun (E : But w8 (some (c1.ib))) o => E.cell (b := d1.ib) o hdl (by intro e9; have a0 := Option.some.inj e9; have g0 := HZS.out; omega)
 simp only [Tree.qs]
 repeat (refine tree_q rfl rfl ?_; go_big_quiet_step (fail); refine wpQuiet_nil ?_)
 clear hov_gk hov_ek hov_d1_ib
 refine tree_a rfl (fun K hK => ?_)
 replace Hbp := Lib.hid (Hbp.out.up HT.out)
 replace Hbq := Lib.hid (Hbq.out.up HT.out)
 replace Hbx := Lib.hid (Hbx.out.up HT.out)
 replace Hby := Lib.hid (Hby.out.up HT.out)
 clear ci_
 replace Hci := Lib.hid (Hci.out.up HT.out)
 replace HKC := Lib.hid (Kept.up HKC.out HT.out)
 replace HB := hbu HB HT.out
 replace HZS := sz HZS HT.out.size
 have ci_ := Hci.out.c2
 have f9_ci := Hci.out.frozen
 have o9_ci_ := ci_; clear ci_
 obtain ⟨w9, hq9, hg9, hz9, hx9⟩ := put1 Hci 1 (.string d1.v) [.string c1.u, .string d1.v] rfl
 replace Hbp := Lib.hid (Hbp.out.grown hg9.out (sne (by have g0 := HZS.out; omega)))
 replace Hbq := Lib.hid (Hbq.out.grown hg9.out (sne (by have g0 := HZS.out; omega)))
 replace Hbx := Lib.hid (Hbx.out.grown hg9.out (sne (by have g0 := HZS.out; omega)))
 replace Hby := Lib.hid (Hby.out.grown hg9.out (sne (by have g0 := HZS.out; omega)))
 replace HKC := Lib.hid (Kept.grown HKC.out hg9.out (fun q9 e9 => by obtain rfl := Option.some.inj e9; exact Or.inr (rfl)))
 replace HB := hbg HB hg9 (by have g0 := HZS.out; omega)
 replace HZS := sz HZS hz9.out
 replace Hci := hx9
 have HGR := Lib.hid (((below_grown HT.out).but _).trans hg9.out)
 clear hx9 hg9 hz9
 have ci_ := Hci.out.c2
 clear HT
 go_simp
 try rw [hq9]
 refine hK _ _ ⟨⟨⟨w9, HGR.out⟩, rfl⟩, ?_⟩
 clear hK K HGR hq9 o9_ci_ f9_ci
 repeat (refine tree_q rfl rfl ?_; go_big_quiet_step (fail); refine wpQuiet_nil ?_)
 refine tree_end ?_
 clear hgc1 hec1 hdv
 have bp_ := Hbp.out.c2
 have bq_ := Hbq.out.c2
 have hc' : (⟨c1.bb, c1.ib, c1.s, c1.t, c1.u, d1.v⟩ : ClaimB).x = (textS 2 (grp k).size, o, textS (lowN (grp k) (2 ^ numOf x)) (grp k).size, textS (lowN (grp k) (numOf o ^ numOf y)) (grp k).size) := by
  have e1 := HX1.out
  have e2 := HY1.out
  unfold ClaimB.x madeT at e1 e2
  simp only [Prod.mk.injEq] at e1 e2
  unfold ClaimB.x
  dsimp only
  rw [e1.1, e1.2.1, e1.2.2.1, e2.2.2.2]
 have HCA := Lib.hid (show ClaimsAt w9 (some ⟨gk, gof, none⟩) [(⟨c1.bb, c1.ib, c1.s, c1.t, c1.u, d1.v⟩ : ClaimB).a] from ⟨show Sl _ _ _ ([c1].flatMap ClaimB.cells) from HCSD.out.kept HKC.out (fun q hq => by cases hq; exact hgi), fun q hq => by
  obtain rfl := List.mem_singleton.1 hq
  exact ClaimB.At.full (c := ⟨c1.bb, c1.ib, c1.s, c1.t, c1.u, d1.v⟩) ⟨HBBD.out.keptP HKC.out hbi, Hci.out⟩⟩)
 obtain ⟨wf1, wf2⟩ := once_wf h1 h3 HO.out hc'
 have herr1 := once_err h1 h3 wf1 wf2 pc z1
 have herr2 := once_err h1 h3 wf1 wf2 qc z2
 have htwo := fun g1 g2 hd => once_two h1 h3 HO.out HO1.out HSX.out HSY.out HXY.out hc' (p := ⟨pc, pa, pp, [z1]⟩) (q := ⟨qc, qa, qp, [z2]⟩) g1 g2 hd
 have hl1 := fun g => once_lens (k := k) (ch := pc) (xs := [z1]) (c := ⟨c1.bb, c1.ib, c1.s, c1.t, c1.u, d1.v⟩) g
 have hl2 := fun g => once_lens (k := k) (ch := qc) (xs := [z2]) (c := ⟨c1.bb, c1.ib, c1.s, c1.t, c1.u, d1.v⟩) g
 have hk1 := fun W hC hS => sBack_any (k : Int) [(⟨c1.bb, c1.ib, c1.s, c1.t, c1.u, d1.v⟩ : ClaimB).a] (some ⟨gk, gof, none⟩) cc pc [z1] pa pp (by simp) W hC hS
 have hk2 := fun W hC hS => sBack_any (k : Int) [(⟨c1.bb, c1.ib, c1.s, c1.t, c1.u, d1.v⟩ : ClaimB).a] (some ⟨gk, gof, none⟩) cc qc [z2] qa qp (by simp) W hC hS
 dsimp only at htwo
 generalize (⟨c1.bb, c1.ib, c1.s, c1.t, c1.u, d1.v⟩ : ClaimB) = c9 at *
 generalize backK (k : Int) [c9.a] pc [z1] = L1 at *
 generalize backK (k : Int) [c9.a] qc [z2] = L2 at *
 generalize backE (k : Int) [c9.a] pc [z1] = e1 at *
 generalize backE (k : Int) [c9.a] qc [z2] = e2 at *
 unfold RowsE at hk1 hk2
 simp only [List.length_singleton] at hk1 hk2
 obtain ⟨m1, hm9⟩ : ∃ m, L1.length = m := ⟨_, rfl⟩
 obtain ⟨m2, hm8⟩ : ∃ m, L2.length = m := ⟨_, rfl⟩
 rw [hm9] at hk1
 rw [hm8] at hk2
 have HK1 := Lib.hid hk1
 have HK2 := Lib.hid hk2
 have HM9 := Lib.hid hm9
 have HM8 := Lib.hid hm8
 have HTWO := Lib.hid htwo
 have HLN1 := Lib.hid hl1
 have HLN2 := Lib.hid hl2
 clear hk1 hk2 hm9 hm8 hc' wf1 wf2 htwo hl1 hl2 HCSD HBBD HX1 HY1 HKC ci_ Hci
 have BCA := Lib.hid (Below.refl w9.heap.size w9)
 go_wp2_with fail
 refine (HK1.out _ (HCA.out.up BCA.out) (HP0.out.up HB.out)).mono ?_
 rintro e w10 ⟨hb9, a1, q1, ro1, rfl, hm1, hr1, _⟩
 clear bp_
 replace Hbp := Lib.hid (Hbp.out.up hb9)
 clear bq_
 replace Hbq := Lib.hid (Hbq.out.up hb9)
 replace Hbx := Lib.hid (Hbx.out.up hb9)
 replace Hby := Lib.hid (Hby.out.up hb9)
 replace BCA := hbu BCA hb9
 replace HB := hbu HB hb9
 replace HZS := sz HZS hb9.size
 have HM1 := Lib.hid hm1
 clear hm1
 have HR1 := Lib.hid hr1
 clear hr1 hb9
 have bp_ := Hbp.out.c2
 have bq_ := Hbq.out.c2
 have BF := Lib.hid (Below.refl w10.heap.size w10)
 go_wp2_with fail
 refine (HK2.out _ (HCA.out.up BCA.out) (HQ0.out.up HB.out)).mono ?_
 rintro e w11 ⟨hb9, a2, q2, ro2, rfl, hm2, hr2, _⟩
 clear bp_
 replace Hbp := Lib.hid (Hbp.out.up hb9)
 clear bq_
 replace Hbq := Lib.hid (Hbq.out.up hb9)
 replace Hbx := Lib.hid (Hbx.out.up hb9)
 replace Hby := Lib.hid (Hby.out.up hb9)
 replace BCA := hbu BCA hb9
 replace BF := hbu BF hb9
 replace HB := hbu HB hb9
 replace HZS := sz HZS hb9.size
 have HM2 := Lib.hid hm2
 clear hm2
 have HR2 := Lib.hid hr2
 clear hr2 hb9
 have bp_ := Hbp.out.c2
 have bq_ := Hbq.out.c2
 rcases herr1 with rfl | rfl
 case inr =>
  go_wp2_with fail
  go_ret
  exact ⟨rfl, HB.out⟩
 rcases herr2 with rfl | rfl
 case inr =>
  go_wp2_with fail
  go_ret
  exact ⟨rfl, HB.out⟩
 obtain ⟨r1, rfl, hr1l⟩ := HLN1.out rfl
 obtain ⟨r2, rfl, hr2l⟩ := HLN2.out rfl
 obtain rfl : m1 = 1 := HM9.out.symm
 obtain rfl : m2 = 1 := HM8.out.symm
 obtain ⟨s1, rfl⟩ : ∃ s, ro1 = [s] := List.length_eq_one_iff.1 (by have h9 := congrArg List.length HM1.out; simpa using h9)
 have hs1 : s1.l = r1 := by have h9 := HM1.out; simpa using h9
 obtain ⟨tk, tof, rfl, htk, htc⟩ := (((HR1.out.up BF.out)).s).elem RowA.cells_len (by omega) 0 (by simp)
 have htc0 := htc 0 _ rfl
 rw [Nat.zero_mul, Nat.add_zero] at htc0
 have hsl : s1.l.length = 2 := by rw [hs1]; exact hr1l
 simp only [List.getElem_cons_zero] at htc0
 rw [hsl] at htc0
 have HR1B := Lib.hid (HR1.out.up BF.out)
 clear htc hsl hs1
 by_cases hpq : pc = qc
 ·subst hpq
  have hd9 : (pc.toList == pc.toList) = true := by simp
  go_wp2_with fail
  go_ret
  exact ⟨rfl, HB.out⟩
 ·have hd9 := toList_bne hpq
  have hne := HTWO.out rfl rfl hpq
  have HNE := Lib.hid (show decide (([r1] : List (List ByteArray)) = [r2]) = false from decide_eq_false hne)
  have HW1 := Lib.hid hr1l
  clear hne hpq hr1l
  go_wp2_with fail
  refine (sameLists5_any [r1] [r2] 1 1 rfl rfl (by decide) (fun r hr => by obtain rfl := List.mem_singleton.1 hr; rw [HW1.out]; decide) [s1] ro2 HM1.out HM2.out false HNE.out _ a2 q1 q2 w11 HR1B.out HR2.out).mono ?_
  rintro e w12 ⟨rfl, hb9⟩
  clear bp_
  replace Hbp := Lib.hid (Hbp.out.up hb9)
  clear bq_
  replace Hbq := Lib.hid (Hbq.out.up hb9)
  replace Hbx := Lib.hid (Hbx.out.up hb9)
  replace Hby := Lib.hid (Hby.out.up hb9)
  replace BCA := hbu BCA hb9
  replace BF := hbu BF hb9
  replace HB := hbu HB hb9
  replace HZS := sz HZS hb9.size
  clear hb9
  have bp_ := Hbp.out.c2
  have bq_ := Hbq.out.c2
  go_wp2_with fail
  go_ret
  exact ⟨rfl, HB.out⟩
end
theorem sigmaOnce_any (k : Int) (o x y : ByteArray) (p q : PrfA) (w : World) (hp : p.At w) (hq : q.At w) :
  Calls Try.prog 11 #[.int .i64 k, .string o, .string x, .string y, p.val, q.val] w fun e w' => e = .returned (.bool true) ∧ Below w.heap.size w w' := by
 unfold PrfA.val
 by_cases hk : 1 ≤ k ∧ k ≤ 3
 ·obtain ⟨j, rfl⟩ : ∃ j : Nat, k = j := ⟨k.toNat, by omega⟩
  by_cases ho : isEl (grp j).q.m (grp j).size o = true
  ·by_cases h : o = textS 1 (grp j).size ∨ x = y
   ·exact once_one _ _ _ _ _ _ _ _ j (by omega) (by omega) o x y ho h w
   ·exact once_main _ _ _ _ _ _ _ _ j (by omega) (by omega) o x y ho (fun e => h (Or.inl e)) (fun e => h (Or.inr e)) p.l q.l rfl rfl w hp.s hq.s
  ·exact once_elem _ _ _ _ _ _ _ _ j (by omega) (by omega) o x y (by simpa using ho) w
 ·exact once_none _ _ _ _ _ _ _ _ k hk o x y w
theorem sigmaOnce_calls {H : Type} (enc : TypeId × Value → H) (W : World) (base : Nat) {v0 v1 v2 v3 v4 v5 : Value} {d0 d1 d2 d3 d4 d5 : DataW H} {p0 p1 p2 p3 p4 p5 : List MemPlace}
  (h0 : DataW.Trod enc Try.prog W 0 (fun _ => true) true 3 v0 d0 p0) (h1 : DataW.Trod enc Try.prog W 0 (fun _ => true) true 9 v1 d1 p1) (h2 : DataW.Trod enc Try.prog W 0 (fun _ => true) true 9 v2 d2 p2) (h3 : DataW.Trod enc Try.prog W 0 (fun _ => true) true 9 v3 d3 p3) (h4 : DataW.Trod enc Try.prog W 0 (fun _ => true) true 24 v4 d4 p4) (h5 : DataW.Trod enc Try.prog W 0 (fun _ => true) true 24 v5 d5 p5)
  (k0 : Value.okWide Try.prog W .any base 3 v0) (k1 : Value.okWide Try.prog W .any base 9 v1) (k2 : Value.okWide Try.prog W .any base 9 v2) (k3 : Value.okWide Try.prog W .any base 9 v3) (k4 : Value.okWide Try.prog W .any base 24 v4) (k5 : Value.okWide Try.prog W .any base 24 v5)
  (_lt0 : ∀ x ∈ p0, x.block < W.heap.size) (_lt1 : ∀ x ∈ p1, x.block < W.heap.size) (_lt2 : ∀ x ∈ p2, x.block < W.heap.size) (_lt3 : ∀ x ∈ p3, x.block < W.heap.size) (_lt4 : ∀ x ∈ p4, x.block < W.heap.size) (_lt5 : ∀ x ∈ p5, x.block < W.heap.size)
  (hsz : (DataW.weightsEach Try.prog ([3, 9, 9, 9, 24, 24] ++ Rows.sigmaOnceSpec.plain.varTypes Try.prog) ([d0, d1, d2, d3, d4, d5] ++ [])).all (· ≤ reachBytes) = true) :
  Calls Try.prog 11 #[v0, v1, v2, v3, v4, v5] W fun e w' => e = .returned (.bool true) ∧ Below W.heap.size W w' := by
 obtain ⟨k, rfl, _, _, _⟩ := open_int Try.underlying3 k0 h0
 obtain ⟨o, rfl, _⟩ := Go.ChangeMaps.open_string Try.underlying9 k1 h1
 obtain ⟨x, rfl, _⟩ := Go.ChangeMaps.open_string Try.underlying9 k2 h2
 obtain ⟨y, rfl, _⟩ := Go.ChangeMaps.open_string Try.underlying9 k3 h3
 obtain ⟨c4, rfl, _⟩ := okWide_struct Try.underlying24 k4
 obtain ⟨c5, rfl, _⟩ := okWide_struct Try.underlying24 k5
 obtain ⟨f4, h4⟩ := h4
 obtain ⟨f5, h5⟩ := h5
 obtain ⟨p, hp, hpa, _⟩ := open_prf f4 _ _ (Wt.arg hsz (j := 4) rfl rfl) h4
 obtain ⟨q, hq, hqa, _⟩ := open_prf f5 _ _ (Wt.arg hsz (j := 5) rfl rfl) h5
 rw [agg_of (show c4.toList = _ from hp), agg_of (show c5.toList = _ from hq)]
 exact sigmaOnce_any k o x y p q W hpa hqa
theorem sigmaOnce_lifted (os : Os) (started : os.Started) (H : Type) (enc : TypeId × Value → H) :
  ReturnsInHanded {} Try.checked os 11 .any (Rows.sigmaOnceSpec.pre6 enc Try.prog Try.f11 Rows.sigmaOnceRow.domain false) (Rows.sigmaOnceSpec.post enc Try.prog Try.f11 false true false false) := by
 refine returnsInHanded_of_change_sized (C := Try.checked) law_own started (by kernel_rfl) Try.func11
  (ChangeSpec.witness6 (enc := enc) (C := Try.checked) false ⟨#[], #[.int .i64 0, .string ⟨#[]⟩, .string ⟨#[]⟩, .string ⟨#[]⟩, .agg #[.string ⟨#[]⟩, .slice none 0 0], .agg #[.string ⟨#[]⟩, .slice none 0 0]], []⟩ 8 (by kernel_rfl) (by kernel_rfl) (by kernel_rfl) (by kernel_rfl)) ?_
 intro W base args ds gs before hval0 hW _ hsz0 _
 have hsz : (DataW.weightsEach Try.prog (Try.f11.params.toList ++ Rows.sigmaOnceSpec.plain.varTypes Try.prog) (ds ++ gs)).all (· ≤ reachBytes) = true := hsz0
 clear hsz0
 have hval : ∀ (j : Nat) t v, Try.f11.params[j]? = some t → args[j]? = some v → Value.okWide Try.prog W .any base t v := hval0
 have hW' := hW
 obtain ⟨p, q, hA0, hV, rfl, _, _⟩ := hW
 have hA : DataW.TrodAll enc Try.prog W 0 (fun _ => true) true Try.f11.params.toList args.toList ds p := hA0
 rw [Try.params11] at hA hval hsz
 obtain ⟨v0, vs0, d0, ds0, p0, q0, hargs, rfl, rfl, h0, r0⟩ := trodAll_cons hA
 obtain ⟨v1, vs1, d1, ds1, p1, q1, rfl, rfl, rfl, h1, r1⟩ := trodAll_cons r0
 obtain ⟨v2, vs2, d2, ds2, p2, q2, rfl, rfl, rfl, h2, r2⟩ := trodAll_cons r1
 obtain ⟨v3, vs3, d3, ds3, p3, q3, rfl, rfl, rfl, h3, r3⟩ := trodAll_cons r2
 obtain ⟨v4, vs4, d4, ds4, p4, q4, rfl, rfl, rfl, h4, r4⟩ := trodAll_cons r3
 obtain ⟨v5, vs5, d5, ds5, p5, q5, rfl, rfl, rfl, h5, r5⟩ := trodAll_cons r4
 obtain ⟨rfl, rfl, rfl⟩ := trodAll_nil r5
 obtain rfl : args = #[v0, v1, v2, v3, v4, v5] := by cases args; simp_all
 obtain ⟨rfl, rfl⟩ := trodVars_none hV
 have lt0 : ∀ x ∈ p0, x.block < W.heap.size := by obtain ⟨m, hm⟩ := h0; exact DataW.trod_lt m _ _ _ hm
 have lt1 : ∀ x ∈ p1, x.block < W.heap.size := by obtain ⟨m, hm⟩ := h1; exact DataW.trod_lt m _ _ _ hm
 have lt2 : ∀ x ∈ p2, x.block < W.heap.size := by obtain ⟨m, hm⟩ := h2; exact DataW.trod_lt m _ _ _ hm
 have lt3 : ∀ x ∈ p3, x.block < W.heap.size := by obtain ⟨m, hm⟩ := h3; exact DataW.trod_lt m _ _ _ hm
 have lt4 : ∀ x ∈ p4, x.block < W.heap.size := by obtain ⟨m, hm⟩ := h4; exact DataW.trod_lt m _ _ _ hm
 have lt5 : ∀ x ∈ p5, x.block < W.heap.size := by obtain ⟨m, hm⟩ := h5; exact DataW.trod_lt m _ _ _ hm
 clear hA0 hval0
 refine (sigmaOnce_calls enc W base h0 h1 h2 h3 h4 h5 (hval 0 3 v0 rfl rfl) (hval 1 9 v1 rfl rfl) (hval 2 9 v2 rfl rfl) (hval 3 9 v3 rfl rfl) (hval 4 24 v4 rfl rfl) (hval 5 24 v5 rfl rfl) lt0 lt1 lt2 lt3 lt4 lt5 hsz).mono fun e W' ⟨he, bel⟩ => ?_
 subst he
 exact ⟨_, rfl, _, _, _, [], _, [], hW', trodAll_mk1 (shut_bool Try.underlying4 _), (trodAll_cons_mk (Below.trod law_laidOut (by kernel_rfl) (of_decide_eq_true (by kernel_rfl)) h0 bel lt0) (trodAll_cons_mk (Below.trod law_laidOut (by kernel_rfl) (of_decide_eq_true (by kernel_rfl)) h1 bel lt1) (trodAll_cons_mk (Below.trod law_laidOut (by kernel_rfl) (of_decide_eq_true (by kernel_rfl)) h2 bel lt2) (trodAll_cons_mk (Below.trod law_laidOut (by kernel_rfl) (of_decide_eq_true (by kernel_rfl)) h3 bel lt3) (trodAll_cons_mk (Below.trod law_laidOut (by kernel_rfl) (of_decide_eq_true (by kernel_rfl)) h4 bel lt4) (trodAll_cons_mk (Below.trod law_laidOut (by kernel_rfl) (of_decide_eq_true (by kernel_rfl)) h5 bel lt5) trodAll_mk0)))))), rfl, bel.frame _, fun h => by cases h⟩
theorem sigmaOnce_holds : Rows.SigmaOnceSaid :=
 OpenClaim.holds_of_wide 11 Try.f11 rfl rfl rfl rfl rfl rfl rfl ⟨rfl, rfl, rfl, rfl, rfl⟩ rfl rfl rfl rfl rfl (by kernel_rfl) Try.func11 (by kernel_rfl)
  (of_decide_eq_true (by kernel_rfl)) (by unfold Func.isWrapper; first | (rw [if_pos (by decide +kernel)]; kernel_rfl) | (rw [if_neg (by decide +kernel)]; exact ⟨rfl, rfl⟩))
  (fun os started H enc _ => sigmaOnce_lifted os started H enc)
#print axioms sigmaOnce_holds
end Go.Proofs.Ytipgjookfdkciaa
