/- Texts of this seat, one behind the other: what SigmaVerifies leans on. No condition beyond those that each names. -/
import Derived.Test.YtdlnnkbigeiilaaGreatZSigmaVerifies6
import Derived.Outline

/- Holds, First, Back of the package sigma. Condition: the lists that memory can hold. -/
namespace Go.Proofs.YtdlnnkbigeiilaaGreat
open Go.RowKit

def claim0 : ClaimA := ⟨none, 0, [], none, 0, []⟩
def valF (G : GP) (l : List ClaimA) (xs : List ByteArray) (i t : Nat) : Nat := numOf ((l.getD i claim0).bases.getD t ⟨#[]⟩) ^ (numOf (xs.getD i ⟨#[]⟩) % G.q.m)
def valB (G : GP) (y : Nat) (l : List ClaimA) (xs : List ByteArray) (i t : Nat) : Nat := valF G l xs i t * numOf ((l.getD i claim0).images.getD t ⟨#[]⟩) ^ (y % G.q.m)
theorem valF_eq (G : GP) {rs : List ClaimR} {xs : List ByteArray} {i t : Nat} (hi : i < rs.length) (hx : i < xs.length) (ht : t < rs[i].k.bases.length) : valF G (rs.map ClaimR.k) xs i t = numOf rs[i].k.bases[t] ^ (numOf xs[i] % G.q.m) := by
  unfold valF
  simp [List.getD, hi, hx, ht]
theorem valB_eq (G : GP) (y : Nat) {rs : List ClaimR} {xs : List ByteArray} {i t : Nat} (hi : i < rs.length) (hx : i < xs.length) (ht : t < rs[i].k.bases.length) (hti : t < rs[i].k.images.length) : valB G y (rs.map ClaimR.k) xs i t = numOf rs[i].k.bases[t] ^ (numOf xs[i] % G.q.m) * numOf rs[i].k.images[t] ^ (y % G.q.m) := by
  unfold valB
  rw [valF_eq G hi hx ht]
  simp [List.getD, hi, hti]
def lens (l : List ClaimA) : List Nat := l.map fun k => k.bases.length

set_option maxRecDepth 100000 in
set_option maxHeartbeats 2000000 in
theorem firsts_any (G : GP) (ok : G.Ok) (gb : Nat) (rs : List ClaimR) (n : Nat) (hrs : rs.length = n) (hn : n ≤ 64) (hm8 : ∀ r ∈ rs, r.k.bases.length ≤ 8) (a : Option Addr) (c : Nat) (xs : List ByteArray) (hxs : xs.length = n) (ax : Option Addr) (cx : Nat) (w : World) (hG : GroupAt w gb G) (hS : SetAt G w a rs) (hX : Sl w w.heap.size ax (xs.flatMap (limC G.q.m))) :
    Calls Tryz.prog 67 #[.agg #[.pointer (some ⟨gb, 0, none⟩), .slice a n c], .slice ax n cx] w (RowsF (eachA G (valF G (rs.map ClaimR.k) xs) (lens (rs.map ClaimR.k)) n) w) := by
  have HRS := Lib.hid hrs
  have HXS := Lib.hid hxs
  have HM8 := Lib.hid hm8
  have HG := Lib.hid hG
  have OK := Lib.hid ok
  have HS := Lib.hid hS
  have HX := Lib.hid hX
  have HML := Lib.hid (show rs.map (fun r => r.k.bases.length) = lens (rs.map ClaimR.k) by unfold lens; rw [List.map_map]; rfl)
  have HLG := Lib.hid (show ∀ i (hi : i < rs.length), (lens (rs.map ClaimR.k)).getD i 0 = rs[i].k.bases.length from fun i hi => by unfold lens; simp [List.getD, hi])
  clear hrs hxs hm8 hG ok hS hX
  go_enter Tryz.func67, Tryz.ntmps67
  go_wp2_with fail
  obtain ⟨w1, hq1, hb9, hz9, Hbs, Hbx⟩ := new2 w 64 [.pointer (some ⟨gb, 0, none⟩), .slice a n c] 65 [.slice ax n cx]
  rw [hq1]
  clear hq1
  replace HG := Lib.hid (HG.out.up hb9)
  have HB := Lib.hid hb9
  have HZS := hz9
  clear hb9 hz9
  have bs_ := Hbs.out.c2
  have bx_ := Hbx.out.c1
  go_wp2_with fail
  have HB9 := Lib.hid HB.out.size
  refine (eachFirst G OK.out gb rs n HRS.out hn (lens (rs.map ClaimR.k)) HML.out HM8.out a c _ _ (valF G (rs.map ClaimR.k) xs) w1 HG.out (HS.out.up HB.out) (fun w9 hb9 i t hi ht => by rw [HLG.out i (by rw [HRS.out]; exact hi)] at ht; rw [valF_eq G (by rw [HRS.out]; exact hi) (by rw [HXS.out]; exact hi) ht]; exact first1_any G OK.out gb _ _ rs n a c xs ax cx i t (by rw [HRS.out]; exact hi) (by rw [HXS.out]; exact hi) ht w9 (HG.out.up hb9) (HS.out.up (below_up HB.out hb9)) (HX.out.up (below_up HB.out hb9)) HRS.out HXS.out (Hbs.out.up hb9) (Hbx.out.up hb9))).mono ?_
  rintro e w2 ⟨hb9, a9, c9, ro, rfl, hm9, hr9, hz9⟩
  clear bs_
  replace Hbs := Lib.hid (Hbs.out.up hb9)
  clear bx_
  replace Hbx := Lib.hid (Hbx.out.up hb9)
  replace HG := Lib.hid (HG.out.up hb9)
  replace HB := hbu HB hb9
  replace HZS := sz HZS hb9.size
  have HMR := Lib.hid hm9
  clear hm9
  have HRR := Lib.hid hr9
  clear hr9
  have HZR := Lib.hid hz9
  clear hz9
  clear hb9
  have bs_ := Hbs.out.c2
  have bx_ := Hbx.out.c1
  go_wp2_with fail
  go_ret
  exact ⟨HB.out, a9, c9, ro, rfl, HMR.out, HRR.out, fresh_le HZR.out HB9.out⟩

set_option maxRecDepth 100000 in
set_option maxHeartbeats 2000000 in
theorem back_any (G : GP) (ok : G.Ok) (gb y : Nat) (hy : y ≤ G.q.m) (rs : List ClaimR) (n : Nat) (hrs : rs.length = n) (hn : n ≤ 64) (hm8 : ∀ r ∈ rs, r.k.bases.length ≤ 8 ∧ r.k.images.length = r.k.bases.length) (a : Option Addr) (c : Nat) (xs : List ByteArray) (hxs : xs.length = n) (ax : Option Addr) (cx : Nat) (w : World) (hG : GroupAt w gb G) (hS : SetAt G w a rs) (hX : Sl w w.heap.size ax (xs.flatMap (limC G.q.m))) :
    Calls Tryz.prog 41 #[.agg #[.pointer (some ⟨gb, 0, none⟩), .slice a n c], scV G y, .slice ax n cx] w (RowsF (eachA G (valB G (G.q.m - y) (rs.map ClaimR.k) xs) (lens (rs.map ClaimR.k)) n) w) := by
  have HRS := Lib.hid hrs
  have HXS := Lib.hid hxs
  have HM8 := Lib.hid hm8
  have HG := Lib.hid hG
  have OK := Lib.hid ok
  have HS := Lib.hid hS
  have HX := Lib.hid hX
  have HY := Lib.hid hy
  have HML := Lib.hid (show rs.map (fun r => r.k.bases.length) = lens (rs.map ClaimR.k) by unfold lens; rw [List.map_map]; rfl)
  have HLG := Lib.hid (show ∀ i (hi : i < rs.length), (lens (rs.map ClaimR.k)).getD i 0 = rs[i].k.bases.length from fun i hi => by unfold lens; simp [List.getD, hi])
  clear hrs hxs hm8 hG ok hS hX hy
  unfold scV limbV
  go_enter Tryz.func41, Tryz.ntmps41
  go_wp2_with fail
  obtain ⟨w1, hq1, hb9, hz9, Hbs, Hbc, Hbx⟩ := new3 w 64 [.pointer (some ⟨gb, 0, none⟩), .slice a n c] 72 [.int .u64 (dig (mont G.q.m y) 0 : Int), .int .u64 (dig (mont G.q.m y) 1 : Int), .int .u64 (dig (mont G.q.m y) 2 : Int), .int .u64 (dig (mont G.q.m y) 3 : Int)] 65 [.slice ax n cx]
  rw [hq1]
  clear hq1
  replace HG := Lib.hid (HG.out.up hb9)
  have HB := Lib.hid hb9
  have HZS := hz9
  clear hb9 hz9
  have bs_ := Hbs.out.c2
  have bc_ := Hbc.out.c4
  have bx_ := Hbx.out.c1
  go_wp2_with fail
  refine (gNeg_any G OK.out gb y HY.out w1 HG.out).mono ?_
  rintro e w2 ⟨rfl, hb9⟩
  clear bs_
  replace Hbs := Lib.hid (Hbs.out.up hb9)
  clear bc_
  replace Hbc := Lib.hid (Hbc.out.up hb9)
  clear bx_
  replace Hbx := Lib.hid (Hbx.out.up hb9)
  replace HG := Lib.hid (HG.out.up hb9)
  replace HB := hbu HB hb9
  replace HZS := sz HZS hb9.size
  clear hb9
  have bs_ := Hbs.out.c2
  have bc_ := Hbc.out.c4
  have bx_ := Hbx.out.c1
  unfold scV limbV
  have o3_bs_ := bs_; clear bs_
  have o3_bc_ := bc_; clear bc_
  have o3_bx_ := bx_; clear bx_
  obtain ⟨w3, hq3, hb9, hz9, Hbm⟩ := new1 w2 72 [.int .u64 (dig (mont G.q.m (G.q.m - y)) 0 : Int), .int .u64 (dig (mont G.q.m (G.q.m - y)) 1 : Int), .int .u64 (dig (mont G.q.m (G.q.m - y)) 2 : Int), .int .u64 (dig (mont G.q.m (G.q.m - y)) 3 : Int)]
  replace Hbs := Lib.hid (Hbs.out.up hb9)
  replace Hbc := Lib.hid (Hbc.out.up hb9)
  replace Hbx := Lib.hid (Hbx.out.up hb9)
  replace HG := Lib.hid (HG.out.up hb9)
  replace HB := hbu HB hb9
  replace HZS := sz HZS hz9.out
  clear hb9 hz9
  have bs_ := Hbs.out.c2
  have bc_ := Hbc.out.c4
  have bx_ := Hbx.out.c1
  have bm_ := Hbm.out.c4
  go_wp2_with fail
  clear hq3 o3_bx_ o3_bc_ o3_bs_
  have HB9 := Lib.hid HB.out.size
  refine (eachBack G OK.out gb rs n HRS.out hn (lens (rs.map ClaimR.k)) HML.out (fun r hr => (HM8.out r hr).1) a c _ _ _ (valB G (G.q.m - y) (rs.map ClaimR.k) xs) w3 HG.out (HS.out.up HB.out) (fun w9 hb9 i t hi ht => by rw [HLG.out i (by rw [HRS.out]; exact hi)] at ht; have hti := (HM8.out _ (List.getElem_mem (show i < rs.length by rw [HRS.out]; exact hi))).2; rw [valB_eq G _ (by rw [HRS.out]; exact hi) (by rw [HXS.out]; exact hi) ht (by omega)]; exact back1_any G OK.out gb _ _ _ (G.q.m - y) rs n a c xs ax cx i t (by rw [HRS.out]; exact hi) (by rw [HXS.out]; exact hi) ht (by omega) w9 (HG.out.up hb9) (HS.out.up (below_up HB.out hb9)) (HX.out.up (below_up HB.out hb9)) HRS.out HXS.out (Hbs.out.up hb9) (Hbx.out.up hb9) (Hbm.out.up hb9))).mono ?_
  rintro e w4 ⟨hb9, a9, c9, ro, rfl, hm9, hr9, hz9⟩
  clear bs_
  replace Hbs := Lib.hid (Hbs.out.up hb9)
  clear bc_
  replace Hbc := Lib.hid (Hbc.out.up hb9)
  clear bx_
  replace Hbx := Lib.hid (Hbx.out.up hb9)
  clear bm_
  replace Hbm := Lib.hid (Hbm.out.up hb9)
  replace HG := Lib.hid (HG.out.up hb9)
  replace HB := hbu HB hb9
  replace HZS := sz HZS hb9.size
  have HMR := Lib.hid hm9
  clear hm9
  have HRR := Lib.hid hr9
  clear hr9
  have HZR := Lib.hid hz9
  clear hz9
  clear hb9
  have bs_ := Hbs.out.c2
  have bc_ := Hbc.out.c4
  have bx_ := Hbx.out.c1
  have bm_ := Hbm.out.c4
  go_wp2_with fail
  go_ret
  exact ⟨HB.out, a9, c9, ro, rfl, HMR.out, HRR.out, fresh_le HZR.out HB9.out⟩

end Go.Proofs.YtdlnnkbigeiilaaGreat

/- Holds, First, Back of the package sigma, of any kind. Condition: the lists that memory can hold. -/
namespace Go.Proofs.YtdlnnkbigeiilaaGreat
open Go.RowKit

def openK (k : Int) (l : List ClaimA) (xs : List ByteArray) : Nat := if 1 ≤ k ∧ k ≤ 3 then openE (grp k.toNat) l xs else 1
def holdK (k : Int) (l : List ClaimA) (xs : List ByteArray) : Bool := decide (openK k l xs = 0) && holdP (grp k.toNat) l xs
def firstK (k : Int) (l : List ClaimA) (xs : List ByteArray) : List (List ByteArray) := if openK k l xs = 0 then eachA (grp k.toNat) (valF (grp k.toNat) l xs) (lens l) l.length else []
def backE (k : Int) (l : List ClaimA) (ch : ByteArray) (xs : List ByteArray) : Nat := if openK k l xs ≠ 0 then openK k l xs else if isSc (grp k.toNat).q.m (grp k.toNat).size ch = true then 0 else 6
def backK (k : Int) (l : List ClaimA) (ch : ByteArray) (xs : List ByteArray) : List (List ByteArray) := if backE k l ch xs = 0 then eachA (grp k.toNat) (valB (grp k.toNat) ((grp k.toNat).q.m - numOf ch) l xs) (lens l) l.length else []
def RowsE (er : Int) (L : List (List ByteArray)) (w : World) (e : Ending) (w' : World) : Prop :=
  Below w.heap.size w w' ∧ ∃ a c ro, e = .returned (.tuple #[.slice a L.length c, .int .i64 er]) ∧ ro.map RowA.l = L ∧ RowsAt w' a ro ∧ (∀ r ∈ ro, r.Ok)
theorem rowsE_none (er : Int) {w w' : World} (h : Below w.heap.size w w') : RowsE er [] w (.returned (.tuple #[.slice none 0 0, .int .i64 er])) w' := ⟨h, none, 0, [], rfl, rfl, ⟨Or.inl rfl, fun _ h => by cases h⟩, fun _ h => by cases h⟩

theorem open_any (k : Int) (l : List ClaimA) (al : Option Addr) (cl : Nat) (xs : List ByteArray) (ax : Option Addr) (cx : Nat) (hn : xs.length ≤ 8796093022207) (w : World) (hC : ClaimsAt w al l) (hS : Sl w w.heap.size ax (xs.map Value.string)) :
    Calls Tryz.prog 36 #[.int .i64 k, .slice al l.length cl, .slice ax xs.length cx] w (OpenS (grp k.toNat) (openK k l xs) l xs w) := by
  unfold openK
  by_cases hk : 1 ≤ k ∧ k ≤ 3
  · rw [if_pos hk]
    obtain ⟨j, rfl⟩ : ∃ j : Nat, k = j := ⟨k.toNat, by omega⟩
    exact open_some j (by omega) (by omega) l al cl xs ax cx hn w hC hS
  · rw [if_neg hk]
    refine (open_none k hk l xs _ _ w).mono ?_
    rintro e w' ⟨hb, p, q, n9, c9, v, he, _⟩
    exact ⟨hb, p, q, n9, c9, v, he, fun h => by cases h⟩
theorem openK_ok {k : Int} {l : List ClaimA} {xs : List ByteArray} (h : openK k l xs = 0) : (1 ≤ k ∧ k ≤ 3) ∧ shapeE l = 0 ∧ l.all (cElems (grp k.toNat)) = true ∧ xs.length = l.length ∧ xs.all (isSc (grp k.toNat).q.m (grp k.toNat).size) = true := by
  unfold openK at h
  by_cases hk : 1 ≤ k ∧ k ≤ 3
  · rw [if_pos hk] at h
    unfold openE at h
    by_cases hw : wrongE (grp k.toNat) l = 0
    · rw [if_neg (by simpa using hw)] at h
      unfold scE at h
      by_cases hl : xs.length = l.length
      · rw [if_pos hl] at h
        by_cases ha : xs.all (isSc (grp k.toNat).q.m (grp k.toNat).size) = true
        · exact ⟨hk, (wrong_ok hw).1, (wrong_ok hw).2, hl, ha⟩
        · rw [if_neg ha] at h; cases h
      · rw [if_neg hl] at h; cases h
    · rw [if_pos hw] at h; exact absurd h hw
  · rw [if_neg hk] at h; cases h

set_option maxRecDepth 100000 in
set_option maxHeartbeats 2000000 in
theorem sHolds_any (k : Int) (l : List ClaimA) (al : Option Addr) (cl : Nat) (xs : List ByteArray) (ax : Option Addr) (cx : Nat) (hn : xs.length ≤ 8796093022207) (w : World) (hC : ClaimsAt w al l) (hS : Sl w w.heap.size ax (xs.map Value.string)) :
    Calls Tryz.prog 28 #[.int .i64 k, .slice al l.length cl, .slice ax xs.length cx] w (Gives (.bool (holdK k l xs)) w) := by
  have HC := Lib.hid hC
  have HS := Lib.hid hS
  obtain ⟨b, hb⟩ : ∃ b, holdK k l xs = b := ⟨_, rfl⟩
  rw [hb]
  have HO := Lib.hid (open_any k l al cl xs ax cx hn w hC hS)
  obtain ⟨z, hz⟩ : ∃ z, openK k l xs = z := ⟨_, rfl⟩
  rw [hz] at HO
  clear hC hS
  unfold holdK at hb
  rw [hz] at hb
  have HBB := Lib.hid hb
  clear hb
  unfold Gives
  by_cases h0 : z = 0
  · subst h0
    go_enter Tryz.func28, Tryz.ntmps28
    go_wp2_with fail
    refine (HO.out).mono ?_
    rintro e w1 ⟨hb9, pp, qa, qn, qc, v, rfl, hok⟩
    have HB := Lib.hid hb9
    have HZS := Lib.hid hb9.size
    have HOK := Lib.hid hok
    clear hok
    clear hb9
    obtain ⟨gb, rs, a, c, a', c', e1, e2, rfl, hrk, hg9, hs9, hp9, hx9⟩ := HOK.out rfl
    obtain rfl := Value.pointer.inj e1
    obtain ⟨rfl, rfl, rfl⟩ := Value.slice.inj e2
    obtain ⟨hk9, hsh, hel, hxl, hxa⟩ := openK_ok hz
    have HRK := Lib.hid hrk
    have HRL := Lib.hid (show rs.length = l.length by rw [← hrk, List.length_map])
    have HG := Lib.hid hg9
    have HST := Lib.hid hs9
    have HXX := Lib.hid hx9
    have HXL := Lib.hid hxl
    have HXA := Lib.hid hxa
    have hl64 := (shape_ok hsh).2.1
    have HSHP := Lib.hid (show ∀ r ∈ rs, r.k.bases.length ≤ 8 ∧ r.k.images.length = r.k.bases.length from fun r hr => by
      have h9 := (shape_ok hsh).2.2 r.k (by rw [← hrk]; exact List.mem_map.2 ⟨r, hr, rfl⟩)
      exact ⟨h9.2.1, h9.2.2⟩)
    have OK := Lib.hid (grp_ok k.toNat (by omega) (by omega))
    rw [show xs.length = rs.length by rw [HXL.out, HRL.out]]
    clear hrk hg9 hs9 hp9 hx9 hsh hel hxl hxa HOK
    have BS := Lib.hid (Below.refl w1.heap.size w1)
    obtain ⟨w2, hq2, hb9, hz9, Hbs⟩ := new1 w1 64 [.pointer (some ⟨gb, 0, none⟩), .slice qa rs.length qc]
    replace BS := hbu BS hb9
    replace HB := hbu HB hb9
    replace HZS := sz HZS hz9.out
    clear hb9 hz9
    have bs_ := Hbs.out.c2
    go_wp2_with fail
    clear hq2
    refine (holds_any (grp k.toNat) OK.out gb rs rs.length rfl qa qc xs (by rw [HXL.out, HRL.out]) a' c' (by rw [HRL.out]; exact hl64) HSHP.out b (by rw [HRK.out, ← HBB.out]; simp) w2 (HG.out.up BS.out) (HST.out.up BS.out) (HXX.out.up BS.out)).mono ?_
    rintro e w3 ⟨rfl, hb9⟩
    clear bs_
    replace Hbs := Lib.hid (Hbs.out.up hb9)
    replace BS := hbu BS hb9
    replace HB := hbu HB hb9
    replace HZS := sz HZS hb9.size
    clear hb9
    have bs_ := Hbs.out.c2
    go_wp2_with fail
    go_ret
    exact ⟨rfl, HB.out⟩
  · obtain rfl : b = false := by rw [← HBB.out, decide_eq_false h0]; rfl
    have hd : ((z : Int) == 0) = false := by simp; omega
    clear h0 hz
    go_enter Tryz.func28, Tryz.ntmps28
    go_wp2_with fail
    refine (HO.out).mono ?_
    rintro e w1 ⟨hb9, pp, qa, qn, qc, v, rfl, _⟩
    have HB := Lib.hid hb9
    have HZS := Lib.hid hb9.size
    clear hb9
    obtain ⟨w2, hq2, hb9, hz9, Hbs⟩ := new1 w1 64 [.pointer pp, .slice qa qn qc]
    replace HB := hbu HB hb9
    replace HZS := sz HZS hz9.out
    clear hb9 hz9
    have bs_ := Hbs.out.c2
    go_wp2_with fail
    clear hq2
    go_ret
    exact ⟨rfl, HB.out⟩

end Go.Proofs.YtdlnnkbigeiilaaGreat

/- The challenge that a talk is asked for: cyc's, the group's face, the document's. Condition: the bytes that memory can hold. -/
namespace Go.Proofs.YtdlnnkbigeiilaaGreat
open Go.RowKit Go.Lib

/-- What the talk is behind a challenge, and the challenge's number ahead of its remainder. -/
def chT (s label : ByteArray) : ByteArray := tagS askedB [tagS askedB [s, label], label]
def chN (s label : ByteArray) : Nat := numOf (tagS askB [s, label] ++ tagS askB [tagS askedB [s, label], label])
theorem chT_size (s label : ByteArray) : (chT s label).size = 32 := tagS_size _ _
theorem ask2_size (a b : List ByteArray) : (tagS askB a ++ tagS askB b).size = 64 := by rw [ByteArray.size_append, tagS_size, tagS_size]

theorem numSet {W : World} {b : Nat} {t : TypeId} {s : ByteArray} {a : Option Addr} {n : Nat} (h : NumAt W a n) (hb : Bx W b t [.string s]) (i : Nat) (v : Value) : NumAt (W.setCell ⟨b, i, none⟩ v) a n := by
  by_cases h0 : dl n = 0
  · exact Or.inl (by rw [List.map_eq_nil_iff]; exact List.eq_nil_of_length_eq_zero (by rw [digs_length]; exact h0))
  · refine Sl.kept h ((Kept.refl (fun q => q = b) W).set rfl i v) (fun x hx e => ?_)
    obtain ⟨b', off, rfl, hl, hc⟩ := NumAt.all h (by omega)
    have e1 : b' = b := by rw [← Option.some.inj hx] at e; exact e
    subst e1
    have h1 := hc 0 (by omega)
    rw [World.cell?, show W.heap[b']? = _ from hb] at h1
    rcases off with _ | off
    · simp at h1
    · simp at h1

set_option maxRecDepth 100000 in
set_option maxHeartbeats 2000000 in
theorem gChallenge_any (G : GP) (ok : G.Ok) (gb tb : Nat) (s label : ByteArray) (hs : s.size < 140737488355328) (hl : label.size < 140737488355328) (w : World) (hG : GroupAt w gb G) (hT : TalkAt w tb s) (hne : ¬ gb = tb) :
    Calls Tryz.prog 42 #[.pointer (some ⟨gb, 0, none⟩), .pointer (some ⟨tb, 0, none⟩), .string label] w fun e w' => e = .returned (scV G (chN s label)) ∧ TalkAt w' tb (chT s label) ∧ Kept (fun q => q = tb) w w' := by
  obtain ⟨s1, hs1⟩ : ∃ x, tagS askedB [s, label] = x := ⟨_, rfl⟩
  have hz1 : s1.size < 140737488355328 := by rw [← hs1, tagS_size]; decide
  have HA1 := Lib.hid (fun w h => Ask_any tb s label hs hl w h)
  have HA2 := Lib.hid (fun w h => Ask_any tb s1 label hz1 hl w h)
  unfold chN chT
  rw [hs1] at HA1 ⊢
  obtain ⟨s2, hs2⟩ : ∃ x, tagS askedB [s1, label] = x := ⟨_, rfl⟩
  rw [hs2] at HA2 ⊢
  obtain ⟨A, hA⟩ : ∃ x, tagS askB [s, label] = x := ⟨_, rfl⟩
  obtain ⟨D, hD⟩ : ∃ x, tagS askB [s1, label] = x := ⟨_, rfl⟩
  have hsz : (A ++ D).size ≤ maxLen := by rw [← hA, ← hD, ask2_size]; decide
  have hcc : ¬ (9223372036854775807 < A.size + D.size) := by rw [← hA, ← hD, tagS_size, tagS_size]; decide
  rw [hA] at HA1 ⊢
  rw [hD] at HA2 ⊢
  have HR := Lib.hid (fun w h => gReduce_any G ok gb (A ++ D) hsz w h)
  unfold scV limbV at HR ⊢
  generalize mont G.q.m (numOf (A ++ D)) = n at HR ⊢
  have HG := Lib.hid hG
  have HT := Lib.hid hT
  have HNE := Lib.hid hne
  have HLT := Lib.hid hT.lt
  clear hG hT hne ok hs hl hz1 hs1 hs2 hA hD hsz
  go_enter Tryz.func42, Tryz.ntmps42
  go_wp2_with fail
  obtain ⟨w1, hq1, hb9, hz9, Ho⟩ := new1 w 72 [.int .u64 0, .int .u64 0, .int .u64 0, .int .u64 0]
  rw [hq1]
  clear hq1
  have HB := Lib.hid hb9
  have HZS := hz9
  clear hb9 hz9
  have o_ := Ho.out.c4
  go_wp2_with fail
  refine (HA1.out _ (HT.out.up HB.out)).mono ?_
  rintro e wz ⟨rfl, ht, hk⟩
  have HG1 := Lib.hid ((HG.out.up HB.out).keptP hk HNE.out)
  have Ht := Lib.hid ht
  have HK := Lib.hid (((Kept.refl (fun q => q = tb) w).up HB.out).trans hk)
  have Ho1 := Lib.hid (Ho.out.keptP hk (show ¬ w.heap.size = tb by have := HLT.out; omega))
  clear HB HT HG Ho o_ ht hk HA1
  have Ho := Ho1
  clear Ho1
  go_wp2_with fail
  refine (HA2.out _ Ht.out).mono ?_
  rintro e wy ⟨rfl, ht, hk⟩
  have HG2 := Lib.hid (HG1.out.keptP hk HNE.out)
  have HK2 := Lib.hid (HK.out.trans hk)
  have Ho2 := Lib.hid (Ho.out.keptP hk (show ¬ w.heap.size = tb by have := HLT.out; omega))
  have HT2 := Lib.hid ht
  clear HG1 HK Ho Ht ht hk HA2
  go_wp2_with fail
  refine (HR.out _ HG2.out).mono ?_
  rintro e wx ⟨rfl, hb9⟩
  have Ht := Lib.hid (HT2.out.up hb9)
  have HK := Lib.hid (HK2.out.up hb9)
  have Ho := Lib.hid (Ho2.out.up hb9)
  have HZS : Hid (w.heap.size < wx.heap.size) := HK.out.size |> fun _ => Ho.out.lt
  clear HG2 HK2 Ho2 HT2 hb9 HR HNE
  have o_ := Ho.out.c4
  replace HZS := sz HZS HLT.out
  have f2_o := Ho.out.frozen
  have o2_o_ := o_; clear o_
  obtain ⟨w2, hq2, hg9, hz9, hx9⟩ := put4 Ho 0 (.int .u64 (dig n 0 : Int)) 1 (.int .u64 (dig n 1 : Int)) 2 (.int .u64 (dig n 2 : Int)) 3 (.int .u64 (dig n 3 : Int)) [.int .u64 (dig n 0 : Int), .int .u64 (dig n 1 : Int), .int .u64 (dig n 2 : Int), .int .u64 (dig n 3 : Int)] rfl
  replace Ht := Lib.hid (Ht.out.grown hg9.out (sne (by have g0 := HZS.out; omega)))
  replace HK := Lib.hid (Kept.grown HK.out hg9.out (fun q9 e9 => by obtain rfl := Option.some.inj e9; exact Or.inl (show w.heap.size ≤ w.heap.size by have g0 := HZS.out; omega)))
  replace HZS := sz HZS hz9.out
  replace Ho := hx9
  clear hx9 hg9 hz9
  have o_ := Ho.out.c4
  go_wp2_with fail
  clear hq2 o2_o_ f2_o
  simp [bodyPost, results, Tryz.results42, go_sem, o_]
  exact ⟨Ht.out, HK.out⟩

set_option maxRecDepth 100000 in
set_option maxHeartbeats 1000000 in
theorem withS_then (k : Nat) (h1 : 1 ≤ k) (h3 : k ≤ 3) (f : FuncId) (caps : Array Value) (v : Value) (er : Int) (T : World → Prop) (hent : Enters Tryz.prog f) (w : World)
    (hcall : ∀ w1, Below w.heap.size w w1 → GroupAt w1 w.heap.size (grp k) → Calls Tryz.prog f (#[.pointer (some ⟨w.heap.size, 0, none⟩)] ++ caps) w1 fun e w' => e = .returned (.tuple #[v, .int .i64 er]) ∧ T w') :
    Calls Tryz.prog 161 #[.int .i64 (k : Int), .func (.func f) #[] caps] w fun e w' => e = .returned (.tuple #[v, .int .i64 er]) ∧ T w' := by
  have HC := Lib.hid hcall
  clear hcall
  have hcf : ∀ (args : Array Value) (w : World), (callFunc f args).run Tryz.prog w = .ok (.enter f args) w := hent
  clear hent
  go_enter Tryz.func161, Tryz.ntmps161
  go_wp2_with fail
  refine (of_some k h1 h3 w).mono ?_
  rintro e w1 ⟨rfl, hg, hb⟩
  have HG := Lib.hid hg
  have HB := Lib.hid hb
  clear hg hb
  go_wp2_with fail
  refine (HC.out w1 HB.out HG.out).mono ?_
  rintro e w2 ⟨rfl, hb2⟩
  have HB2 := Lib.hid hb2
  clear hb2
  go_wp2_with fail
  go_ret2
  exact ⟨rfl, HB2.out⟩

theorem fixed1_then (gb b : Nat) (f : FuncId) (caps : Array Value) (s : ByteArray) (T : World → Prop) (hent : Enters Tryz.prog f) (w : World) (hc : w.cell? ⟨b, 0, none⟩ = some (.func (.func f) #[] caps))
    (hcall : Calls Tryz.prog f (#[.pointer (some ⟨gb, 0, none⟩)] ++ caps) w fun e w' => e = .returned (.string s) ∧ T w') :
    Calls Tryz.prog 162 #[.pointer (some ⟨gb, 0, none⟩), .pointer (some ⟨b, 0, none⟩)] w fun e w' => e = .returned (.tuple #[.string s, .int .i64 0]) ∧ T w' := by
  have HC := Lib.hid hcall
  clear hcall
  have hcf : ∀ (args : Array Value) (w : World), (callFunc f args).run Tryz.prog w = .ok (.enter f args) w := hent
  clear hent
  go_enter Tryz.func162, Tryz.ntmps162
  go_wp2_with fail
  refine HC.out.mono ?_
  rintro e w2 ⟨rfl, hb2⟩
  have HB2 := Lib.hid hb2
  clear hb2 hc
  go_wp2_with fail
  go_ret2
  exact ⟨rfl, HB2.out⟩

set_option maxRecDepth 100000 in
set_option maxHeartbeats 1000000 in
theorem fixed_then (k : Nat) (h1 : 1 ≤ k) (h3 : k ≤ 3) (f : FuncId) (caps : Array Value) (s : ByteArray) (T : World → Prop) (hent : Enters Tryz.prog f) (w : World)
    (hcall : ∀ w1 gb, Below w.heap.size w w1 → w.heap.size ≤ gb → GroupAt w1 gb (grp k) → Calls Tryz.prog f (#[.pointer (some ⟨gb, 0, none⟩)] ++ caps) w1 fun e w' => e = .returned (.string s) ∧ T w') :
    Calls Tryz.prog 135 #[.int .i64 (k : Int), .func (.func f) #[] caps] w fun e w' => e = .returned (.tuple #[.string s, .int .i64 0]) ∧ T w' := by
  have HC := Lib.hid hcall
  have HE := Lib.hid hent
  clear hcall hent
  go_enter Tryz.func135, Tryz.ntmps135
  go_wp2_with fail
  obtain ⟨W0, hW0, hb0, hs0, hz0⟩ := new1 w 182 [.func (.func f) #[] caps]
  rw [hW0]
  clear hW0
  have HB0 := Lib.hid hb0
  clear hb0
  refine (withS_then k h1 h3 162 #[.pointer (some ⟨w.heap.size, 0, none⟩)] (.string s) 0 T (enters_of Tryz.func162 (by kernel_rfl) rfl) W0 (fun w1 hb hg => ?_)).mono ?_
  · exact fixed1_then _ _ f caps s T HE.out w1 ((hz0.out.up hb).cell (i := 0) rfl) (HC.out w1 _ (below_up HB0.out hb) (by have := hs0.out; omega) hg)
  · rintro e w2 ⟨rfl, hb2⟩
    have HB2 := Lib.hid hb2
    clear hb2
    go_wp2_with fail
    go_ret2
    exact ⟨rfl, HB2.out⟩

set_option maxRecDepth 100000 in
set_option maxHeartbeats 2000000 in
theorem rChallenge_any (gz q : Nat) (pv : Value) (hq : 0 < q) (aq : Option Addr) (cq : Nat) (s label : ByteArray) (hs : s.size < 140737488355328) (hl : label.size < 140737488355328) (w : World) (hQ : NumAt w aq q) :
    Calls Tryz.prog 45 #[.agg #[.int .i64 (gz : Int), .slice aq (dl q) cq, pv], .agg #[.string s], .string label] w fun e w' => ∃ a c, e = .returned (.tuple #[.slice a (dl (chN s label % q)) c, .agg #[.string (chT s label)]]) ∧ NumAt w' a (chN s label % q) ∧ Below w.heap.size w w' := by
  obtain ⟨s1, hs1⟩ : ∃ x, tagS askedB [s, label] = x := ⟨_, rfl⟩
  have hz1 : s1.size < 140737488355328 := by rw [← hs1, tagS_size]; decide
  have HA1 := Lib.hid (fun w => rAsk_any s label hs hl w)
  have HA2 := Lib.hid (fun w => rAsk_any s1 label hz1 hl w)
  unfold chN chT
  rw [hs1] at HA1 ⊢
  obtain ⟨s2, hs2⟩ : ∃ x, tagS askedB [s1, label] = x := ⟨_, rfl⟩
  rw [hs2] at HA2 ⊢
  obtain ⟨A, hA⟩ : ∃ x, tagS askB [s, label] = x := ⟨_, rfl⟩
  obtain ⟨D, hD⟩ : ∃ x, tagS askB [s1, label] = x := ⟨_, rfl⟩
  have hsz : (A ++ D).size ≤ 1048576 := by rw [← hA, ← hD, ask2_size]; decide
  have hcc : ¬ (9223372036854775807 < A.size + D.size) := by rw [← hA, ← hD, tagS_size, tagS_size]; decide
  have hdl : dl (numOf (A ++ D)) ≤ 1048576 := by
    refine Nat.le_trans (dl_of_lt _ 32 ?_) (by decide)
    have h := numL_lt (A ++ D).data.toList
    have e : (A ++ D).data.toList.length = 64 := by show (A ++ D).size = 64; rw [← hA, ← hD, ask2_size]
    rw [e] at h
    exact h
  rw [hA] at HA1 ⊢
  rw [hD] at HA2 ⊢
  have HRD := Lib.hid (fun w => refRead_any (A ++ D) hsz w)
  obtain ⟨n, hn⟩ : ∃ x, numOf (A ++ D) = x := ⟨_, rfl⟩
  rw [hn] at HRD hdl ⊢
  have HMD := Lib.hid (fun aa am ca cm w h1 h2 => refMod_any n q aa am ca cm hdl hq w h1 h2)
  have HQ := Lib.hid hQ
  clear hQ hq hs hl hz1 hs1 hs2 hA hD hsz hdl hn
  go_enter Tryz.func45, Tryz.ntmps45
  go_wp2_with fail
  obtain ⟨w1, hq1, hb9, hz9, Hbg, Hbt, Ho⟩ := new3 w 86 [.int .i64 (gz : Int), .slice aq (dl q) cq, pv] 89 [.string s] 89 [.string ⟨#[]⟩]
  rw [hq1]
  clear hq1
  have HB := Lib.hid hb9
  have HZS := hz9
  clear hb9 hz9
  have bg_ := Hbg.out.c3
  have bt_ := Hbt.out.c1
  have o_ := Ho.out.c1
  go_wp2_with fail
  refine (HA1.out w1).mono ?_
  rintro e w2 ⟨rfl, hb9⟩
  clear bg_
  replace Hbg := Lib.hid (Hbg.out.up hb9)
  clear bt_
  replace Hbt := Lib.hid (Hbt.out.up hb9)
  clear o_
  replace Ho := Lib.hid (Ho.out.up hb9)
  replace HB := hbu HB hb9
  replace HZS := sz HZS hb9.size
  clear hb9
  have bg_ := Hbg.out.c3
  have bt_ := Hbt.out.c1
  have o_ := Ho.out.c1
  have f3_bt := Hbt.out.frozen
  have o3_bg_ := bg_; clear bg_
  have o3_bt_ := bt_; clear bt_
  have o3_o_ := o_; clear o_
  obtain ⟨w3, hq3, hg9, hz9, hx9⟩ := put1 Hbt 0 (.string s1) [.string s1] rfl
  replace Hbg := Lib.hid (Hbg.out.grown hg9.out (sne (by have g0 := HZS.out; omega)))
  replace Ho := Lib.hid (Ho.out.grown hg9.out (sne (by have g0 := HZS.out; omega)))
  replace HB := hbg HB hg9 (by have g0 := HZS.out; omega)
  replace HZS := sz HZS hz9.out
  replace Hbt := hx9
  clear hx9 hg9 hz9
  have bg_ := Hbg.out.c3
  have bt_ := Hbt.out.c1
  have o_ := Ho.out.c1
  go_wp2_with fail
  clear hq3 o3_o_ o3_bt_ o3_bg_ f3_bt
  refine (HA2.out w3).mono ?_
  rintro e w4 ⟨rfl, hb9⟩
  clear bg_
  replace Hbg := Lib.hid (Hbg.out.up hb9)
  clear bt_
  replace Hbt := Lib.hid (Hbt.out.up hb9)
  clear o_
  replace Ho := Lib.hid (Ho.out.up hb9)
  replace HB := hbu HB hb9
  replace HZS := sz HZS hb9.size
  clear hb9
  have bg_ := Hbg.out.c3
  have bt_ := Hbt.out.c1
  have o_ := Ho.out.c1
  have f5_bt := Hbt.out.frozen
  have o5_bg_ := bg_; clear bg_
  have o5_bt_ := bt_; clear bt_
  have o5_o_ := o_; clear o_
  obtain ⟨w5, hq5, hg9, hz9, hx9⟩ := put1 Hbt 0 (.string s2) [.string s2] rfl
  replace Hbg := Lib.hid (Hbg.out.grown hg9.out (sne (by have g0 := HZS.out; omega)))
  replace Ho := Lib.hid (Ho.out.grown hg9.out (sne (by have g0 := HZS.out; omega)))
  replace HB := hbg HB hg9 (by have g0 := HZS.out; omega)
  replace HZS := sz HZS hz9.out
  replace Hbt := hx9
  clear hx9 hg9 hz9
  have bg_ := Hbg.out.c3
  have bt_ := Hbt.out.c1
  have o_ := Ho.out.c1
  go_wp2_with fail
  clear hq5 o5_o_ o5_bt_ o5_bg_ f5_bt
  have HT := Lib.hid (show Below w5.heap.size w5 w5.drew from (Below.refl _ _).drew)
  have hl_bg := Hbg.out.lt
  have hl_bt := Hbt.out.lt
  refine wp_region_tree (fun wq9 => ∃ E : But w5 (some (w.heap.size + 2)), wq9 = E.w) ((.qs [0, 1, 2, 4, 5, 7] (.a 3 (.a 6 (.qs [8] (.a 9 .done)))))) (by kernel_rfl) (by kernel_rfl) (fun _ _ d _ _ h => by cases d <;> exact h) ⟨⟨_, ((below_grown HT.out).but _)⟩, rfl⟩ ?_
  have hov_bg := fun (E : But w5 (some (w.heap.size + 2))) o => E.cell (b := w.heap.size) o hl_bg (by intro e9; have a0 := Option.some.inj e9; have g0 := HZS.out; omega)
  have hov_bt := fun (E : But w5 (some (w.heap.size + 2))) o => E.cell (b := w.heap.size + 1) o hl_bt (by intro e9; have a0 := Option.some.inj e9; have g0 := HZS.out; omega)
  simp only [Tree.qs]
  repeat (refine tree_q rfl rfl ?_; go_big_quiet_step (fail); refine wpQuiet_nil ?_)
  refine tree_a rfl (fun K hK => ?_)
  go_simp
  refine (HRD.out _).mono ?_
  rintro e w6 ⟨a4, c4, rfl, hn9, hb9⟩
  replace HT := Lib.hid (below_up HT.out hb9)
  replace HZS := sz HZS (show w5.heap.size ≤ w6.heap.size from HT.out.size)
  clear hb9
  have HN4 := Lib.hid hn9
  clear hn9
  refine hK _ _ ⟨⟨⟨w6, ((below_grown HT.out).but _)⟩, rfl⟩, ?_⟩
  clear hK K
  repeat (refine tree_q rfl rfl ?_; go_big_quiet_step (fail); refine wpQuiet_nil ?_)
  refine tree_a rfl (fun K hK => ?_)
  go_simp
  refine (HMD.out _ _ _ _ _ HN4.out (HQ.out.up (below_up HB.out HT.out))).mono ?_
  rintro e w7 ⟨a5, c5, rfl, hn9, hb9⟩
  replace HN4 := Lib.hid (HN4.out.up hb9)
  replace HT := Lib.hid (below_up HT.out hb9)
  replace HZS := sz HZS (show w5.heap.size ≤ w7.heap.size from HT.out.size)
  clear hb9
  have HN5 := Lib.hid hn9
  clear hn9
  refine hK _ _ ⟨⟨⟨w7, ((below_grown HT.out).but _)⟩, rfl⟩, ?_⟩
  clear hK K
  repeat (refine tree_q rfl rfl ?_; go_big_quiet_step (fail); refine wpQuiet_nil ?_)
  clear hov_bg hl_bg hov_bt hl_bt
  refine tree_a rfl (fun K hK => ?_)
  clear bg_
  replace Hbg := Lib.hid (Hbg.out.up HT.out)
  clear bt_
  replace Hbt := Lib.hid (Hbt.out.up HT.out)
  clear o_
  replace Ho := Lib.hid (Ho.out.up HT.out)
  replace HB := hbu HB HT.out
  replace HZS := sz HZS HT.out.size
  have bg_ := Hbg.out.c3
  have bt_ := Hbt.out.c1
  have o_ := Ho.out.c1
  replace HN5 := Lib.hid (numSet HN5.out Ho.out 0 (.string s2))
  clear HN4
  have f8_o := Ho.out.frozen
  have o8_bg_ := bg_; clear bg_
  have o8_bt_ := bt_; clear bt_
  have o8_o_ := o_; clear o_
  obtain ⟨w8, hq8, hg9, hz9, hx9⟩ := put1 Ho 0 (.string s2) [.string s2] rfl
  replace Hbg := Lib.hid (Hbg.out.grown hg9.out (sne (by have g0 := HZS.out; omega)))
  replace Hbt := Lib.hid (Hbt.out.grown hg9.out (sne (by have g0 := HZS.out; omega)))
  replace HB := hbg HB hg9 (by have g0 := HZS.out; omega)
  replace HZS := sz HZS hz9.out
  replace Ho := hx9
  have HGR := Lib.hid (((below_grown HT.out).but _).trans hg9.out)
  clear hx9 hg9 hz9
  have bg_ := Hbg.out.c3
  have bt_ := Hbt.out.c1
  have o_ := Ho.out.c1
  rw [hq8] at HN5
  clear HT
  go_simp
  try rw [hq8]
  refine hK _ _ ⟨⟨⟨w8, HGR.out⟩, rfl⟩, ?_⟩
  clear hK K HGR
  clear hq8 o8_o_ o8_bt_ o8_bg_ f8_o
  repeat (refine tree_q rfl rfl ?_; go_big_quiet_step (fail); refine wpQuiet_nil ?_)
  refine tree_end ?_
  go_wp2_with fail
  simp [bodyPost, results, Tryz.results45, go_sem, o_]
  exact ⟨HN5.out, HB.out⟩
end Go.Proofs.YtdlnnkbigeiilaaGreat

/- Verify of the package sigma. Condition: the sizes and rooms of what came in. -/
namespace Go.Proofs.YtdlnnkbigeiilaaGreat
open Go.RowKit

theorem kept_grown {b : Nat} {W w : World} (h : Kept (fun q => q = b) W w) : W.grownBy w (some b) :=
  ⟨h.os, h.tape, h.output, h.size, fun q hq hne => h.block q hq (fun e => hne (by rw [e]))⟩
theorem grp_kind (k : Nat) (h1 : 1 ≤ k) (h3 : k ≤ 3) : (grp k).kind = k := by
  obtain rfl | rfl | rfl : k = 1 ∨ k = 2 ∨ k = 3 := by omega
  all_goals rfl
theorem eachA_small {G : GP} {val : Nat → Nat → Nat} {ms : List Nat} {n : Nat} (hs : G.size ≤ 32) (h8 : ∀ i, ms.getD i 0 ≤ 8) {ro : List RowA} (hm : ro.map RowA.l = eachA G val ms n) : ∀ r ∈ ro, r.l.length ≤ 8 ∧ ∀ x ∈ r.l, x.size ≤ 32 := by
  intro r hr
  have h1 : r.l ∈ ro.map RowA.l := List.mem_map.2 ⟨r, hr, rfl⟩
  rw [hm] at h1
  unfold eachA at h1
  obtain ⟨i, _, hi⟩ := List.mem_map.1 h1
  rw [← hi]
  refine ⟨by rw [eachL_len]; exact h8 i, fun x hx => ?_⟩
  unfold eachL at hx
  obtain ⟨t, _, rfl⟩ := List.mem_map.1 hx
  rw [textS_size]
  exact hs
theorem lens_small {l : List ClaimA} (h : ∀ c ∈ l, c.bases.length ≤ 8) (i : Nat) : (lens l).getD i 0 ≤ 8 := by
  unfold lens
  by_cases hi : i < l.length
  · rw [List.getD_eq_getElem?_getD, List.getElem?_map, List.getElem?_eq_getElem hi]
    exact h _ (List.getElem_mem hi)
  · rw [List.getD_eq_getElem?_getD, List.getElem?_map, List.getElem?_eq_none (by omega)]
    exact Nat.zero_le _
/-- What the talk of a proof is when the challenge is asked for. -/
def verT (k : Int) (label : ByteArray) (l : List ClaimA) (rows : List (List ByteArray)) : ByteArray := sayFi (sayCl (beginT claimsB label k) l) rows
def verR (k : Int) (l : List ClaimA) (ch : ByteArray) (xs : List ByteArray) : List (List ByteArray) := eachA (grp k.toNat) (valB (grp k.toNat) ((grp k.toNat).q.m - numOf ch) l xs) (lens l) l.length
def verK (k : Int) (label : ByteArray) (l : List ClaimA) (ch : ByteArray) (xs : List ByteArray) : Bool :=
  decide (openK k l xs = 0) && (isSc (grp k.toNat).q.m (grp k.toNat).size ch && decide (mont (grp k.toNat).q.m (chN (verT k label l (verR k l ch xs)) challengeB) = mont (grp k.toNat).q.m (numOf ch)))

set_option maxRecDepth 100000 in
set_option maxHeartbeats 4000000 in
theorem sVerify_any (k : Int) (label : ByteArray) (hlb : label.size < 140737488355328) (l : List ClaimA) (al : Option Addr) (cl : Nat) (ch : ByteArray) (xs : List ByteArray) (ax : Option Addr) (cx : Nat) (hn : xs.length ≤ 8796093022207) (hcap : ∀ c ∈ l, CapOk c) (w : World) (hC : ClaimsAt w al l) (hS : Sl w w.heap.size ax (xs.map Value.string)) :
    Calls Tryz.prog 10 #[.int .i64 k, .string label, .slice al l.length cl, .agg #[.string ch, .slice ax xs.length cx]] w fun e w' => e = .returned (.bool (verK k label l ch xs)) ∧ Below w.heap.size w w' := by
  have HCAP := Lib.hid hcap
  have HO := Lib.hid (fun w1 (hb : Below w.heap.size w w1) => open_any k l al cl xs ax cx hn w1 (hC.up hb) (hS.up hb))
  obtain ⟨V, hV⟩ : ∃ b, verK k label l ch xs = b := ⟨_, rfl⟩
  rw [hV]
  obtain ⟨z, hz⟩ : ∃ z, openK k l xs = z := ⟨_, rfl⟩
  obtain ⟨bc, hbc⟩ : ∃ b, isSc (grp k.toNat).q.m (grp k.toNat).size ch = b := ⟨_, rfl⟩
  have HV := Lib.hid (show V = (decide (z = 0) && (bc && decide (mont (grp k.toNat).q.m (chN (verT k label l (verR k l ch xs)) challengeB) = mont (grp k.toNat).q.m (numOf ch)))) by rw [← hV]; unfold verK; rw [hz, hbc])
  rw [hz] at HO
  have HBC := Lib.hid hbc
  clear hC hS hbc hV hcap
  by_cases h0 : z = 0
  · subst h0
    unfold verT at HV
    have HF1 := Lib.hid (fun (h : 1 ≤ k ∧ k ≤ 3) gb w hG => sbegin_any (grp k.toNat) gb claimsB label (by decide) hlb (by rw [grp_kind k.toNat (by omega) (by omega)]; omega) w hG)
    have HF2 := Lib.hid (fun gv tb s rs hz' h64 sh al cl w0 w hb htb hT hS hC => say_any (grp k.toNat) gv tb s rs rs.length rfl h64 hz' sh al cl w0 w hb htb hT hS hC)
    have HF3 := Lib.hid (fun tb s ro hz' h64 sh hok al cl w hT hC ha hr => said_any tb s ro ro.length rfl h64 hz' sh hok al cl w hT hC ha hr)
    have HF4 := Lib.hid (fun ok gb tb s hs w hG hT hne => gChallenge_any (grp k.toNat) ok gb tb s challengeB hs (by decide) w hG hT hne)
    have HZ1 := Lib.hid (show ∀ k, (beginT claimsB label k).size = 32 from fun k => say1_size _ _ _)
    have HZ2 := Lib.hid sayCl_size
    have HZ3 := Lib.hid sayFi_size
    generalize beginT claimsB label = BT at HF1 HZ1 HV
    generalize sayCl = SC at HF2 HZ2 HV
    generalize sayFi = SF at HF3 HZ3 HV
    generalize chN = CN at HF4 HV
    generalize chT = CT at HF4
    go_enter Tryz.func10, Tryz.ntmps10
    go_wp2_with fail
    obtain ⟨w1, hq1, hb9, hz9, Hbp⟩ := new1 w 25 [.string ch, .slice ax xs.length cx]
    rw [hq1]
    clear hq1
    have HB := Lib.hid hb9
    have HZS := hz9
    clear hb9 hz9
    have bp_ := Hbp.out.c2
    go_wp2_with fail
    refine (HO.out _ HB.out).mono ?_
    rintro e w2 ⟨hb9, pp, qa, qn, qc, v, rfl, hok⟩
    clear bp_
    replace Hbp := Lib.hid (Hbp.out.up hb9)
    replace HB := hbu HB hb9
    replace HZS := sz HZS hb9.size
    have HOK := Lib.hid hok
    clear hok
    clear hb9
    have bp_ := Hbp.out.c2
    obtain ⟨gb, rs, a, c, a', c', e1, e2, rfl, hrk, hg9, hs9, hp9, hx9⟩ := HOK.out rfl
    obtain rfl := Value.pointer.inj e1
    obtain ⟨rfl, rfl, rfl⟩ := Value.slice.inj e2
    obtain ⟨hk9, hsh, hel, hxl, hxa⟩ := openK_ok hz
    have HRK := Lib.hid hrk
    have HRL := Lib.hid (show rs.length = l.length by rw [← hrk, List.length_map])
    have HG := Lib.hid hg9
    have HST := Lib.hid hs9
    have HXX := Lib.hid hx9
    have HSP := Lib.hid hp9
    have HXL := Lib.hid hxl
    have HK9 := Lib.hid hk9
    have hl64 := (shape_ok hsh).2.1
    have HSHP := Lib.hid (show ∀ r ∈ rs, r.k.bases.length ≤ 8 ∧ r.k.images.length = r.k.bases.length from fun r hr => by
      have h9 := (shape_ok hsh).2.2 r.k (by rw [← hrk]; exact List.mem_map.2 ⟨r, hr, rfl⟩)
      exact ⟨h9.2.1, h9.2.2⟩)
    have OK := Lib.hid (grp_ok k.toNat (by omega) (by omega))
    have HSY := Lib.hid (show ∀ r ∈ rs, SayOk r.k ∧ CapOk r.k from fun r hr => by
      have hm : r.k ∈ l := by rw [← hrk]; exact List.mem_map.2 ⟨r, hr, rfl⟩
      have h9 := (shape_ok hsh).2.2 r.k hm
      have h8 := List.all_eq_true.1 hel r.k hm
      unfold cElems at h8
      rw [Bool.and_eq_true] at h8
      have hs := OK.out.size_le
      have hsm : ∀ s, isEl (grp k.toNat).q.m (grp k.toNat).size s = true → s.size ≤ 32 := fun s h => by
        unfold isEl at h
        simp only [Bool.and_eq_true, decide_eq_true_eq, beq_iff_eq] at h
        omega
      exact ⟨⟨h9.2.1, by omega, fun x hx => hsm x (List.all_eq_true.1 h8.1 x hx), fun x hx => hsm x (List.all_eq_true.1 h8.2 x hx)⟩, HCAP.out _ hm⟩)
    rw [show xs.length = rs.length by rw [HXL.out, HRL.out]]
    clear hrk hg9 hs9 hp9 hx9 hsh hel hxl hxa hk9 HOK
    have BS := Lib.hid (Below.refl w2.heap.size w2)
    have o3_bp_ := bp_; clear bp_
    obtain ⟨w3, hq3, hb9, hz9, Hbs⟩ := new1 w2 64 [.pointer (some ⟨gb, 0, none⟩), .slice qa rs.length qc]
    replace Hbp := Lib.hid (Hbp.out.up hb9)
    replace BS := hbu BS hb9
    replace HB := hbu HB hb9
    replace HZS := sz HZS hz9.out
    clear hb9 hz9
    have bp_ := Hbp.out.c2
    have bs_ := Hbs.out.c2
    go_wp2_with fail
    clear hq3 o3_bp_
    refine (gScalar_m (grp k.toNat) OK.out gb ch bc HBC.out w3 (HG.out.up BS.out)).mono ?_
    rintro e w4 ⟨x, rfl, hb9, hx9⟩
    clear bp_
    replace Hbp := Lib.hid (Hbp.out.up hb9)
    clear bs_
    replace Hbs := Lib.hid (Hbs.out.up hb9)
    replace BS := hbu BS hb9
    replace HB := hbu HB hb9
    replace HZS := sz HZS hb9.size
    have HX := Lib.hid hx9
    clear hx9
    clear hb9
    have bp_ := Hbp.out.c2
    have bs_ := Hbs.out.c2
    unfold limbV
    have o5_bp_ := bp_; clear bp_
    have o5_bs_ := bs_; clear bs_
    obtain ⟨w5, hq5, hb9, hz9, Hbx⟩ := new1 w4 72 [.int .u64 (dig (x) 0 : Int), .int .u64 (dig (x) 1 : Int), .int .u64 (dig (x) 2 : Int), .int .u64 (dig (x) 3 : Int)]
    replace Hbp := Lib.hid (Hbp.out.up hb9)
    replace Hbs := Lib.hid (Hbs.out.up hb9)
    replace BS := hbu BS hb9
    replace HB := hbu HB hb9
    replace HZS := sz HZS hz9.out
    clear hb9 hz9
    have bp_ := Hbp.out.c2
    have bs_ := Hbs.out.c2
    have bx_ := Hbx.out.c4
    cases bc
    · obtain rfl : V = false := HV.out
      go_wp2_with fail
      clear hq5 o5_bs_ o5_bp_
      go_ret
      exact ⟨rfl, HB.out⟩
    · obtain rfl : x = mont (grp k.toNat).q.m (numOf ch) := HX.out rfl
      go_wp2_with fail
      clear hq5 o5_bs_ o5_bp_
      have HST5 := Lib.hid (HST.out.up BS.out)
      have HSP5 := Lib.hid (fun r hr => (HSP.out r hr).up BS.out)
      have HGL := Lib.hid (Nat.lt_of_lt_of_le HG.out.lt BS.out.size)
      have HZW := Lib.hid HB.out.size
      have HZB := Lib.hid BS.out.size
      have HKK := Lib.hid (show ((grp k.toNat).kind : Int) = k by rw [grp_kind k.toNat (by have := HK9.out; omega) (by have := HK9.out; omega)]; have := HK9.out; omega)
      have BQ := Lib.hid (Below.refl w5.heap.size w5)
      refine (HF1.out HK9.out gb w5 (HG.out.up BS.out)).mono ?_
      rintro e wa ⟨tb, rfl, hge, ht, hb9⟩
      rw [HKK.out] at ht
      have HGE := Lib.hid (show w5.heap.size ≤ tb from hge)
      have Ht := Lib.hid (show Bx wa tb 192 [.string (BT k)] from ht)
      clear hge ht
      clear bp_
      replace Hbp := Lib.hid (Hbp.out.up hb9)
      clear bs_
      replace Hbs := Lib.hid (Hbs.out.up hb9)
      clear bx_
      replace Hbx := Lib.hid (Hbx.out.up hb9)
      replace BS := hbu BS hb9
      replace BQ := hbu BQ hb9
      replace HB := hbu HB hb9
      replace HZS := sz HZS hb9.size
      clear hb9
      have bp_ := Hbp.out.c2
      have bs_ := Hbs.out.c2
      have bx_ := Hbx.out.c4
      replace HZS := sz HZS HGE.out
      replace HZS := sz HZS HZW.out
      replace HZS := sz HZS HZB.out
      have t_ := Ht.out.c1
      go_wp2_with fail
      refine (HF2.out _ tb (BT k) rs (HZ1.out k) (by rw [HRL.out]; exact hl64) HSY.out qa qc w5 wa BQ.out HGE.out Ht.out HST5.out HSP5.out).mono ?_
      rintro e wb ⟨rfl, ht, hk⟩
      have HK1 := Lib.hid hk
      have Ht1 := Lib.hid (show Bx wb tb 192 [.string (SC (BT k) (rs.map ClaimR.k))] from ht)
      clear ht hk
      have hg9 := HK1.out
      clear bp_
      clear bs_
      clear bx_
      clear t_
      clear Ht
      replace Hbp := Lib.hid (Hbp.out.keptP hg9 (show ¬ (_ = tb) by have g0 := HZS.out; omega))
      replace Hbs := Lib.hid (Hbs.out.keptP hg9 (show ¬ (_ = tb) by have g0 := HZS.out; omega))
      replace Hbx := Lib.hid (Hbx.out.keptP hg9 (show ¬ (_ = tb) by have g0 := HZS.out; omega))
      replace BS := Lib.hid (Below.keptP BS.out hg9 (by have g0 := HZS.out; omega) (fun q9 h9 => (show w2.heap.size ≤ _ by subst h9; have g0 := HZS.out; omega)))
      replace BQ := Lib.hid (Below.keptP BQ.out hg9 (by have g0 := HZS.out; omega) (fun q9 h9 => (show w5.heap.size ≤ _ by subst h9; have g0 := HZS.out; omega)))
      replace HB := Lib.hid (Below.keptP HB.out hg9 (by have g0 := HZS.out; omega) (fun q9 h9 => (show w.heap.size ≤ _ by subst h9; have g0 := HZS.out; omega)))
      replace HZS := sz HZS (show wa.heap.size ≤ wb.heap.size from hg9.size)
      clear hg9
      have bp_ := Hbp.out.c2
      have bs_ := Hbs.out.c2
      have bx_ := Hbx.out.c4
      have Ht := Ht1
      clear Ht1
      have t_ := Ht.out.c1
      have HTL := Lib.hid Ht.out.lt
      replace HZS := sz HZS HTL.out
      go_wp2_with fail
      refine (back_any (grp k.toNat) OK.out gb (numOf ch) (isSc_le HBC.out) rs rs.length rfl (by rw [HRL.out]; exact hl64) HSHP.out qa qc xs (by rw [HXL.out, HRL.out]) a' c' wb (HG.out.up BS.out) (HST.out.up BS.out) (HXX.out.up BS.out)).mono ?_
      rintro e w6 ⟨hb9, a9, c9, ro, rfl, hm9, hr9, hz9⟩
      clear bp_
      replace Hbp := Lib.hid (Hbp.out.up hb9)
      clear bs_
      replace Hbs := Lib.hid (Hbs.out.up hb9)
      clear bx_
      replace Hbx := Lib.hid (Hbx.out.up hb9)
      clear t_
      replace Ht := Lib.hid (Ht.out.up hb9)
      replace BS := hbu BS hb9
      replace BQ := hbu BQ hb9
      replace HK1 := Lib.hid (Kept.up HK1.out hb9)
      replace HB := hbu HB hb9
      replace HZS := sz HZS hb9.size
      have HMR := Lib.hid hm9
      clear hm9
      have HRR := Lib.hid hr9
      clear hr9
      have HZR := Lib.hid hz9
      clear hz9
      clear hb9
      have bp_ := Hbp.out.c2
      have bs_ := Hbs.out.c2
      have bx_ := Hbx.out.c4
      have t_ := Ht.out.c1
      have HRO := Lib.hid (show ro.length = rs.length by have h9 := congrArg List.length HMR.out; rw [List.length_map, eachA_len] at h9; exact h9)
      rw [← HMR.out, List.length_map]
      go_wp2_with fail
      refine (HF3.out tb (SC (BT k) (rs.map ClaimR.k)) ro (HZ2.out _ _ (HZ1.out k)) (by rw [HRO.out, HRL.out]; exact hl64) (eachA_small OK.out.size_le (lens_small fun c hc => by obtain ⟨r, hr, rfl⟩ := List.mem_map.1 hc; exact (HSHP.out r hr).1) HMR.out) (fun r hr => (HZR.out.1 r hr).2) a9 c9 w6 Ht.out HRR.out (fun x hx e => by have h1 := HZR.out.2.1 x hx; have h2 := HTL.out; omega) (fun r hr x hx e => by have h1 := HZR.out.2.2 r hr x hx; have h2 := HTL.out; omega)).mono ?_
      rintro e wc ⟨rfl, ht, hk⟩
      have HK2 := Lib.hid hk
      have Ht1 := Lib.hid (show Bx wc tb 192 [.string (SF (SC (BT k) (rs.map ClaimR.k)) (ro.map RowA.l))] from ht)
      clear ht hk
      have hg9 := HK2.out
      clear bp_
      clear bs_
      clear bx_
      clear t_
      clear Ht
      replace Hbp := Lib.hid (Hbp.out.keptP hg9 (show ¬ (_ = tb) by have g0 := HZS.out; omega))
      replace Hbs := Lib.hid (Hbs.out.keptP hg9 (show ¬ (_ = tb) by have g0 := HZS.out; omega))
      replace Hbx := Lib.hid (Hbx.out.keptP hg9 (show ¬ (_ = tb) by have g0 := HZS.out; omega))
      replace BS := Lib.hid (Below.keptP BS.out hg9 (by have g0 := HZS.out; omega) (fun q9 h9 => (show w2.heap.size ≤ _ by subst h9; have g0 := HZS.out; omega)))
      replace BQ := Lib.hid (Below.keptP BQ.out hg9 (by have g0 := HZS.out; omega) (fun q9 h9 => (show w5.heap.size ≤ _ by subst h9; have g0 := HZS.out; omega)))
      replace HB := Lib.hid (Below.keptP HB.out hg9 (by have g0 := HZS.out; omega) (fun q9 h9 => (show w.heap.size ≤ _ by subst h9; have g0 := HZS.out; omega)))
      replace HZS := sz HZS (show w6.heap.size ≤ wc.heap.size from hg9.size)
      clear hg9
      have bp_ := Hbp.out.c2
      have bs_ := Hbs.out.c2
      have bx_ := Hbx.out.c4
      have Ht := Ht1
      clear Ht1
      have t_ := Ht.out.c1
      have HTS := Lib.hid (HZ3.out (ro.map RowA.l) _ (HZ2.out (rs.map ClaimR.k) _ (HZ1.out k)))
      have HVV := HV.out
      rw [show verR k l ch xs = ro.map RowA.l by rw [HMR.out, HRK.out, HRL.out]; rfl, ← HRK.out] at HVV
      generalize SF (SC (BT k) (rs.map ClaimR.k)) (ro.map RowA.l) = TT at *
      obtain ⟨be, hbe⟩ : ∃ b, decide (mont (grp k.toNat).q.m (CN TT challengeB) = mont (grp k.toNat).q.m (numOf ch)) = b := ⟨_, rfl⟩
      rw [hbe] at HVV
      have HEQ := Lib.hid fun W => binScal (w := W) (eqScal (mont (grp k.toNat).q.m (CN TT challengeB)) (mont (grp k.toNat).q.m (numOf ch)) (OK.out.q.mont _) (OK.out.q.mont _) W be hbe.symm)
      obtain rfl : V = be := by rw [HVV]; simp
      clear HVV hbe
      have HG9 := Lib.hid (HG.out.up BS.out)
      go_wp2_with fail
      have HT := Lib.hid (show Below wc.heap.size wc wc.drew from (Below.refl _ _).drew)
      have hl_bp := Hbp.out.lt
      have hl_bs := Hbs.out.lt
      have hl_bx := Hbx.out.lt
      refine wp_region_tree (fun wq9 => ∃ E : But wc (some (tb)), wq9 = E.w) ((.qs [0, 1, 2, 4] (.a 3 (.qs [5, 6] .done)))) (by kernel_rfl) (by kernel_rfl) (fun _ _ d _ _ h => by cases d <;> exact h) ⟨⟨_, ((below_grown HT.out).but _)⟩, rfl⟩ ?_
      have hov_bp := fun (E : But wc (some (tb))) o => E.cell (b := w.heap.size) o hl_bp (by intro e9; have a0 := Option.some.inj e9; have g0 := HZS.out; omega)
      have hov_bs := fun (E : But wc (some (tb))) o => E.cell (b := w2.heap.size) o hl_bs (by intro e9; have a0 := Option.some.inj e9; have g0 := HZS.out; omega)
      have hov_bx := fun (E : But wc (some (tb))) o => E.cell (b := w4.heap.size) o hl_bx (by intro e9; have a0 := Option.some.inj e9; have g0 := HZS.out; omega)
      simp only [Tree.qs]
      repeat (refine tree_q rfl rfl ?_; go_big_quiet_step (fail); refine wpQuiet_nil ?_)
      refine tree_a rfl (fun K hK => ?_)
      go_simp
      refine (HF4.out OK.out gb tb TT (by have := HTS.out; omega) _ (HG9.out.up HT.out) (Bx.up Ht.out HT.out) (show ¬ gb = tb by have h1 := HGL.out; have h2 := HGE.out; omega)).mono ?_
      rintro e wz ⟨rfl, ht, hk⟩
      have HBZ := Lib.hid (Below.keptP (below_up HB.out HT.out) hk (below_up HB.out HT.out).size (fun q hq => hq ▸ (show w.heap.size ≤ tb by have h1 := HZW.out; have h2 := HGE.out; omega)))
      refine hK _ _ ⟨⟨⟨wz, ((below_grown HT.out).but _).trans (kept_grown hk)⟩, rfl⟩, ?_⟩
      clear hK K ht hk
      refine tree_q rfl rfl ?_
      unfold scV limbV
      refine wpQuiet_bin rfl .eql _ _ 72 _ rfl _ _ (.bool V) rfl rfl (fun _ => guardScal _ _ _ _ _ _) (fun _ => HEQ.out _) ?_
      simp only [Act.put, List.setIfInBounds_toArray, List.set_cons_succ, List.set_cons_zero]
      refine wpQuiet_nil ?_
      refine tree_q rfl rfl ?_
      go_big_quiet_step (fail)
      refine wpQuiet_nil ?_
      refine tree_end ?_
      go_wp2_with fail
      go_ret
      exact ⟨rfl, HBZ.out⟩
  · obtain rfl : V = false := by rw [HV.out, decide_eq_false h0]; rfl
    have hd : ((z : Int) != 0) = true := by simp; omega
    clear h0 hz
    go_enter Tryz.func10, Tryz.ntmps10
    go_wp2_with fail
    obtain ⟨w1, hq1, hb9, hz9, Hbp⟩ := new1 w 25 [.string ch, .slice ax xs.length cx]
    rw [hq1]
    clear hq1
    have HB := Lib.hid hb9
    have HZS := hz9
    clear hb9 hz9
    have bp_ := Hbp.out.c2
    go_wp2_with fail
    refine (HO.out _ HB.out).mono ?_
    rintro e w2 ⟨hb9, pp, qa, qn, qc, v, rfl, _⟩
    clear bp_
    replace Hbp := Lib.hid (Hbp.out.up hb9)
    replace HB := hbu HB hb9
    replace HZS := sz HZS hb9.size
    clear hb9
    have bp_ := Hbp.out.c2
    have o3_bp_ := bp_; clear bp_
    obtain ⟨w3, hq3, hb9, hz9, Hbs⟩ := new1 w2 64 [.pointer pp, .slice qa qn qc]
    replace Hbp := Lib.hid (Hbp.out.up hb9)
    replace HB := hbu HB hb9
    replace HZS := sz HZS hz9.out
    clear hb9 hz9
    have bp_ := Hbp.out.c2
    have bs_ := Hbs.out.c2
    go_wp2_with fail
    clear hq3 o3_bp_
    go_ret
    exact ⟨rfl, HB.out⟩
end Go.Proofs.YtdlnnkbigeiilaaGreat

/- What is wrong with claims and scalars, as the document says it; powers; Extract. Condition: the lists that memory can hold. -/
namespace Go.Proofs.YtdlnnkbigeiilaaGreat
open Go.RowKit

section
variable {G : GP} {aq ap : Option Addr} {cq cp : Nat}

theorem rIsSc_b (ok : G.Ok) (s : ByteArray) (b : Bool) (hb : isSc G.q.m G.size s = b) (w : World) (hG : RG w G aq ap) :
    Calls Tryz.prog 58 #[.agg #[.int .i64 (G.size : Int), .slice aq (dl G.q.m) cq, .slice ap (dl G.p.m) cp], .string s] w (Gives (.bool b) w) := by
  subst hb
  exact rIsSc ok s w hG
theorem rIsEl_b (ok : G.Ok) (s : ByteArray) (b : Bool) (hb : isEl G.q.m G.size s = b) (w : World) (hG : RG w G aq ap) :
    Calls Tryz.prog 125 #[.agg #[.int .i64 (G.size : Int), .slice aq (dl G.q.m) cq, .slice ap (dl G.p.m) cp], .string s] w (Gives (.bool b) w) := by
  subst hb
  exact rIsEl ok s w hG

set_option maxRecDepth 100000 in
set_option maxHeartbeats 1000000 in
theorem rWrongSc (ok : G.Ok) (n : Nat) (l : List ByteArray) (al : Option Addr) (cl : Nat) (hlen : l.length ≤ 8796093022207) (w : World) (hG : RG w G aq ap) (hS : Sl w w.heap.size al (l.map Value.string)) :
    Calls Tryz.prog 59 #[.agg #[.int .i64 (G.size : Int), .slice aq (dl G.q.m) cq, .slice ap (dl G.p.m) cp], .int .i64 (n : Int), .slice al l.length cl] w (Gives (.int .i64 (scE G n l : Int)) w) := by
  have OK := Lib.hid ok
  have HG := Lib.hid hG
  have HS := Lib.hid hS
  clear ok hG hS
  obtain ⟨z, hz⟩ : ∃ z, scE G n l = z := ⟨_, rfl⟩
  have hzz : z = if l.length = n then if l.all (isSc G.q.m G.size) = true then 0 else 6 else 2 := hz.symm
  rw [hz]
  clear hz
  unfold Gives
  by_cases h1 : l.length = n
  · have hd : ((l.length : Int) != (n : Int)) = false := by simp; omega
    rw [if_pos h1] at hzz
    have HZZ := Lib.hid hzz
    clear hzz h1
    go_enter Tryz.func59, Tryz.ntmps59
    go_wp2_with fail
    obtain ⟨w1, hq1, hb9, hz9, Hbg⟩ := new1 w 86 [.int .i64 (G.size : Int), .slice aq (dl G.q.m) cq, .slice ap (dl G.p.m) cp]
    rw [hq1]
    clear hq1
    have HB := Lib.hid hb9
    have HZS := hz9
    clear hb9 hz9
    have bg_ := Hbg.out.c3
    go_wp2_with fail
    go_loopw [15] (fun i wr => ∃ j : Nat, j ≤ l.length ∧ i = .int .i64 j ∧ Hid (Below w1.heap.size w1 wr) ∧ Hid ((l.take j).all (isSc G.q.m G.size) = true)) (fun i _ => l.length - (intOf i).toNat)
    case atStart => exact ⟨0, Nat.zero_le _, rfl, Below.refl _ _, rfl⟩
    case round =>
      obtain ⟨j, hj, rfl, HL9, HAL⟩ := hrel
      have hb9 := HL9.out
      clear HL9
      have BL := Lib.hid (Below.refl w1.heap.size w1)
      clear bg_
      replace Hbg := Lib.hid (Hbg.out.up hb9)
      replace BL := hbu BL hb9
      replace HB := hbu HB hb9
      replace HZS := sz HZS hb9.size
      clear hb9
      have bg_ := Hbg.out.c3
      by_cases hjl : j < l.length
      · obtain ⟨bl, ol, rfl, hbl, hc⟩ := (HS.out.up HB.out).at j (by simpa using hjl)
        rw [List.getElem_map] at hc
        obtain ⟨bj, hbj⟩ : ∃ x, isSc G.q.m G.size l[j] = x := ⟨_, rfl⟩
        have HBJ := Lib.hid hbj
        clear hbj
        go_wp2_with fail
        refine (rIsSc_b OK.out l[j] bj HBJ.out wr (HG.out.up HB.out)).mono ?_
        rintro e w2 ⟨rfl, hb9⟩
        clear bg_
        replace Hbg := Lib.hid (Hbg.out.up hb9)
        replace BL := hbu BL hb9
        replace HB := hbu HB hb9
        replace HZS := sz HZS hb9.size
        clear hb9
        have bg_ := Hbg.out.c3
        cases bj
        · go_wp2_with fail
          go_ret
          exact ⟨by rw [HZZ.out, if_neg (by rw [all_not hjl HBJ.out]; decide)]; rfl, HB.out⟩
        · go_wp2_with fail
          go_roundw
          case rel => exact ⟨j + 1, by omega, by go_num, BL, all_snoc hjl HAL.out HBJ.out⟩
          case measure => simp [intOf]; omega
      · have hjn : j = l.length := by omega
        subst hjn
        go_wp2_with fail
        go_ret
        exact ⟨by rw [HZZ.out, if_pos (all_take_true HAL.out)]; rfl, HB.out⟩
  · have hd : ((l.length : Int) != (n : Int)) = true := by simp; omega
    obtain rfl : z = 2 := by rw [hzz, if_neg h1]
    clear hzz h1
    go_enter Tryz.func59, Tryz.ntmps59
    go_wp2_with fail
    obtain ⟨w1, hq1, hb9, hz9, Hbg⟩ := new1 w 86 [.int .i64 (G.size : Int), .slice aq (dl G.q.m) cq, .slice ap (dl G.p.m) cp]
    rw [hq1]
    clear hq1
    have HB := Lib.hid hb9
    have HZS := hz9
    clear hb9 hz9
    have bg_ := Hbg.out.c3
    go_wp2_with fail
    go_ret
    exact ⟨rfl, HB.out⟩

theorem rWrongSc_t (ok : G.Ok) (n : Nat) (l : List ByteArray) (al : Option Addr) (cl : Nat) (hlen : l.length = n) (hn : n ≤ 8796093022207) (h : l.all (isSc G.q.m G.size) = true) (w : World) (hG : RG w G aq ap) (hS : Sl w w.heap.size al (l.map Value.string)) :
    Calls Tryz.prog 59 #[.agg #[.int .i64 (G.size : Int), .slice aq (dl G.q.m) cq, .slice ap (dl G.p.m) cp], .int .i64 (n : Int), .slice al n cl] w (Gives (.int .i64 0) w) := by
  have h9 := rWrongSc (aq := aq) (ap := ap) (cq := cq) (cp := cp) ok n l al cl (by omega) w hG hS
  unfold scE at h9
  rw [if_pos hlen, if_pos h, hlen] at h9
  exact h9
theorem rWrongSc_f (ok : G.Ok) (n : Nat) (l : List ByteArray) (al : Option Addr) (cl : Nat) (hlen : l.length = n) (hn : n ≤ 8796093022207) (h : l.all (isSc G.q.m G.size) = false) (w : World) (hG : RG w G aq ap) (hS : Sl w w.heap.size al (l.map Value.string)) :
    Calls Tryz.prog 59 #[.agg #[.int .i64 (G.size : Int), .slice aq (dl G.q.m) cq, .slice ap (dl G.p.m) cp], .int .i64 (n : Int), .slice al n cl] w (Gives (.int .i64 6) w) := by
  have h9 := rWrongSc (aq := aq) (ap := ap) (cq := cq) (cp := cp) ok n l al cl (by omega) w hG hS
  unfold scE at h9
  rw [if_pos hlen, if_neg (by rw [h]; decide), hlen] at h9
  exact h9

set_option maxRecDepth 100000 in
set_option maxHeartbeats 1000000 in
theorem rPower5 (ok : G.Ok) (b : ByteArray) (hb : b.size ≤ 32) {n : Nat} {an : Option Addr} {cn : Nat} (hn : dl n ≤ 65536) (w : World) (hG : RG w G aq ap) (hN : NumAt w an n) :
    Calls Tryz.prog 117 #[.agg #[.int .i64 (G.size : Int), .slice aq (dl G.q.m) cq, .slice ap (dl G.p.m) cp], .string b, .slice an (dl n) cn] w fun e w' => NumR w e w' (lowN G (numOf b ^ n)) := by
  have OK := Lib.hid ok
  have HG := Lib.hid hG
  have HN := Lib.hid hN
  clear ok hG hN
  go_enter Tryz.func117, Tryz.ntmps117
  go_wp2_with fail
  obtain ⟨w1, hq1, hb9, hz9, Hbg⟩ := new1 w 86 [.int .i64 (G.size : Int), .slice aq (dl G.q.m) cq, .slice ap (dl G.p.m) cp]
  rw [hq1]
  clear hq1
  have HB := Lib.hid hb9
  have HZS := hz9
  clear hb9 hz9
  have bg_ := Hbg.out.c3
  go_wp2_with fail
  have HT := Lib.hid (show Below w1.heap.size w1 w1.drew from (Below.refl _ _).drew)
  have hl_bg := Hbg.out.lt
  refine wp_region_tree (fun wq9 => ∃ E : Over w1, wq9 = E.w) ((.qs [0, 1, 3] (.a 2 (.a 4 (.qs [5] .done))))) (by kernel_rfl) (by kernel_rfl) (fun _ _ d _ _ h => by cases d <;> exact h) ⟨⟨_, HT.out⟩, rfl⟩ ?_
  have hov_bg := fun (E : Over w1) o => E.cell (b := w.heap.size) o hl_bg
  simp only [Tree.qs]
  repeat (refine tree_q rfl rfl ?_; go_big_quiet_step (fail); refine wpQuiet_nil ?_)
  refine tree_a rfl (fun K hK => ?_)
  go_simp
  refine (refRead_any b (by omega) _).mono ?_
  rintro e w2 ⟨a4, c4, rfl, hn9, hb9⟩
  replace HT := Lib.hid (below_up HT.out hb9)
  replace HZS := sz HZS (show w1.heap.size ≤ w2.heap.size from HT.out.size)
  clear hb9
  have HN4 := Lib.hid hn9
  clear hn9
  refine hK _ _ ⟨⟨⟨w2, HT.out⟩, rfl⟩, ?_⟩
  clear hK K
  repeat (refine tree_q rfl rfl ?_; go_big_quiet_step (fail); refine wpQuiet_nil ?_)
  refine tree_a rfl (fun K hK => ?_)
  go_simp
  refine (rPow OK.out (numOf_16 b hb) hn _ (HG.out.up (below_up HB.out HT.out)) HN4.out (HN.out.up (below_up HB.out HT.out))).mono ?_
  rintro e w3 ⟨a5, c5, rfl, hn9, hb9⟩
  replace HN4 := Lib.hid (HN4.out.up hb9)
  replace HT := Lib.hid (below_up HT.out hb9)
  replace HZS := sz HZS (show w1.heap.size ≤ w3.heap.size from HT.out.size)
  clear hb9
  have HN5 := Lib.hid hn9
  clear hn9
  refine hK _ _ ⟨⟨⟨w3, HT.out⟩, rfl⟩, ?_⟩
  clear hK K
  repeat (refine tree_q rfl rfl ?_; go_big_quiet_step (fail); refine wpQuiet_nil ?_)
  refine tree_end ?_
  clear hov_bg hl_bg
  clear bg_
  replace Hbg := Lib.hid (Hbg.out.up HT.out)
  replace HB := hbu HB HT.out
  replace HZS := sz HZS HT.out.size
  clear HT
  have bg_ := Hbg.out.c3
  go_wp2_with fail
  go_ret
  exact ⟨a5, c5, rfl, HN5.out, HB.out⟩
end

theorem size_n0 (k : Nat) (h1 : 1 ≤ k) (h3 : k ≤ 3) : (((grp k).size : Int) == 0) = false := by
  obtain rfl | rfl | rfl : k = 1 ∨ k = 2 ∨ k = 3 := by omega
  all_goals rfl
theorem size_gt0 (k : Nat) (h1 : 1 ≤ k) (h3 : k ≤ 3) : decide (((grp k).size : Int) > 0) = true := by
  obtain rfl | rfl | rfl : k = 1 ∨ k = 2 ∨ k = 3 := by omega
  all_goals rfl
theorem toList_ne {a b : ByteArray} (h : ¬ a = b) : ¬ a.toList = b.toList := fun e => h (by
  have h9 : (a == b) = true := by rw [beq_toListBytes]; exact beq_iff_eq.2 e
  obtain ⟨x⟩ := a
  obtain ⟨y⟩ := b
  have h10 : (x == y) = true := h9
  rw [eq_of_beq h10])
theorem toList_bne {a b : ByteArray} (h : ¬ a = b) : (a.toList == b.toList) = false := beq_eq_false_iff_ne.2 (toList_ne h)
theorem mod_16 {G : GP} (ok : G.Ok) (x : Nat) : x % G.q.m < DD ^ 16 := Nat.lt_of_lt_of_le (Nat.mod_lt _ ok.q.pos) (Nat.le_of_lt ok.q.lt4)
theorem sc_len {G : GP} (ok : G.Ok) {s : ByteArray} (h : isSc G.q.m G.size s = true) : s.size ≤ 32 := by rw [isSc_size h]; exact ok.size_le
theorem el_len {G : GP} (ok : G.Ok) {s : ByteArray} (h : isEl G.q.m G.size s = true) : s.size ≤ 32 := by rw [isEl_size h]; exact ok.size_le

/-- Reckoning with scalars, spelled so that no simp turns it. -/
def mulQ (G : GP) (a b : Nat) : Nat := a * b % G.q.m
def addQ (G : GP) (a b : Nat) : Nat := (a + b) % G.q.m
def subQ (G : GP) (a b : Nat) : Nat := (a + (G.q.m - b)) % G.q.m
def invQ (G : GP) (a : Nat) : Nat := a ^ (G.q.m - 2) % G.q.m
section
variable {G : GP} {aq ap : Option Addr} {cq cp : Nat}
theorem mulQ_lt (ok : G.Ok) (a b : Nat) : mulQ G a b < G.q.m := Nat.mod_lt _ ok.q.pos
theorem addQ_lt (ok : G.Ok) (a b : Nat) : addQ G a b < G.q.m := Nat.mod_lt _ ok.q.pos
theorem subQ_lt (ok : G.Ok) (a b : Nat) : subQ G a b < G.q.m := Nat.mod_lt _ ok.q.pos
theorem invQ_lt (ok : G.Ok) (a : Nat) : invQ G a < G.q.m := Nat.mod_lt _ ok.q.pos
theorem q_16 (ok : G.Ok) {x : Nat} (h : x < G.q.m) : x < DD ^ 16 := Nat.lt_trans h ok.q.lt4
theorem rMulQ (ok : G.Ok) {a b : Nat} {aa ab : Option Addr} {ca cb : Nat} (ha : a < DD ^ 16) (hb : b < DD ^ 16) (w : World) (hG : RG w G aq ap) (hA : NumAt w aa a) (hB : NumAt w ab b) :
    Calls Tryz.prog 126 #[.agg #[.int .i64 (G.size : Int), .slice aq (dl G.q.m) cq, .slice ap (dl G.p.m) cp], .slice aa (dl a) ca, .slice ab (dl b) cb] w fun e w' => NumR w e w' (mulQ G a b) := rMul ok ha hb w hG hA hB
theorem rAddQ (ok : G.Ok) {a b : Nat} {aa ab : Option Addr} {ca cb : Nat} (ha : a < DD ^ 16) (hb : b < DD ^ 16) (w : World) (hG : RG w G aq ap) (hA : NumAt w aa a) (hB : NumAt w ab b) :
    Calls Tryz.prog 60 #[.agg #[.int .i64 (G.size : Int), .slice aq (dl G.q.m) cq, .slice ap (dl G.p.m) cp], .slice aa (dl a) ca, .slice ab (dl b) cb] w fun e w' => NumR w e w' (addQ G a b) := rAdd ok ha hb w hG hA hB
theorem rSubQ (ok : G.Ok) {a b : Nat} {aa ab : Option Addr} {ca cb : Nat} (ha : a < DD ^ 16) (hb : b ≤ G.q.m) (w : World) (hG : RG w G aq ap) (hA : NumAt w aa a) (hB : NumAt w ab b) :
    Calls Tryz.prog 77 #[.agg #[.int .i64 (G.size : Int), .slice aq (dl G.q.m) cq, .slice ap (dl G.p.m) cp], .slice aa (dl a) ca, .slice ab (dl b) cb] w fun e w' => NumR w e w' (subQ G a b) := rSub ok ha hb w hG hA hB
theorem rTextQ (ok : G.Ok) {x : Nat} {an : Option Addr} {cn : Nat} (hx : x < G.q.m) (w : World) (hN : NumAt w an x) :
    Calls Tryz.prog 49 #[.slice an (dl x) cn, .int .i64 (G.size : Int)] w fun e w' => e = .returned (.string (textS x G.size)) ∧ Below w.heap.size w w' :=
  rText ok (q_16 ok hx) w hN
end

end Go.Proofs.YtdlnnkbigeiilaaGreat

/- What is wrong with claims, as the document says it. No condition. -/
namespace Go.Proofs.YtdlnnkbigeiilaaGreat
open Go.RowKit

theorem w_long {G : GP} {l : List ClaimA} {z : Nat} (hz : wrongE G l = z) (h : 64 < l.length ∨ l.any cLong = true) : z = 3 := by
  have hs : shapeE l = 3 := by
    unfold shapeE
    rw [if_pos]
    rcases h with h | h
    · rw [decide_eq_true h]; rfl
    · rw [h, Bool.or_true]
  rw [← hz]
  unfold wrongE
  rw [hs]
  rfl
theorem w_form {G : GP} {l : List ClaimA} {z : Nat} (hz : wrongE G l = z) (h1 : ¬ 64 < l.length) (h2 : l.any cLong = false) (h : l.length = 0 ∨ l.any cForm = true) : z = 2 := by
  have hs : shapeE l = 2 := by
    unfold shapeE
    rw [if_neg (by rw [decide_eq_false h1, h2]; decide), if_pos]
    rcases h with h | h
    · rw [decide_eq_true h]; rfl
    · rw [h, Bool.or_true]
  rw [← hz]
  unfold wrongE
  rw [hs]
  rfl
theorem w_elem {G : GP} {l : List ClaimA} {z : Nat} (hz : wrongE G l = z) (h1 : ¬ 64 < l.length) (h2 : l.any cLong = false) (h3 : ¬ l.length = 0) (h4 : l.any cForm = false) : z = if l.all (cElems G) = true then 0 else 7 := by
  have hs : shapeE l = 0 := by
    unfold shapeE
    rw [if_neg (by rw [decide_eq_false h1, h2]; decide), if_neg (by rw [decide_eq_false h3, h4]; decide)]
  rw [← hz]
  unfold wrongE
  rw [hs]
  rfl
theorem any_take_false {α : Type} {f : α → Bool} {l : List α} {n : Nat} (hl : l.length = n) (h : (l.take n).any f = false) : l.any f = false := by rwa [List.take_of_length_le (by omega)] at h
theorem any_one {α : Type} {f : α → Bool} {l : List α} (h : l.any f = false) {j : Nat} (hj : j < l.length) : f l[j] = false := by
  have h9 := List.any_eq_false.1 h _ (List.getElem_mem hj)
  simpa using h9

section
variable {G : GP} {aq ap : Option Addr} {cq cp : Nat}

set_option maxRecDepth 100000 in
set_option maxHeartbeats 4000000 in
theorem rWrong (ok : G.Ok) (l : List ClaimA) (n : Nat) (hn : l.length = n) (z : Nat) (hz : wrongE G l = z) (al : Option Addr) (cl : Nat) (w : World) (hG : RG w G aq ap) (hC : ClaimsAt w al l) :
    Calls Tryz.prog 70 #[.agg #[.int .i64 (G.size : Int), .slice aq (dl G.q.m) cq, .slice ap (dl G.p.m) cp], .slice al n cl] w (Gives (.int .i64 (z : Int)) w) := by
  have OK := Lib.hid ok
  have HG := Lib.hid hG
  have HC := Lib.hid hC
  have HN := Lib.hid hn
  have HZ := Lib.hid hz
  clear ok hG hC hn hz
  unfold Gives
  by_cases h64 : 64 < n
  · have hd : decide ((n : Int) > 64) = true := by simp; omega
    obtain rfl : z = 3 := w_long HZ.out (Or.inl (by rw [HN.out]; exact h64))
    clear h64
    go_enter Tryz.func70, Tryz.ntmps70
    go_wp2_with fail
    obtain ⟨w1, hq1, hb9, hz9, Hbg⟩ := new1 w 86 [.int .i64 (G.size : Int), .slice aq (dl G.q.m) cq, .slice ap (dl G.p.m) cp]
    rw [hq1]
    clear hq1
    have HB := Lib.hid hb9
    have HZS := hz9
    clear hb9 hz9
    have bg_ := Hbg.out.c3
    go_wp2_with fail
    go_ret
    exact ⟨rfl, HB.out⟩
  have hd : decide ((n : Int) > 64) = false := by simp; omega
  have H64 := Lib.hid (show ¬ 64 < l.length by rw [HN.out]; exact h64)
  go_enter Tryz.func70, Tryz.ntmps70
  go_wp2_with fail
  obtain ⟨w1, hq1, hb9, hz9, Hbg⟩ := new1 w 86 [.int .i64 (G.size : Int), .slice aq (dl G.q.m) cq, .slice ap (dl G.p.m) cp]
  rw [hq1]
  clear hq1
  have HB := Lib.hid hb9
  have HZS := hz9
  clear hb9 hz9
  have bg_ := Hbg.out.c3
  have BL := Lib.hid (Below.refl w1.heap.size w1)
  go_wp2_with fail
  go_loopw [17] (fun i wr => ∃ j : Nat, j ≤ n ∧ i = .int .i64 j ∧ Hid (Below w1.heap.size w1 wr) ∧ Hid ((l.take j).any cLong = false)) (fun i _ => n - (intOf i).toNat)
  case atStart => exact ⟨0, Nat.zero_le _, rfl, BL, rfl⟩
  case round =>
    obtain ⟨j, hj, rfl, HL9, HAL⟩ := hrel
    have hb9 := HL9.out
    clear HL9
    clear bg_
    replace Hbg := Lib.hid (Hbg.out.up hb9)
    replace BL := hbu BL hb9
    replace HB := hbu HB hb9
    replace HZS := sz HZS hb9.size
    clear hb9
    have bg_ := Hbg.out.c3
    by_cases hjn : j < n
    · have hjl : j < l.length := by rw [HN.out]; exact hjn
      obtain ⟨bl, ol, rfl, hbl0, hc⟩ := (HC.out.s.up HB.out).elem ClaimA.cells_len (by omega) j hjl
      have hc_0 := hc 0 _ rfl
      rw [Nat.add_zero] at hc_0
      have hc_1 := hc 1 _ rfl
      clear hc
      have HS1 := Lib.hid (any_snoc (f := cLong) hjl HAL.out)
      have HS2 := Lib.hid (any_take_true (f := cLong) hjl)
      have hcl : cLong l[j] = (decide (8 < l[j].bases.length) || decide (8 < l[j].images.length)) := rfl
      generalize l[j] = c at *
      generalize c.bases.length = n1 at *
      generalize c.images.length = n2 at *
      by_cases h1 : 8 < n1
      · obtain rfl : z = 3 := w_long HZ.out (Or.inr (HS2.out (by rw [hcl]; simp [h1])))
        have hd1 : decide ((n1 : Int) > 8) = true := by simp; omega
        clear hcl h1
        have o2_bg_ := bg_; clear bg_
        obtain ⟨w2, hq2, hb9, hz9, Hbc⟩ := new1 wr 50 [.slice c.ab n1 c.cb, .slice c.ai n2 c.ci]
        replace Hbg := Lib.hid (Hbg.out.up hb9)
        replace BL := hbu BL hb9
        replace HB := hbu HB hb9
        replace HZS := sz HZS hz9.out
        clear hb9 hz9
        have bg_ := Hbg.out.c3
        have bc_ := Hbc.out.c2
        go_wp2_with fail
        clear hq2 o2_bg_
        go_ret
        exact ⟨rfl, HB.out⟩
      have hd1 : decide ((n1 : Int) > 8) = false := by simp; omega
      by_cases h2 : 8 < n2
      · obtain rfl : z = 3 := w_long HZ.out (Or.inr (HS2.out (by rw [hcl]; simp [h2])))
        have hd2 : decide ((n2 : Int) > 8) = true := by simp; omega
        clear hcl h1 h2
        have o2_bg_ := bg_; clear bg_
        obtain ⟨w2, hq2, hb9, hz9, Hbc⟩ := new1 wr 50 [.slice c.ab n1 c.cb, .slice c.ai n2 c.ci]
        replace Hbg := Lib.hid (Hbg.out.up hb9)
        replace BL := hbu BL hb9
        replace HB := hbu HB hb9
        replace HZS := sz HZS hz9.out
        clear hb9 hz9
        have bg_ := Hbg.out.c3
        have bc_ := Hbc.out.c2
        go_wp2_with fail
        clear hq2 o2_bg_
        go_ret
        exact ⟨rfl, HB.out⟩
      have hd2 : decide ((n2 : Int) > 8) = false := by simp; omega
      have HS3 := Lib.hid (HS1.out (by rw [hcl]; simp [h1, h2]))
      clear hcl h1 h2
      have o2_bg_ := bg_; clear bg_
      obtain ⟨w2, hq2, hb9, hz9, Hbc⟩ := new1 wr 50 [.slice c.ab n1 c.cb, .slice c.ai n2 c.ci]
      replace Hbg := Lib.hid (Hbg.out.up hb9)
      replace BL := hbu BL hb9
      replace HB := hbu HB hb9
      replace HZS := sz HZS hz9.out
      clear hb9 hz9
      have bg_ := Hbg.out.c3
      have bc_ := Hbc.out.c2
      go_wp2_with fail
      go_roundw
      case rel => exact ⟨j + 1, by omega, by go_num, BL, HS3.out⟩
      case measure => simp [intOf]; omega
    · have hjn' : j = n := by omega
      subst hjn'
      have HLG := Lib.hid (any_take_false HN.out HAL.out)
      clear HAL hj hjn
      by_cases h0 : j = 0
      · obtain rfl : z = 2 := w_form HZ.out H64.out HLG.out (Or.inl (by rw [HN.out]; exact h0))
        have hd0 : ((j : Int) == 0) = true := by simp; omega
        clear h0
        go_wp2_with fail
        go_ret
        exact ⟨rfl, HB.out⟩
      have H0 := Lib.hid (show ¬ l.length = 0 by rw [HN.out]; exact h0)
      have hd0 : ((j : Int) == 0) = false := by simp; omega
      generalize j = n at *
      clear h0
      obtain ⟨wo, rfl⟩ : ∃ wo : World, wo = wr := ⟨_, rfl⟩
      have BM := Lib.hid (Below.refl wo.heap.size wo)
      go_wp2_with fail
      go_loopw [37] (fun i wr => ∃ j : Nat, j ≤ n ∧ i = .int .i64 j ∧ Hid (Below wo.heap.size wo wr) ∧ Hid ((l.take j).any cForm = false)) (fun i _ => n - (intOf i).toNat)
      case atStart => exact ⟨0, Nat.zero_le _, rfl, BM, rfl⟩
      case round =>
        obtain ⟨j, hj, rfl, HL9, HAL⟩ := hrel
        have hb9 := HL9.out
        clear HL9
        clear bg_
        replace Hbg := Lib.hid (Hbg.out.up hb9)
        replace BL := hbu BL hb9
        replace BM := hbu BM hb9
        replace HB := hbu HB hb9
        replace HZS := sz HZS hb9.size
        clear hb9
        have bg_ := Hbg.out.c3
        by_cases hjn : j < n
        · have hjl : j < l.length := by rw [HN.out]; exact hjn
          obtain ⟨bl, ol, rfl, hbl0, hc⟩ := (HC.out.s.up HB.out).elem ClaimA.cells_len (by omega) j hjl
          have hc_0 := hc 0 _ rfl
          rw [Nat.add_zero] at hc_0
          have hc_1 := hc 1 _ rfl
          clear hc
          have HS1 := Lib.hid (any_snoc (f := cForm) hjl HAL.out)
          have HS2 := Lib.hid (any_take_true (f := cForm) hjl)
          have hcl : cForm l[j] = (decide (l[j].bases.length = 0) || decide (l[j].bases.length ≠ l[j].images.length)) := rfl
          generalize l[j] = c at *
          generalize c.bases.length = n1 at *
          generalize c.images.length = n2 at *
          by_cases h1 : n1 = 0
          · obtain rfl : z = 2 := w_form HZ.out H64.out HLG.out (Or.inr (HS2.out (by rw [hcl]; simp [h1])))
            have hd1 : ((n1 : Int) == 0) = true := by simp; omega
            clear hcl h1
            have o2_bg_ := bg_; clear bg_
            obtain ⟨w2, hq2, hb9, hz9, Hbc⟩ := new1 wr 50 [.slice c.ab n1 c.cb, .slice c.ai n2 c.ci]
            replace Hbg := Lib.hid (Hbg.out.up hb9)
            replace BL := hbu BL hb9
            replace BM := hbu BM hb9
            replace HB := hbu HB hb9
            replace HZS := sz HZS hz9.out
            clear hb9 hz9
            have bg_ := Hbg.out.c3
            have bc_ := Hbc.out.c2
            go_wp2_with fail
            clear hq2 o2_bg_
            go_ret
            exact ⟨rfl, HB.out⟩
          have hd1 : ((n1 : Int) == 0) = false := by simp; omega
          by_cases h2 : n1 ≠ n2
          · obtain rfl : z = 2 := w_form HZ.out H64.out HLG.out (Or.inr (HS2.out (by rw [hcl]; simp [h2])))
            have hd2 : ((n1 : Int) != (n2 : Int)) = true := by simp; omega
            clear hcl h1 h2
            have o2_bg_ := bg_; clear bg_
            obtain ⟨w2, hq2, hb9, hz9, Hbc⟩ := new1 wr 50 [.slice c.ab n1 c.cb, .slice c.ai n2 c.ci]
            replace Hbg := Lib.hid (Hbg.out.up hb9)
            replace BL := hbu BL hb9
            replace BM := hbu BM hb9
            replace HB := hbu HB hb9
            replace HZS := sz HZS hz9.out
            clear hb9 hz9
            have bg_ := Hbg.out.c3
            have bc_ := Hbc.out.c2
            go_wp2_with fail
            clear hq2 o2_bg_
            go_ret
            exact ⟨rfl, HB.out⟩
          have hd2 : ((n1 : Int) != (n2 : Int)) = false := by simp; omega
          have HS3 := Lib.hid (HS1.out (by rw [hcl]; simp [h1]; omega))
          clear hcl h1 h2
          have o2_bg_ := bg_; clear bg_
          obtain ⟨w2, hq2, hb9, hz9, Hbc⟩ := new1 wr 50 [.slice c.ab n1 c.cb, .slice c.ai n2 c.ci]
          replace Hbg := Lib.hid (Hbg.out.up hb9)
          replace BL := hbu BL hb9
          replace BM := hbu BM hb9
          replace HB := hbu HB hb9
          replace HZS := sz HZS hz9.out
          clear hb9 hz9
          have bg_ := Hbg.out.c3
          have bc_ := Hbc.out.c2
          go_wp2_with fail
          go_roundw
          case rel => exact ⟨j + 1, by omega, by go_num, BM, HS3.out⟩
          case measure => simp [intOf]; omega
        · have hjn' : j = n := by omega
          subst hjn'
          have HLF := Lib.hid (any_take_false HN.out HAL.out)
          have HZE := Lib.hid (w_elem HZ.out H64.out HLG.out H0.out HLF.out)
          clear HAL hj hjn
          generalize j = n at *
          obtain ⟨wo2, rfl⟩ : ∃ wo2 : World, wo2 = wr := ⟨_, rfl⟩
          have BN := Lib.hid (Below.refl wo2.heap.size wo2)
          go_wp2_with fail
          go_loopw [57] (fun i wr => ∃ j : Nat, j ≤ n ∧ i = .int .i64 j ∧ Hid (Below wo2.heap.size wo2 wr) ∧ Hid ((l.take j).all (cElems G) = true)) (fun i _ => n - (intOf i).toNat)
          case atStart => exact ⟨0, Nat.zero_le _, rfl, BN, rfl⟩
          case round =>
            obtain ⟨j, hj, rfl, HL9, HAL⟩ := hrel
            have hb9 := HL9.out
            clear HL9
            clear bg_
            replace Hbg := Lib.hid (Hbg.out.up hb9)
            replace BL := hbu BL hb9
            replace BM := hbu BM hb9
            replace BN := hbu BN hb9
            replace HB := hbu HB hb9
            replace HZS := sz HZS hb9.size
            clear hb9
            have bg_ := Hbg.out.c3
            by_cases hjn : j < n
            · have hjl : j < l.length := by rw [HN.out]; exact hjn
              obtain ⟨bl, ol, rfl, hbl0, hc⟩ := (HC.out.s.up HB.out).elem ClaimA.cells_len (by omega) j hjl
              have hc_0 := hc 0 _ rfl
              rw [Nat.add_zero] at hc_0
              have hc_1 := hc 1 _ rfl
              clear hc
              have HAT := Lib.hid ((HC.out.up HB.out).one j hjl)
              have HFJ := Lib.hid (any_one HLF.out hjl)
              have HLJ := Lib.hid (any_one HLG.out hjl)
              have HSN := Lib.hid (all_snoc (f := cElems G) hjl HAL.out)
              have HNO := Lib.hid (all_not (f := cElems G) hjl)
              generalize l[j] = c at *
              have hlens : c.images.length = c.bases.length ∧ c.bases.length ≤ 8 := by
                have g1 := HFJ.out
                have g2 := HLJ.out
                unfold cForm at g1
                unfold cLong at g2
                simp at g1 g2
                omega
              have HLEN := Lib.hid hlens.1
              have hl8 := hlens.2
              clear hlens
              have HAB := Lib.hid HAT.out.b
              have HAJ := Lib.hid HAT.out.i
              have HSN2 := Lib.hid (show c.bases.all (isEl G.q.m G.size) = true → c.images.all (isEl G.q.m G.size) = true → _ from fun h1 h2 => HSN.out (show (c.bases.all (isEl G.q.m G.size) && c.images.all (isEl G.q.m G.size)) = true by rw [h1, h2]; rfl))
              have HNO2 := Lib.hid (show (c.bases.all (isEl G.q.m G.size) && c.images.all (isEl G.q.m G.size)) = false → _ from HNO.out)
              clear HAT HFJ HLJ HSN HNO
              generalize c.bases = bs at *
              generalize c.images = ims at *
              generalize c.ab = ab at *
              generalize c.ai = ai at *
              generalize c.cb = cb at *
              generalize c.ci = ci at *
              have BR := Lib.hid (Below.refl wr.heap.size wr)
              have o2_bg_ := bg_; clear bg_
              obtain ⟨w2, hq2, hb9, hz9, Hbc⟩ := new1 wr 50 [.slice ab bs.length cb, .slice ai ims.length ci]
              replace Hbg := Lib.hid (Hbg.out.up hb9)
              replace BL := hbu BL hb9
              replace BM := hbu BM hb9
              replace BN := hbu BN hb9
              replace BR := hbu BR hb9
              replace HB := hbu HB hb9
              replace HZS := sz HZS hz9.out
              clear hb9 hz9
              have bg_ := Hbg.out.c3
              have bc_ := Hbc.out.c2
              obtain ⟨wo3, rfl⟩ : ∃ wo3 : World, wo3 = wr := ⟨_, rfl⟩
              have BI := Lib.hid (Below.refl w2.heap.size w2)
              go_wp2_with fail
              clear hq2 o2_bg_
              go_loopw [11] (fun i wr => ∃ t : Nat, t ≤ bs.length ∧ i = .int .i64 t ∧ Hid (Below w2.heap.size w2 wr) ∧ Hid ((bs.take t).all (isEl G.q.m G.size) = true ∧ (ims.take t).all (isEl G.q.m G.size) = true)) (fun i _ => bs.length - (intOf i).toNat)
              case atStart => exact ⟨0, Nat.zero_le _, rfl, BI, ⟨rfl, rfl⟩⟩
              case round =>
                obtain ⟨t, ht, rfl, HL9, HAI⟩ := hrel
                have hb9 := HL9.out
                clear HL9
                clear bg_
                replace Hbg := Lib.hid (Hbg.out.up hb9)
                clear bc_
                replace Hbc := Lib.hid (Hbc.out.up hb9)
                replace BL := hbu BL hb9
                replace BM := hbu BM hb9
                replace BN := hbu BN hb9
                replace BR := hbu BR hb9
                replace BI := hbu BI hb9
                replace HB := hbu HB hb9
                replace HZS := sz HZS hb9.size
                clear hb9
                have bg_ := Hbg.out.c3
                have bc_ := Hbc.out.c2
                by_cases htm : t < bs.length
                · have hti : t < ims.length := by rw [HLEN.out]; exact htm
                  obtain ⟨b1, o1, rfl, hb1, hc1⟩ := (HAB.out.up BR.out).at t (by simpa using htm)
                  obtain ⟨b2, o2, rfl, hb2, hc2⟩ := (HAJ.out.up BR.out).at t (by simpa using hti)
                  rw [List.getElem_map] at hc1 hc2
                  have HT1 := Lib.hid (all_snoc (f := isEl G.q.m G.size) htm HAI.out.1)
                  have HT2 := Lib.hid (all_snoc (f := isEl G.q.m G.size) hti HAI.out.2)
                  have HT3 := Lib.hid (all_not (f := isEl G.q.m G.size) htm)
                  have HT4 := Lib.hid (all_not (f := isEl G.q.m G.size) hti)
                  generalize bs[t] = x at *
                  generalize ims[t] = y at *
                  obtain ⟨q1, hq1⟩ : ∃ q, isEl G.q.m G.size x = q := ⟨_, rfl⟩
                  obtain ⟨q2, hq2⟩ : ∃ q, isEl G.q.m G.size y = q := ⟨_, rfl⟩
                  have HQ1 := Lib.hid hq1
                  have HQ2 := Lib.hid hq2
                  clear hq1 hq2
                  cases q1
                  · have HW := Lib.hid (HNO2.out (by rw [HT3.out HQ1.out]; rfl))
                    obtain rfl : z = 7 := by rw [HZE.out, if_neg (by rw [HW.out]; decide)]
                    go_wp2_with fail
                    have HT := Lib.hid (show Below wr.heap.size wr wr.drew from (Below.refl _ _).drew)
                    have hl_bg := Hbg.out.lt
                    have hl_bc := Hbc.out.lt
                    refine wp_region_tree (fun wq9 => ∃ E : Over wr, wq9 = E.w) ((.qs [0, 1, 2, 3, 4, 5] (.a 6 (.qs [7, 8, 9, 10, 11, 12, 13, 14] (.a 15 (.qs [16, 17] .done)))))) (by kernel_rfl) (by kernel_rfl) (fun _ _ d _ _ h => by cases d <;> exact h) ⟨⟨_, HT.out⟩, rfl⟩ ?_
                    have hov_bg := fun (E : Over wr) o => E.cell (b := w.heap.size) o hl_bg
                    have hov_bc := fun (E : Over wr) o => E.cell (b := wo3.heap.size) o hl_bc
                    have hov_b1 := fun (E : Over wr) o => E.cell (b := b1) o hb1
                    have hov_b2 := fun (E : Over wr) o => E.cell (b := b2) o hb2
                    simp only [Tree.qs]
                    repeat (refine tree_q rfl rfl ?_; go_big_quiet_step (fail); refine wpQuiet_nil ?_)
                    refine tree_a rfl (fun K hK => ?_)
                    go_simp
                    refine (rIsEl_b OK.out x false HQ1.out _ (HG.out.up (below_up HB.out HT.out))).mono ?_
                    rintro e w3 ⟨rfl, hb9⟩
                    replace HT := Lib.hid (below_up HT.out hb9)
                    replace HZS := sz HZS (show wr.heap.size ≤ w3.heap.size from HT.out.size)
                    clear hb9
                    refine hK _ _ ⟨⟨⟨w3, HT.out⟩, rfl⟩, ?_⟩
                    clear hK K
                    repeat (refine tree_q rfl rfl ?_; go_big_quiet_step (fail); refine wpQuiet_nil ?_)
                    refine tree_a rfl (fun K hK => ?_)
                    go_simp
                    refine hK _ _ ⟨⟨⟨_, HT.out⟩, rfl⟩, ?_⟩
                    clear hK K
                    repeat (refine tree_q rfl rfl ?_; go_big_quiet_step (fail); refine wpQuiet_nil ?_)
                    refine tree_end ?_
                    clear hov_bg hl_bg hov_bc hl_bc hov_b1 hov_b2
                    clear bg_
                    replace Hbg := Lib.hid (Hbg.out.up HT.out)
                    clear bc_
                    replace Hbc := Lib.hid (Hbc.out.up HT.out)
                    replace BL := hbu BL HT.out
                    replace BM := hbu BM HT.out
                    replace BN := hbu BN HT.out
                    replace BR := hbu BR HT.out
                    replace BI := hbu BI HT.out
                    replace HB := hbu HB HT.out
                    replace HZS := sz HZS HT.out.size
                    clear HT
                    have bg_ := Hbg.out.c3
                    have bc_ := Hbc.out.c2
                    go_wp2_with fail
                    go_ret
                    exact ⟨rfl, HB.out⟩
                  · go_wp2_with fail
                    have HT := Lib.hid (show Below wr.heap.size wr wr.drew from (Below.refl _ _).drew)
                    have hl_bg := Hbg.out.lt
                    have hl_bc := Hbc.out.lt
                    refine wp_region_tree (fun wq9 => ∃ E : Over wr, wq9 = E.w) ((.qs [0, 1, 2, 3, 4, 5] (.a 6 (.qs [7, 8, 9, 10, 11, 12, 13, 14] (.a 15 (.qs [16, 17] .done)))))) (by kernel_rfl) (by kernel_rfl) (fun _ _ d _ _ h => by cases d <;> exact h) ⟨⟨_, HT.out⟩, rfl⟩ ?_
                    have hov_bg := fun (E : Over wr) o => E.cell (b := w.heap.size) o hl_bg
                    have hov_bc := fun (E : Over wr) o => E.cell (b := wo3.heap.size) o hl_bc
                    have hov_b1 := fun (E : Over wr) o => E.cell (b := b1) o hb1
                    have hov_b2 := fun (E : Over wr) o => E.cell (b := b2) o hb2
                    simp only [Tree.qs]
                    repeat (refine tree_q rfl rfl ?_; go_big_quiet_step (fail); refine wpQuiet_nil ?_)
                    refine tree_a rfl (fun K hK => ?_)
                    go_simp
                    refine (rIsEl_b OK.out x true HQ1.out _ (HG.out.up (below_up HB.out HT.out))).mono ?_
                    rintro e w3 ⟨rfl, hb9⟩
                    replace HT := Lib.hid (below_up HT.out hb9)
                    replace HZS := sz HZS (show wr.heap.size ≤ w3.heap.size from HT.out.size)
                    clear hb9
                    refine hK _ _ ⟨⟨⟨w3, HT.out⟩, rfl⟩, ?_⟩
                    clear hK K
                    repeat (refine tree_q rfl rfl ?_; go_big_quiet_step (fail); refine wpQuiet_nil ?_)
                    refine tree_a rfl (fun K hK => ?_)
                    go_simp
                    refine (rIsEl_b OK.out y q2 HQ2.out _ (HG.out.up (below_up HB.out HT.out))).mono ?_
                    rintro e w4 ⟨rfl, hb9⟩
                    replace HT := Lib.hid (below_up HT.out hb9)
                    replace HZS := sz HZS (show wr.heap.size ≤ w4.heap.size from HT.out.size)
                    clear hb9
                    refine hK _ _ ⟨⟨⟨w4, HT.out⟩, rfl⟩, ?_⟩
                    clear hK K
                    repeat (refine tree_q rfl rfl ?_; go_big_quiet_step (fail); refine wpQuiet_nil ?_)
                    refine tree_end ?_
                    clear hov_bg hl_bg hov_bc hl_bc hov_b1 hov_b2
                    clear bg_
                    replace Hbg := Lib.hid (Hbg.out.up HT.out)
                    clear bc_
                    replace Hbc := Lib.hid (Hbc.out.up HT.out)
                    replace BL := hbu BL HT.out
                    replace BM := hbu BM HT.out
                    replace BN := hbu BN HT.out
                    replace BR := hbu BR HT.out
                    replace BI := hbu BI HT.out
                    replace HB := hbu HB HT.out
                    replace HZS := sz HZS HT.out.size
                    clear HT
                    have bg_ := Hbg.out.c3
                    have bc_ := Hbc.out.c2
                    cases q2
                    · have HW := Lib.hid (HNO2.out (by rw [HT4.out HQ2.out, Bool.and_false]))
                      obtain rfl : z = 7 := by rw [HZE.out, if_neg (by rw [HW.out]; decide)]
                      go_wp2_with fail
                      go_ret
                      exact ⟨rfl, HB.out⟩
                    · go_wp2_with fail
                      go_roundw
                      case rel => exact ⟨t + 1, by omega, by go_num, BI, ⟨HT1.out HQ1.out, HT2.out HQ2.out⟩⟩
                      case measure => simp [intOf]; omega
                · have htm' : t = bs.length := by omega
                  have HHT := Lib.hid (HSN2.out (all_take_true (by rw [← htm']; exact HAI.out.1)) (all_take_true (by rw [HLEN.out, ← htm']; exact HAI.out.2)))
                  go_wp2_with fail
                  go_roundw
                  case rel => exact ⟨j + 1, by omega, by go_num, BN, HHT⟩
                  case measure => simp [intOf]; omega
            · have hjn' : j = n := by omega
              subst hjn'
              obtain rfl : z = 0 := by rw [HZE.out, if_pos (all_take_true (by rw [HN.out]; exact HAL.out))]
              go_wp2_with fail
              go_ret
              exact ⟨rfl, HB.out⟩
end
end Go.Proofs.YtdlnnkbigeiilaaGreat

/- Claims hold, as the document says it. Condition: shapes and sizes of what was asked before. -/
namespace Go.Proofs.YtdlnnkbigeiilaaGreat
open Go.RowKit

def rhold2 (G : GP) (x : ByteArray) (b m : ByteArray) : Bool := decide (textS (lowN G (numOf b ^ numOf x)) G.size = m)
def rhold1 (G : GP) (k : ClaimA) (x : ByteArray) : Bool := (List.zipWith (rhold2 G x) k.bases k.images).all id
def rholdP (G : GP) (l : List ClaimA) (xs : List ByteArray) : Bool := (List.zipWith (rhold1 G) l xs).all id
/-- What the claims are known to be when they are walked. -/
structure RSh (G : GP) (l : List ClaimA) (xs : List ByteArray) : Prop where
  n64 : l.length ≤ 64
  len : ∀ c ∈ l, c.bases.length ≤ 8 ∧ c.images.length = c.bases.length
  bs : ∀ c ∈ l, ∀ s ∈ c.bases, s.size ≤ 32
  ims : ∀ c ∈ l, ∀ s ∈ c.images, s.size ≤ 32
  xl : xs.length = l.length
  xs : ∀ s ∈ xs, s.size ≤ 32

section
variable {G : GP} {aq ap : Option Addr} {cq cp : Nat}

set_option maxRecDepth 100000 in
set_option maxHeartbeats 4000000 in
theorem rHold (ok : G.Ok) (l : List ClaimA) (xs : List ByteArray) (sh : RSh G l xs) (n : Nat) (hn : l.length = n) (b : Bool) (hb : rholdP G l xs = b) (al ax : Option Addr) (cl cx : Nat) (w : World) (hG : RG w G aq ap) (hC : ClaimsAt w al l) (hX : Sl w w.heap.size ax (xs.map Value.string)) :
    Calls Tryz.prog 71 #[.agg #[.int .i64 (G.size : Int), .slice aq (dl G.q.m) cq, .slice ap (dl G.p.m) cp], .slice al n cl, .slice ax n cx] w (Gives (.bool b) w) := by
  have OK := Lib.hid ok
  have HG := Lib.hid hG
  have HC := Lib.hid hC
  have HX := Lib.hid hX
  have HN := Lib.hid hn
  have HBB := Lib.hid hb
  have HSH := Lib.hid sh
  have HXN := Lib.hid (show xs.length = n by rw [sh.xl, hn])
  have hn64 : n ≤ 64 := by rw [← hn]; exact sh.n64
  clear ok hG hC hX hn hb sh
  unfold Gives
  go_enter Tryz.func71, Tryz.ntmps71
  go_wp2_with fail
  obtain ⟨w1, hq1, hb9, hz9, Hbg⟩ := new1 w 86 [.int .i64 (G.size : Int), .slice aq (dl G.q.m) cq, .slice ap (dl G.p.m) cp]
  rw [hq1]
  clear hq1
  have HB := Lib.hid hb9
  have HZS := hz9
  clear hb9 hz9
  have bg_ := Hbg.out.c3
  have BL := Lib.hid (Below.refl w1.heap.size w1)
  go_wp2_with fail
  go_loopw [12] (fun i wr => ∃ j : Nat, j ≤ n ∧ i = .int .i64 j ∧ Hid (Below w1.heap.size w1 wr) ∧ Hid (((List.zipWith (rhold1 G) l xs).take j).all id = true)) (fun i _ => n - (intOf i).toNat)
  case atStart => exact ⟨0, Nat.zero_le _, rfl, BL, rfl⟩
  case round =>
    obtain ⟨j, hj, rfl, HL9, HAL⟩ := hrel
    have hb9 := HL9.out
    clear HL9
    clear bg_
    replace Hbg := Lib.hid (Hbg.out.up hb9)
    replace BL := hbu BL hb9
    replace HB := hbu HB hb9
    replace HZS := sz HZS hb9.size
    clear hb9
    have bg_ := Hbg.out.c3
    by_cases hjn : j < n
    · have hjl : j < l.length := by rw [HN.out]; exact hjn
      have hjx : j < xs.length := by rw [HXN.out]; exact hjn
      obtain ⟨bl, ol, rfl, hbl0, hc⟩ := (HC.out.s.up HB.out).elem ClaimA.cells_len (by omega) j hjl
      have hc_0 := hc 0 _ rfl
      rw [Nat.add_zero] at hc_0
      have hc_1 := hc 1 _ rfl
      clear hc
      obtain ⟨bx, ox, rfl, hbx, hcx⟩ := (HX.out.up HB.out).at j (by simpa using hjx)
      rw [List.getElem_map] at hcx
      have HAT := Lib.hid ((HC.out.up HB.out).one j hjl)
      have HSJ := Lib.hid (HSH.out.len _ (List.getElem_mem hjl))
      have HBJ := Lib.hid (HSH.out.bs _ (List.getElem_mem hjl))
      have HXJ := Lib.hid (HSH.out.xs _ (List.getElem_mem hjx))
      have HSN := Lib.hid (zalls_snoc (f := rhold1 G) hjl hjx HAL.out)
      have HNO := Lib.hid (zalls_not (f := rhold1 G) hjl hjx)
      generalize l[j] = c at *
      generalize xs[j] = x at *
      have HAB := Lib.hid HAT.out.b
      have HAJ := Lib.hid HAT.out.i
      have HSN2 := Lib.hid (show (List.zipWith (rhold2 G x) c.bases c.images).all id = true → _ from HSN.out)
      have HNO2 := Lib.hid (show (List.zipWith (rhold2 G x) c.bases c.images).all id = false → _ from HNO.out)
      clear HAT HSN HNO
      generalize c.bases = bs at *
      generalize c.images = ims at *
      generalize c.ab = ab at *
      generalize c.ai = ai at *
      generalize c.cb = cb at *
      generalize c.ci = ci at *
      have hm8 := HSJ.out.1
      have HCX := Lib.hid hcx
      clear hcx
      have BR := Lib.hid (Below.refl wr.heap.size wr)
      have o2_bg_ := bg_; clear bg_
      obtain ⟨w2, hq2, hb9, hz9, Hbc⟩ := new1 wr 50 [.slice ab bs.length cb, .slice ai ims.length ci]
      replace Hbg := Lib.hid (Hbg.out.up hb9)
      replace BL := hbu BL hb9
      replace BR := hbu BR hb9
      replace HB := hbu HB hb9
      replace HZS := sz HZS hz9.out
      clear hb9 hz9
      have bg_ := Hbg.out.c3
      have bc_ := Hbc.out.c2
      obtain ⟨wo, rfl⟩ : ∃ wo : World, wo = wr := ⟨_, rfl⟩
      have BI := Lib.hid (Below.refl w2.heap.size w2)
      go_wp2_with fail
      clear hq2 o2_bg_
      go_loopw [9] (fun i wr => ∃ t : Nat, t ≤ bs.length ∧ i = .int .i64 t ∧ Hid (Below w2.heap.size w2 wr) ∧ Hid (((List.zipWith (rhold2 G x) bs ims).take t).all id = true)) (fun i _ => bs.length - (intOf i).toNat)
      case atStart => exact ⟨0, Nat.zero_le _, rfl, BI, rfl⟩
      case round =>
        obtain ⟨t, ht, rfl, HL9, HAI⟩ := hrel
        have hb9 := HL9.out
        clear HL9
        clear bg_
        replace Hbg := Lib.hid (Hbg.out.up hb9)
        clear bc_
        replace Hbc := Lib.hid (Hbc.out.up hb9)
        replace BL := hbu BL hb9
        replace BR := hbu BR hb9
        replace BI := hbu BI hb9
        replace HB := hbu HB hb9
        replace HZS := sz HZS hb9.size
        clear hb9
        have bg_ := Hbg.out.c3
        have bc_ := Hbc.out.c2
        by_cases htm : t < bs.length
        · have hti : t < ims.length := by rw [HSJ.out.2]; exact htm
          obtain ⟨b1, o1, rfl, hb1, hc1⟩ := (HAB.out.up BR.out).at t (by simpa using htm)
          obtain ⟨b2, o2, rfl, hb2, hc2⟩ := (HAJ.out.up BR.out).at t (by simpa using hti)
          rw [List.getElem_map] at hc1 hc2
          have HTN := Lib.hid (zalls_snoc (f := rhold2 G x) htm hti HAI.out)
          have HTO := Lib.hid (zalls_not (f := rhold2 G x) htm hti)
          have HBT := Lib.hid (HBJ.out _ (List.getElem_mem htm))
          have hcx := (BR.out.cell (p := ⟨bx, ox + j, none⟩) hbx).trans HCX.out
          have hbx' := Nat.lt_of_lt_of_le hbx BR.out.size
          generalize bs[t] = y at *
          generalize ims[t] = m at *
          obtain ⟨q, hq⟩ : ∃ q, rhold2 G x y m = q := ⟨_, rfl⟩
          have hqe : ((textS (lowN G (numOf y ^ numOf x)) G.size).toList == m.toList) = q := by
            rw [← hq]
            unfold rhold2
            by_cases h : textS (lowN G (numOf y ^ numOf x)) G.size = m
            · rw [decide_eq_true h, h]; simp
            · rw [decide_eq_false h, toList_bne h]
          have HQ := Lib.hid hq
          clear hq
          go_wp2_with fail
          have HT := Lib.hid (show Below wr.heap.size wr wr.drew from (Below.refl _ _).drew)
          have hl_bg := Hbg.out.lt
          have hl_bc := Hbc.out.lt
          refine wp_region_tree (fun wq9 => ∃ E : Over wr, wq9 = E.w) ((.qs [0, 1, 2, 3, 4, 5, 6, 7, 8, 9, 12, 13, 15, 16, 17, 18, 19] (.a 10 (.a 11 (.a 14 (.qs [20] .done)))))) (by kernel_rfl) (by kernel_rfl) (fun _ _ d _ _ h => by cases d <;> exact h) ⟨⟨_, HT.out⟩, rfl⟩ ?_
          have hov_bg := fun (E : Over wr) o => E.cell (b := w.heap.size) o hl_bg
          have hov_bc := fun (E : Over wr) o => E.cell (b := wo.heap.size) o hl_bc
          have hov_b1 := fun (E : Over wr) o => E.cell (b := b1) o hb1
          have hov_b2 := fun (E : Over wr) o => E.cell (b := b2) o hb2
          have hov_bx := fun (E : Over wr) o => E.cell (b := bx) o hbx'
          simp only [Tree.qs]
          repeat (refine tree_q rfl rfl ?_; go_big_quiet_step (fail); refine wpQuiet_nil ?_)
          refine tree_a rfl (fun K hK => ?_)
          go_simp
          refine (refRead_any x (Nat.le_trans HXJ.out (by decide)) _).mono ?_
          rintro e w3 ⟨a5, c5, rfl, hn9, hb9⟩
          replace HT := Lib.hid (below_up HT.out hb9)
          replace HZS := sz HZS (show wr.heap.size ≤ w3.heap.size from HT.out.size)
          clear hb9
          have HN5 := Lib.hid hn9
          clear hn9
          refine hK _ _ ⟨⟨⟨w3, HT.out⟩, rfl⟩, ?_⟩
          clear hK K
          repeat (refine tree_q rfl rfl ?_; go_big_quiet_step (fail); refine wpQuiet_nil ?_)
          refine tree_a rfl (fun K hK => ?_)
          go_simp
          refine (rPower5 OK.out y HBT.out (Nat.le_trans (dl_of_lt _ 16 (numOf_16 x HXJ.out)) (by decide)) _ (HG.out.up (below_up HB.out HT.out)) HN5.out).mono ?_
          rintro e w4 ⟨a6, c6, rfl, hn9, hb9⟩
          replace HN5 := Lib.hid (HN5.out.up hb9)
          replace HT := Lib.hid (below_up HT.out hb9)
          replace HZS := sz HZS (show wr.heap.size ≤ w4.heap.size from HT.out.size)
          clear hb9
          have HN6 := Lib.hid hn9
          clear hn9
          refine hK _ _ ⟨⟨⟨w4, HT.out⟩, rfl⟩, ?_⟩
          clear hK K
          repeat (refine tree_q rfl rfl ?_; go_big_quiet_step (fail); refine wpQuiet_nil ?_)
          refine tree_a rfl (fun K hK => ?_)
          go_simp
          refine (rText2 OK.out _ HN6.out).mono ?_
          rintro e w5 ⟨rfl, hb9⟩
          replace HN5 := Lib.hid (HN5.out.up hb9)
          replace HN6 := Lib.hid (HN6.out.up hb9)
          replace HT := Lib.hid (below_up HT.out hb9)
          replace HZS := sz HZS (show wr.heap.size ≤ w5.heap.size from HT.out.size)
          clear hb9
          refine hK _ _ ⟨⟨⟨w5, HT.out⟩, rfl⟩, ?_⟩
          clear hK K
          repeat (refine tree_q rfl rfl ?_; go_big_quiet_step (fail); refine wpQuiet_nil ?_)
          refine tree_end ?_
          clear hov_bg hl_bg hov_bc hl_bc hov_b1 hov_b2 hov_bx
          clear bg_
          replace Hbg := Lib.hid (Hbg.out.up HT.out)
          clear bc_
          replace Hbc := Lib.hid (Hbc.out.up HT.out)
          replace BL := hbu BL HT.out
          replace BR := hbu BR HT.out
          replace BI := hbu BI HT.out
          replace HB := hbu HB HT.out
          replace HZS := sz HZS HT.out.size
          clear HT
          have bg_ := Hbg.out.c3
          have bc_ := Hbc.out.c2
          cases q
          · obtain rfl : b = false := by rw [← HBB.out]; exact HNO2.out (HTO.out HQ.out)
            go_wp2_with fail
            go_ret
            exact ⟨rfl, HB.out⟩
          · go_wp2_with fail
            go_roundw
            case rel => exact ⟨t + 1, by omega, by go_num, BI, HTN.out HQ.out⟩
            case measure => simp [intOf]; omega
        · have htm' : t = bs.length := by omega
          have HHT := Lib.hid (HSN2.out (zalls_end htm'.symm HAI.out))
          go_wp2_with fail
          go_roundw
          case rel => exact ⟨j + 1, by omega, by go_num, BL, HHT⟩
          case measure => simp [intOf]; omega
    · have hjn' : j = n := by omega
      subst hjn'
      obtain rfl : b = true := by rw [← HBB.out]; exact zalls_end HN.out HAL.out
      go_wp2_with fail
      go_ret
      exact ⟨rfl, HB.out⟩
end
end Go.Proofs.YtdlnnkbigeiilaaGreat

/- What is said first, what comes back, as the document says it. Condition: shapes and sizes of what was asked before. -/
namespace Go.Proofs.YtdlnnkbigeiilaaGreat
open Go.RowKit

/-- Lists that a call has made, none of them in the block of v. -/
def RowsOff (v : Value) (N : Nat) (w : World) (ro : List RowA) : Prop := ∀ r ∈ ro, RowA.At w r ∧ (∀ x, r.a = some x → N ≤ x.block ∧ x.block < w.heap.size ∧ v.ownBlock ≠ some x.block) ∧ r.Ok
theorem RowsOff.up {v : Value} {N : Nat} {w w1 : World} {ro : List RowA} (h : RowsOff v N w ro) (hb : Below w.heap.size w w1) : RowsOff v N w1 ro := fun r hr =>
  let ⟨h1, h2, h3⟩ := h r hr
  ⟨RowA.At.up h1 hb, fun x hx => ⟨(h2 x hx).1, Nat.lt_of_lt_of_le (h2 x hx).2.1 hb.size, (h2 x hx).2.2⟩, h3⟩
theorem RowsOff.push {v : Value} {N g n c : Nat} {w w1 : World} {ro : List RowA} {r : RowA} (h : RowsOff v N w ro) (hr : RowsOff v N w [r]) (hk : Kept (fun q => Value.ownBlock v = some q) w w1) (hf : Value.ownBlock v = some g ∨ w.heap.size ≤ g) : RowsOff (.slice (some ⟨g, 0, none⟩) n c) N w1 (ro ++ [r]) := fun s hs => by
  obtain ⟨h1, h2, h3⟩ : RowA.At w s ∧ (∀ x, s.a = some x → N ≤ x.block ∧ x.block < w.heap.size ∧ v.ownBlock ≠ some x.block) ∧ s.Ok := by
    rcases List.mem_append.1 hs with h9 | h9
    · exact h s h9
    · exact hr s h9
  refine ⟨Sl.kept h1 hk (fun x hx e => (h2 x hx).2.2 e), fun x hx => ⟨(h2 x hx).1, Nat.lt_of_lt_of_le (h2 x hx).2.1 hk.size, ?_⟩, h3⟩
  intro e
  have e9 : g = x.block := Option.some.inj e
  rcases hf with hf | hf
  · exact (h2 x hx).2.2 (by rw [hf, e9])
  · have := (h2 x hx).2.1
    omega
theorem RowsOff.one {v : Value} {N M t c k : Nat} {w : World} {g : Option Addr} {L : List ByteArray} (h : RowO M w 9 1 (.slice g t c) t (L.map Value.string)) (hN : N ≤ M) (hv : ∀ q, v.ownBlock = some q → q < M) (_hk : L.length = k) : RowsOff v N w [⟨g, c, L⟩] := fun s hs => by
  obtain rfl := List.mem_singleton.1 hs
  refine ⟨h.sl, fun x hx => ?_, RowO.rowOk h⟩
  have hx : g = some x := hx
  obtain ⟨b, e⟩ : ∃ b, g = some ⟨b, 0, none⟩ := by
    rcases h.2 with ⟨hv, _⟩ | ⟨g0, cap, cur, hv, _⟩
    · simp only [Value.slice.injEq] at hv
      rw [hv.1] at hx
      cases hx
    · simp only [Value.slice.injEq] at hv
      exact ⟨g0, hv.1⟩
  subst e
  cases hx
  have h9 := h.lt b rfl
  refine ⟨Nat.le_trans hN h9.1, h9.2, fun e => ?_⟩
  have := hv _ e
  have h8 : M ≤ b := h9.1
  have : b < M := this
  omega
def rvalB (G : GP) (y : Nat) (l : List ClaimA) (xs : List ByteArray) (i t : Nat) : Nat := lowN G (numOf ((l.getD i claim0).bases.getD t ⟨#[]⟩) ^ numOf (xs.getD i ⟨#[]⟩)) * lowN G (numOf ((l.getD i claim0).images.getD t ⟨#[]⟩) ^ y)
theorem rvalB_eq (G : GP) (y : Nat) {l : List ClaimA} {xs : List ByteArray} {i t : Nat} (hi : i < l.length) (hx : i < xs.length) (ht : t < l[i].bases.length) (hti : t < l[i].images.length) : rvalB G y l xs i t = lowN G (numOf l[i].bases[t] ^ numOf xs[i]) * lowN G (numOf l[i].images[t] ^ y) := by
  unfold rvalB
  simp [List.getD, hi, hx, ht, hti]

section
variable {G : GP} {aq ap : Option Addr} {cq cp : Nat}
theorem rOf0 (w : World) : Calls Tryz.prog 57 #[.int .i64 0] w fun e w' => NumR w e w' 0 := refOf_any 0 (by decide) w
theorem rText3 (ok : G.Ok) (x : Nat) {an : Option Addr} {cn : Nat} (w : World) (hN : NumAt w an (lowN G x)) :
    Calls Tryz.prog 49 #[.slice an (dl (lowN G x)) cn, .int .i64 (G.size : Int)] w fun e w' => e = .returned (.string (textS (lowN G x) G.size)) ∧ Below w.heap.size w w' := rText2 ok w hN

set_option maxRecDepth 100000 in
set_option maxHeartbeats 4000000 in
theorem rBackOf (ok : G.Ok) (ch : ByteArray) (y : Nat) (hy : subQ G 0 (numOf ch) = y) (hcs : ch.size ≤ 32) (hcq : numOf ch ≤ G.q.m) (l : List ClaimA) (xs : List ByteArray) (sh : RSh G l xs) (n : Nat) (hn : l.length = n) (al ax : Option Addr) (cl cx : Nat) (w : World) (hG : RG w G aq ap) (hC : ClaimsAt w al l) (hX : Sl w w.heap.size ax (xs.map Value.string)) :
    Calls Tryz.prog 62 #[.agg #[.int .i64 (G.size : Int), .slice aq (dl G.q.m) cq, .slice ap (dl G.p.m) cp], .slice al n cl, .string ch, .slice ax n cx] w (RowsR (eachA G (rvalB G y l xs) (lens l) n) w) := by
  have OK := Lib.hid ok
  have HG := Lib.hid hG
  have HC := Lib.hid hC
  have HX := Lib.hid hX
  have HN := Lib.hid hn
  have HSH := Lib.hid sh
  have HCS := Lib.hid hcs
  have HCQ := Lib.hid hcq
  have HYE := Lib.hid hy
  have HXN := Lib.hid (show xs.length = n by rw [sh.xl, hn])
  have hn64 : n ≤ 64 := by rw [← hn]; exact sh.n64
  have HLG := Lib.hid (show ∀ i (hi : i < l.length), (lens l).getD i 0 = l[i].bases.length from fun i hi => by unfold lens; simp [List.getD, hi])
  clear ok hG hC hX hn sh hcs hcq hy
  go_enter Tryz.func62, Tryz.ntmps62
  go_wp2_with fail
  obtain ⟨w1, hq1, hb9, hz9, Hbg⟩ := new1 w 86 [.int .i64 (G.size : Int), .slice aq (dl G.q.m) cq, .slice ap (dl G.p.m) cp]
  rw [hq1]
  clear hq1
  have HB := Lib.hid hb9
  have HZS := hz9
  clear hb9 hz9
  have bg_ := Hbg.out.c3
  go_wp2_with fail
  have HT := Lib.hid (show Below w1.heap.size w1 w1.drew from (Below.refl _ _).drew)
  have hl_bg := Hbg.out.lt
  refine wp_region_tree (fun wq9 => ∃ E : Over w1, wq9 = E.w) ((.qs [0, 2] (.a 1 (.a 3 (.a 4 (.qs [5] .done)))))) (by kernel_rfl) (by kernel_rfl) (fun _ _ d _ _ h => by cases d <;> exact h) ⟨⟨_, HT.out⟩, rfl⟩ ?_
  have hov_bg := fun (E : Over w1) o => E.cell (b := w.heap.size) o hl_bg
  simp only [Tree.qs]
  repeat (refine tree_q rfl rfl ?_; go_big_quiet_step (fail); refine wpQuiet_nil ?_)
  refine tree_a rfl (fun K hK => ?_)
  go_simp
  refine (rOf0 _).mono ?_
  rintro e w2 ⟨a1, c1, rfl, hn9, hb9⟩
  replace HT := Lib.hid (below_up HT.out hb9)
  replace HZS := sz HZS (show w1.heap.size ≤ w2.heap.size from HT.out.size)
  clear hb9
  have HN1 := Lib.hid hn9
  clear hn9
  refine hK _ _ ⟨⟨⟨w2, HT.out⟩, rfl⟩, ?_⟩
  clear hK K
  repeat (refine tree_q rfl rfl ?_; go_big_quiet_step (fail); refine wpQuiet_nil ?_)
  refine tree_a rfl (fun K hK => ?_)
  go_simp
  refine (refRead_any ch (Nat.le_trans HCS.out (by decide)) _).mono ?_
  rintro e w3 ⟨a2, c2, rfl, hn9, hb9⟩
  replace HN1 := Lib.hid (HN1.out.up hb9)
  replace HT := Lib.hid (below_up HT.out hb9)
  replace HZS := sz HZS (show w1.heap.size ≤ w3.heap.size from HT.out.size)
  clear hb9
  have HN2 := Lib.hid hn9
  clear hn9
  refine hK _ _ ⟨⟨⟨w3, HT.out⟩, rfl⟩, ?_⟩
  clear hK K
  repeat (refine tree_q rfl rfl ?_; go_big_quiet_step (fail); refine wpQuiet_nil ?_)
  refine tree_a rfl (fun K hK => ?_)
  go_simp
  refine (rSubQ OK.out (show 0 < DD ^ 16 by decide) HCQ.out _ (HG.out.up (below_up HB.out HT.out)) HN1.out HN2.out).mono ?_
  rintro e w4 ⟨a3, c3, rfl, hn9, hb9⟩
  replace HN1 := Lib.hid (HN1.out.up hb9)
  replace HN2 := Lib.hid (HN2.out.up hb9)
  replace HT := Lib.hid (below_up HT.out hb9)
  replace HZS := sz HZS (show w1.heap.size ≤ w4.heap.size from HT.out.size)
  clear hb9
  have HN3 := Lib.hid hn9
  clear hn9
  refine hK _ _ ⟨⟨⟨w4, HT.out⟩, rfl⟩, ?_⟩
  clear hK K
  repeat (refine tree_q rfl rfl ?_; go_big_quiet_step (fail); refine wpQuiet_nil ?_)
  refine tree_end ?_
  clear hov_bg hl_bg
  clear bg_
  replace Hbg := Lib.hid (Hbg.out.up HT.out)
  replace HB := hbu HB HT.out
  replace HZS := sz HZS HT.out.size
  clear HT
  have bg_ := Hbg.out.c3
  have BL := Lib.hid (Below.refl w4.heap.size w4)
  have HY := HN3
  clear HN3
  have HYD := Lib.hid (Nat.le_trans (dl_of_lt _ 16 (q_16 OK.out (subQ_lt OK.out 0 (numOf ch)))) (by decide) : dl (subQ G 0 (numOf ch)) ≤ 65536)
  rw [HYE.out] at HY HYD ⊢
  clear HYE
  go_wp2_with fail
  go_loopw [22, 10] (fun i v wr => ∃ (j : Nat) (g : Option Addr) (c9 : Nat) (ro : List RowA), j ≤ n ∧ i = .int .i64 j ∧ v = .slice g j c9 ∧ Hid (ro.map RowA.l = eachA G (rvalB G y l xs) (lens l) j) ∧ Hid (Below w4.heap.size w4 wr) ∧ Hid (RowO w4.heap.size wr 23 1 (.slice g j c9) j (ro.flatMap RowA.cells)) ∧ Hid (RowsOff (.slice g j c9) w4.heap.size wr ro)) (fun i _ _ => n - (intOf i).toNat)
  case atStart => exact ⟨0, none, 0, [], Nat.zero_le _, rfl, rfl, rfl, BL, RowO.nil, fun _ h => by cases h⟩
  case round =>
    obtain ⟨j, g, c9, ro, hj, rfl, rfl, HRM, HL9, Hr, HRN⟩ := hrel
    have hb9 := HL9.out
    clear HL9
    clear bg_
    replace Hbg := Lib.hid (Hbg.out.up hb9)
    replace HN1 := Lib.hid (HN1.out.up hb9)
    replace HN2 := Lib.hid (HN2.out.up hb9)
    replace BL := hbu BL hb9
    replace HB := hbu HB hb9
    replace HZS := sz HZS hb9.size
    clear hb9
    have bg_ := Hbg.out.c3
    by_cases hjn : j < n
    · have hjl : j < l.length := by rw [HN.out]; exact hjn
      have hjx : j < xs.length := by rw [HXN.out]; exact hjn
      obtain ⟨bl, ol, rfl, hbl0, hc⟩ := (HC.out.s.up HB.out).elem ClaimA.cells_len (by omega) j hjl
      have hc_0 := hc 0 _ rfl
      rw [Nat.add_zero] at hc_0
      have hc_1 := hc 1 _ rfl
      clear hc
      obtain ⟨bx, ox, rfl, hbx, hcx⟩ := (HX.out.up HB.out).at j (by simpa using hjx)
      rw [List.getElem_map] at hcx
      have HAT := Lib.hid ((HC.out.up HB.out).one j hjl)
      have HSJ := Lib.hid (HSH.out.len _ (List.getElem_mem hjl))
      have HBJ := Lib.hid (HSH.out.bs _ (List.getElem_mem hjl))
      have HIJ := Lib.hid (HSH.out.ims _ (List.getElem_mem hjl))
      have HXJ := Lib.hid (HSH.out.xs _ (List.getElem_mem hjx))
      have HMM := Lib.hid (HLG.out j hjl)
      have HVE := Lib.hid (fun t (ht : t < l[j].bases.length) (hti : t < l[j].images.length) => rvalB_eq G y hjl hjx ht hti)
      generalize l[j] = c at *
      generalize xs[j] = x at *
      have HAB := Lib.hid HAT.out.b
      have HAJ := Lib.hid HAT.out.i
      clear HAT
      generalize c.bases = bs at *
      generalize c.images = ims at *
      generalize c.ab = ab at *
      generalize c.ai = ai at *
      generalize c.cb = cb at *
      generalize c.ci = ci at *
      have hm8 := HSJ.out.1
      have HCX := Lib.hid hcx
      clear hcx
      have BR := Lib.hid (Below.refl wr.heap.size wr)
      have o5_bg_ := bg_; clear bg_
      obtain ⟨w5, hq5, hb9, hz9, Hbc⟩ := new1 wr 50 [.slice ab bs.length cb, .slice ai ims.length ci]
      replace Hbg := Lib.hid (Hbg.out.up hb9)
      replace Hr := Lib.hid (Hr.out.up hb9)
      replace HN1 := Lib.hid (HN1.out.up hb9)
      replace HN2 := Lib.hid (HN2.out.up hb9)
      replace BL := hbu BL hb9
      replace BR := hbu BR hb9
      replace HB := hbu HB hb9
      replace HZS := sz HZS hz9.out
      clear hb9 hz9
      have bg_ := Hbg.out.c3
      have bc_ := Hbc.out.c2
      have hro := Hr.out.lt
      obtain ⟨wo, rfl⟩ : ∃ wo : World, wo = wr := ⟨_, rfl⟩
      have BI := Lib.hid (Below.refl w5.heap.size w5)
      go_wp2_with fail
      clear hq5 o5_bg_
      go_loopw [14, 13] (fun i v wr => ∃ (t : Nat) (g9 : Option Addr) (cz : Nat), t ≤ bs.length ∧ i = .int .i64 t ∧ v = .slice g9 t cz ∧ Hid (Below w5.heap.size w5 wr) ∧ Hid (RowO w5.heap.size wr 9 1 (.slice g9 t cz) t ((eachL G (rvalB G y l xs) j t).map Value.string))) (fun i _ _ => bs.length - (intOf i).toNat)
      case atStart => exact ⟨0, none, 0, Nat.zero_le _, rfl, rfl, BI, RowO.nil⟩
      case round =>
        obtain ⟨t, g9, cz, ht, rfl, rfl, HL9, Hq⟩ := hrel
        have hb9 := HL9.out
        clear HL9
        clear bg_
        replace Hbg := Lib.hid (Hbg.out.up hb9)
        clear bc_
        replace Hbc := Lib.hid (Hbc.out.up hb9)
        replace Hr := Lib.hid (Hr.out.up hb9)
        replace HN1 := Lib.hid (HN1.out.up hb9)
        replace HN2 := Lib.hid (HN2.out.up hb9)
        replace BL := hbu BL hb9
        replace BR := hbu BR hb9
        replace BI := hbu BI hb9
        replace HB := hbu HB hb9
        replace HZS := sz HZS hb9.size
        clear hb9
        have bg_ := Hbg.out.c3
        have bc_ := Hbc.out.c2
        by_cases htm : t < bs.length
        · have hti : t < ims.length := by rw [HSJ.out.2]; exact htm
          obtain ⟨b1, o1, rfl, hb10, hb1, hc1⟩ := HAB.out.atUp BR.out t (by simpa using htm)
          obtain ⟨b2, o2, rfl, hb20, hb2, hc2⟩ := HAJ.out.atUp BR.out t (by simpa using hti)
          have HB10 := Lib.hid hb10
          have HB20 := Lib.hid hb20
          have HBX0 := Lib.hid hbx
          replace HZS := sz HZS HB10.out
          replace HZS := sz HZS HB20.out
          replace HZS := sz HZS HBX0.out
          clear hb10 hb20
          rw [List.getElem_map] at hc1 hc2
          have HBT := Lib.hid (HBJ.out _ (List.getElem_mem htm))
          have HIT := Lib.hid (HIJ.out _ (List.getElem_mem hti))
          have HVT := Lib.hid (HVE.out t htm hti)
          have hcx := (BR.out.cell (p := ⟨bx, ox + j, none⟩) hbx).trans HCX.out
          have hbx' := Nat.lt_of_lt_of_le hbx BR.out.size
          generalize bs[t] = z at *
          generalize ims[t] = m at *
          clear hc_0 hc_1
          go_wp2_with fail
          have HT := Lib.hid (show Below wr.heap.size wr wr.drew from (Below.refl _ _).drew)
          have hl_bg := Hbg.out.lt
          have hl_bc := Hbc.out.lt
          refine wp_region_tree (fun wq9 => ∃ E : But wr (Value.ownBlock (.slice g9 t cz)), wq9 = E.w) ((.qs [0, 1, 2, 3, 4, 5, 6, 7, 8, 9, 10, 11, 14, 15, 16, 17, 18, 19, 20, 23, 24] (.a 12 (.a 13 (.a 21 (.a 22 (.a 25 (.a 26 (.a 27 (.qs [28] .done)))))))))) (by kernel_rfl) (by kernel_rfl) (fun _ _ d _ _ h => by cases d <;> exact h) ⟨⟨_, ((below_grown HT.out).but _)⟩, rfl⟩ ?_
          have hov_bg := fun (E : But wr (Value.ownBlock (.slice g9 t cz))) o => E.cell (b := w.heap.size) o hl_bg (by intro e9; have a1 := Hq.out.lt _ e9; have g0 := HZS.out; omega)
          have hov_bc := fun (E : But wr (Value.ownBlock (.slice g9 t cz))) o => E.cell (b := wo.heap.size) o hl_bc (by intro e9; have a1 := Hq.out.lt _ e9; have g0 := HZS.out; omega)
          have hov_b1 := fun (E : But wr (Value.ownBlock (.slice g9 t cz))) o => E.cell (b := b1) o hb1 (by intro e9; have a1 := Hq.out.lt _ e9; have g0 := HZS.out; omega)
          have hov_b2 := fun (E : But wr (Value.ownBlock (.slice g9 t cz))) o => E.cell (b := b2) o hb2 (by intro e9; have a1 := Hq.out.lt _ e9; have g0 := HZS.out; omega)
          have hov_bx := fun (E : But wr (Value.ownBlock (.slice g9 t cz))) o => E.cell (b := bx) o hbx' (by intro e9; have a1 := Hq.out.lt _ e9; have g0 := HZS.out; omega)
          simp only [Tree.qs]
          repeat (refine tree_q rfl rfl ?_; go_big_quiet_step (fail); refine wpQuiet_nil ?_)
          refine tree_a rfl (fun K hK => ?_)
          go_simp
          refine (refRead_any x (Nat.le_trans HXJ.out (by decide)) _).mono ?_
          rintro e w6 ⟨a5, c5, rfl, hn9, hb9⟩
          replace HT := Lib.hid (below_up HT.out hb9)
          replace HZS := sz HZS (show wr.heap.size ≤ w6.heap.size from HT.out.size)
          clear hb9
          have HN5 := Lib.hid hn9
          clear hn9
          refine hK _ _ ⟨⟨⟨w6, ((below_grown HT.out).but _)⟩, rfl⟩, ?_⟩
          clear hK K
          repeat (refine tree_q rfl rfl ?_; go_big_quiet_step (fail); refine wpQuiet_nil ?_)
          refine tree_a rfl (fun K hK => ?_)
          go_simp
          refine (rPower5 OK.out z HBT.out (Nat.le_trans (dl_of_lt _ 16 (numOf_16 x HXJ.out)) (by decide)) _ (HG.out.up (below_up HB.out HT.out)) HN5.out).mono ?_
          rintro e w7 ⟨a6, c6, rfl, hn9, hb9⟩
          replace HN5 := Lib.hid (HN5.out.up hb9)
          replace HT := Lib.hid (below_up HT.out hb9)
          replace HZS := sz HZS (show wr.heap.size ≤ w7.heap.size from HT.out.size)
          clear hb9
          have HN6 := Lib.hid hn9
          clear hn9
          refine hK _ _ ⟨⟨⟨w7, ((below_grown HT.out).but _)⟩, rfl⟩, ?_⟩
          clear hK K
          repeat (refine tree_q rfl rfl ?_; go_big_quiet_step (fail); refine wpQuiet_nil ?_)
          refine tree_a rfl (fun K hK => ?_)
          go_simp
          refine (rPower5 OK.out m HIT.out HYD.out _ (HG.out.up (below_up HB.out HT.out)) (HY.out.up (below_up BL.out HT.out))).mono ?_
          rintro e w8 ⟨a7, c7, rfl, hn9, hb9⟩
          replace HN5 := Lib.hid (HN5.out.up hb9)
          replace HN6 := Lib.hid (HN6.out.up hb9)
          replace HT := Lib.hid (below_up HT.out hb9)
          replace HZS := sz HZS (show wr.heap.size ≤ w8.heap.size from HT.out.size)
          clear hb9
          have HN7 := Lib.hid hn9
          clear hn9
          refine hK _ _ ⟨⟨⟨w8, ((below_grown HT.out).but _)⟩, rfl⟩, ?_⟩
          clear hK K
          repeat (refine tree_q rfl rfl ?_; go_big_quiet_step (fail); refine wpQuiet_nil ?_)
          refine tree_a rfl (fun K hK => ?_)
          go_simp
          refine (rProd OK.out (lowN_16 OK.out _) (lowN_16 OK.out _) _ (HG.out.up (below_up HB.out HT.out)) HN6.out HN7.out).mono ?_
          rintro e w9 ⟨a8, c8, rfl, hn9, hb9⟩
          replace HN5 := Lib.hid (HN5.out.up hb9)
          replace HN6 := Lib.hid (HN6.out.up hb9)
          replace HN7 := Lib.hid (HN7.out.up hb9)
          replace HT := Lib.hid (below_up HT.out hb9)
          replace HZS := sz HZS (show wr.heap.size ≤ w9.heap.size from HT.out.size)
          clear hb9
          have HN8 := Lib.hid hn9
          clear hn9
          refine hK _ _ ⟨⟨⟨w9, ((below_grown HT.out).but _)⟩, rfl⟩, ?_⟩
          clear hK K
          repeat (refine tree_q rfl rfl ?_; go_big_quiet_step (fail); refine wpQuiet_nil ?_)
          refine tree_a rfl (fun K hK => ?_)
          go_simp
          refine (rText2 OK.out _ HN8.out).mono ?_
          rintro e w10 ⟨rfl, hb9⟩
          replace HN5 := Lib.hid (HN5.out.up hb9)
          replace HN6 := Lib.hid (HN6.out.up hb9)
          replace HN7 := Lib.hid (HN7.out.up hb9)
          replace HN8 := Lib.hid (HN8.out.up hb9)
          replace HT := Lib.hid (below_up HT.out hb9)
          replace HZS := sz HZS (show wr.heap.size ≤ w10.heap.size from HT.out.size)
          clear hb9
          refine hK _ _ ⟨⟨⟨w10, ((below_grown HT.out).but _)⟩, rfl⟩, ?_⟩
          clear hK K
          repeat (refine tree_q rfl rfl ?_; go_big_quiet_step (fail); refine wpQuiet_nil ?_)
          clear hov_bg hl_bg hov_bc hl_bc hov_b1 hov_b2 hov_bx
          refine tree_a rfl (fun K hK => ?_)
          go_simp
          refine hK _ _ ⟨⟨⟨_, (below_grown (HT.out.alloc HT.out.size _)).but _⟩, rfl⟩, ?_⟩
          clear hK K
          obtain ⟨i9, hi9, hz90, hz91, hz92⟩ := info_parts infoStr
          have HG1 := Lib.hid ((below_grown HT.out).but (Value.ownBlock (.slice g9 t cz)))
          clear bg_
          replace Hbg := Lib.hid (Hbg.out.up HT.out)
          clear bc_
          replace Hbc := Lib.hid (Hbc.out.up HT.out)
          replace Hr := Lib.hid (Hr.out.up HT.out)
          replace Hq := Lib.hid (Hq.out.up HT.out)
          replace HN1 := Lib.hid (HN1.out.up HT.out)
          replace HN2 := Lib.hid (HN2.out.up HT.out)
          replace BL := hbu BL HT.out
          replace BR := hbu BR HT.out
          replace BI := hbu BI HT.out
          replace HB := hbu HB HT.out
          replace HZS := sz HZS HT.out.size
          refine tree_a rfl (fun K hK => ?_)
          refine step_pushR (w5.heap.size) w10 (by have g0 := HZS.out; omega) rfl _ _ 23 rfl 9 i9 _ 1 16 Tryz.underlying23 hi9 hz90 hz91 hz92 rfl (by omega) ((.slice g9 t cz)) (t) (((eachL G (rvalB G y l xs) j t).map Value.string)) rfl Hq.out _ _ _ rfl rfl rfl (by simp [Value.oneCell']) (by omega) (by unfold maxLen; omega) ?_
          intro g11 c11 w11 hown9 hg9
          have HGR := Lib.hid (HG1.out.trans hg9)
          have hb9 := Below.grown HB.out hg9 (by have g0 := HZS.out; omega) (fun q hq => Nat.le_trans (show w.heap.size ≤ w5.heap.size by have g0 := HZS.out; omega) (Hq.out.lt q hq).1)
          replace Hbg := Lib.hid (Hbg.out.grown hg9 (fun e9 => by have a1 := Hq.out.lt _ e9; have g0 := HZS.out; omega))
          replace Hbc := Lib.hid (Hbc.out.grown hg9 (fun e9 => by have a1 := Hq.out.lt _ e9; have g0 := HZS.out; omega))
          clear HN1 HN2 HN5 HN6 HN7 HN8
          replace BL := Lib.hid (Below.grown BL.out hg9 (by have g0 := HZS.out; omega) (fun q hq => Nat.le_trans (show w4.heap.size ≤ w5.heap.size by have g0 := HZS.out; omega) (Hq.out.lt q hq).1))
          replace BR := Lib.hid (Below.grown BR.out hg9 (by have g0 := HZS.out; omega) (fun q hq => Nat.le_trans (show wo.heap.size ≤ w5.heap.size by have g0 := HZS.out; omega) (Hq.out.lt q hq).1))
          replace BI := Lib.hid (Below.grown BI.out hg9 (by have g0 := HZS.out; omega) (fun q hq => Nat.le_trans (show w5.heap.size ≤ w5.heap.size by have g0 := HZS.out; omega) (Hq.out.lt q hq).1))
          replace HZS := sz HZS hg9.size
          clear Hq HB HT HG1
          have Hq := Lib.hid hown9
          have HB := Lib.hid hb9
          clear hb9 hown9 hg9 hi9 hz90 hz91 hz92
          refine hK _ _ ⟨⟨⟨w11, HGR.out⟩, rfl⟩, ?_⟩
          clear hK K HGR
          have bg_ := Hbg.out.c3
          have bc_ := Hbc.out.c2
          try simp only [Act.put, List.setIfInBounds_toArray, List.set_cons_succ, List.set_cons_zero]
          repeat (refine tree_q rfl rfl ?_; go_big_quiet_step (fail); refine wpQuiet_nil ?_)
          refine tree_end ?_
          go_wp2_with fail
          go_roundw
          case rel => exact ⟨t + 1, _, _, by omega, by go_num, rfl, BI, Hq.out.eq (by rw [eachL_snoc, HVT.out]) rfl⟩
          case measure => simp [intOf]; omega
        · have htm' : t = bs.length := by omega
          subst htm'
          have HOFF := Lib.hid (HRN.out.up BR.out)
          have HONE := Lib.hid (RowsOff.one (v := .slice g j c9) (N := w4.heap.size) (k := bs.length) Hq.out (by have a1 := HZS.out; have a2 := HZS.out; omega) (fun q9 h9 => (hro q9 h9).2) (eachL_len G _ j _))
          go_upto_region 11 with fail
          clear bc_
          clear Hbc
          have HKP := Lib.hid (Kept.refl (fun q9 => Value.ownBlock (.slice g j c9) = some q9) wr)
          obtain ⟨i9, hi9, hz90, hz91, hz92⟩ := info_parts infoStrs
          go_wp2_with (at_builtin; refine wpList_pushF (w4.heap.size) wr (by have g0 := HZS.out; omega) rfl _ _ 28 rfl 23 i9 _ 1 24 Tryz.underlying28 hi9 hz90 hz91 hz92 rfl (by omega) ((.slice g j c9)) (j) ((ro.flatMap RowA.cells)) rfl Hr.out _ _ _ rfl rfl rfl (by simp [Value.oneCell']) (by omega) (by unfold maxLen; omega) ?_)
          intro g6 c6 w6 hown9 hg9 hf9
          clear bg_
          have hb9 := Below.grown HB.out hg9 (by have g0 := HZS.out; omega) (fun q hq => Nat.le_trans (show w.heap.size ≤ w4.heap.size by have g0 := HZS.out; omega) (Hr.out.lt q hq).1)
          replace Hbg := Lib.hid (Hbg.out.grown hg9 (fun e9 => by have a1 := Hr.out.lt _ e9; have g0 := HZS.out; omega))
          clear HN1 HN2
          replace BL := Lib.hid (Below.grown BL.out hg9 (by have g0 := HZS.out; omega) (fun q hq => Nat.le_trans (show w4.heap.size ≤ w4.heap.size by have g0 := HZS.out; omega) (Hr.out.lt q hq).1))
          replace HKP := Lib.hid (Kept.grown HKP.out hg9 (fun q hq => Or.inr hq))
          replace HZS := sz HZS hg9.size
          clear Hr HB
          have Hr := Lib.hid hown9
          have HB := Lib.hid hb9
          clear hb9 hown9 hg9 hi9 hz90 hz91 hz92
          have bg_ := Hbg.out.c3
          have HRP := Lib.hid (fun (n9 c9 : Nat) => RowsOff.push (n := n9) (c := c9) HOFF.out HONE.out HKP.out hf9)
          go_wp2_with fail
          go_roundw
          case rel => exact ⟨j + 1, _, _, _, by omega, by go_num, rfl, Lib.hid (by rw [List.map_append, HRM.out, eachA_snoc, HMM.out]; rfl), BL, Hr.out.eq (by rw [List.flatMap_append]; simp [RowA.cells, eachL_len]) rfl, HRP.out _ _⟩
          case measure => simp [intOf]; omega
    · have hjn' : j = n := by omega
      subst hjn'
      go_wp2_with fail
      go_ret
      exact ⟨HB.out, g, c9, ro, by rw [eachA_len]; rfl, HRM.out, ⟨Hr.out.sl, fun r hr => (HRN.out r hr).1⟩, fun r hr => (HRN.out r hr).2.2⟩
end
end Go.Proofs.YtdlnnkbigeiilaaGreat

/- Holds, First, Back, as the document says them. Condition: the lists that memory can hold. -/
namespace Go.Proofs.YtdlnnkbigeiilaaGreat
open Go.RowKit

theorem rsh_of {G : GP} (ok : G.Ok) {l : List ClaimA} {xs : List ByteArray} (h1 : wrongE G l = 0) (h2 : scE G l.length xs = 0) : RSh G l xs := by
  obtain ⟨hs, he⟩ := wrong_ok h1
  have hs := shape_ok hs
  have hx : xs.length = l.length ∧ xs.all (isSc G.q.m G.size) = true := by
    unfold scE at h2
    by_cases h : xs.length = l.length
    · rw [if_pos h] at h2
      by_cases g : xs.all (isSc G.q.m G.size) = true
      · exact ⟨h, g⟩
      · rw [if_neg g] at h2; cases h2
    · rw [if_neg h] at h2; cases h2
  have hc : ∀ c ∈ l, c.bases.all (isEl G.q.m G.size) = true ∧ c.images.all (isEl G.q.m G.size) = true := fun c hc => by
    have h9 : (c.bases.all (isEl G.q.m G.size) && c.images.all (isEl G.q.m G.size)) = true := List.all_eq_true.1 he c hc
    exact (Bool.and_eq_true _ _).mp h9
  exact ⟨hs.2.1, fun c h => (hs.2.2 c h).2, fun c h s g => el_len ok (List.all_eq_true.1 (hc c h).1 s g), fun c h s g => el_len ok (List.all_eq_true.1 (hc c h).2 s g), hx.1, fun s g => sc_len ok (List.all_eq_true.1 hx.2 s g)⟩
theorem sc_lens {G : GP} {l : List ClaimA} {xs : List ByteArray} (h2 : scE G l.length xs = 0) : xs.length = l.length := by
  unfold scE at h2
  by_cases h : xs.length = l.length
  · exact h
  · rw [if_neg h] at h2; cases h2

section
variable {G : GP} {aq ap : Option Addr} {cq cp : Nat}
theorem rWrongSc_e (ok : G.Ok) (n : Nat) (l : List ByteArray) (z : Nat) (hz : scE G n l = z) (al : Option Addr) (cl : Nat) (hlen : l.length ≤ 8796093022207) (w : World) (hG : RG w G aq ap) (hS : Sl w w.heap.size al (l.map Value.string)) :
    Calls Tryz.prog 59 #[.agg #[.int .i64 (G.size : Int), .slice aq (dl G.q.m) cq, .slice ap (dl G.p.m) cp], .int .i64 (n : Int), .slice al l.length cl] w (Gives (.int .i64 (z : Int)) w) := by
  subst hz
  exact rWrongSc ok n l al cl hlen w hG hS
theorem rWrongSc_n (ok : G.Ok) (n : Nat) (l : List ByteArray) (hn : l.length = n) (z : Nat) (hz : scE G n l = z) (al : Option Addr) (cl : Nat) (hlen : l.length ≤ 8796093022207) (w : World) (hG : RG w G aq ap) (hS : Sl w w.heap.size al (l.map Value.string)) :
    Calls Tryz.prog 59 #[.agg #[.int .i64 (G.size : Int), .slice aq (dl G.q.m) cq, .slice ap (dl G.p.m) cp], .int .i64 (n : Int), .slice al n cl] w (Gives (.int .i64 (z : Int)) w) := by
  have h := rWrongSc_e (aq := aq) (ap := ap) (cq := cq) (cp := cp) ok n l z hz al cl hlen w hG hS
  rwa [hn] at h
end

def rholdK (k : Int) (l : List ClaimA) (xs : List ByteArray) : Bool := decide (openK k l xs = 0) && rholdP (grp k.toNat) l xs
def zeroT (G : GP) : ByteArray := textS 0 G.size
theorem zeroT_size (G : GP) : (zeroT G).size = G.size := textS_size 0 G.size
theorem zeroT_num (G : GP) : numOf (zeroT G) = 0 := by unfold zeroT; rw [numOf_textS, Nat.zero_mod]

section
variable {G : GP} {aq ap : Option Addr} {cq cp : Nat}
theorem rText0 (ok : G.Ok) {an : Option Addr} {cn : Nat} (w : World) (hN : NumAt w an 0) :
    Calls Tryz.prog 49 #[.slice an (dl 0) cn, .int .i64 (G.size : Int)] w fun e w' => e = .returned (.string (zeroT G)) ∧ Below w.heap.size w w' := rText ok (by decide) w hN

set_option maxRecDepth 100000 in
set_option maxHeartbeats 2000000 in
theorem rFirstOf (ok : G.Ok) (y : Nat) (hy : subQ G 0 0 = y) (l : List ClaimA) (xs : List ByteArray) (sh : RSh G l xs) (n : Nat) (hn : l.length = n) (al ax : Option Addr) (cl cx : Nat) (w : World) (hG : RG w G aq ap) (hC : ClaimsAt w al l) (hX : Sl w w.heap.size ax (xs.map Value.string)) :
    Calls Tryz.prog 74 #[.agg #[.int .i64 (G.size : Int), .slice aq (dl G.q.m) cq, .slice ap (dl G.p.m) cp], .slice al n cl, .slice ax n cx] w (RowsR (eachA G (rvalB G y l xs) (lens l) n) w) := by
  have OK := Lib.hid ok
  have HG := Lib.hid hG
  have HC := Lib.hid hC
  have HX := Lib.hid hX
  have HN := Lib.hid hn
  have HSH := Lib.hid sh
  have HY := Lib.hid (show subQ G 0 (numOf (zeroT G)) = y by rw [zeroT_num, hy])
  have HZ1 := Lib.hid (show (zeroT G).size ≤ 32 by rw [zeroT_size]; exact ok.size_le)
  have HZ2 := Lib.hid (show numOf (zeroT G) ≤ G.q.m by rw [zeroT_num]; exact Nat.zero_le _)
  clear ok hG hC hX hn sh hy
  go_enter Tryz.func74, Tryz.ntmps74
  go_wp2_with fail
  obtain ⟨w1, hq1, hb9, hz9, Hbg⟩ := new1 w 86 [.int .i64 (G.size : Int), .slice aq (dl G.q.m) cq, .slice ap (dl G.p.m) cp]
  rw [hq1]
  clear hq1
  have HB := Lib.hid hb9
  have HZS := hz9
  clear hb9 hz9
  have bg_ := Hbg.out.c3
  go_wp2_with fail
  have HT := Lib.hid (show Below w1.heap.size w1 w1.drew from (Below.refl _ _).drew)
  have hl_bg := Hbg.out.lt
  refine wp_region_tree (fun wq9 => ∃ E : Over w1, wq9 = E.w) ((.qs [0, 1, 3, 4, 6] (.a 2 (.a 5 (.a 7 (.qs [8] .done)))))) (by kernel_rfl) (by kernel_rfl) (fun _ _ d _ _ h => by cases d <;> exact h) ⟨⟨_, HT.out⟩, rfl⟩ ?_
  have hov_bg := fun (E : Over w1) o => E.cell (b := w.heap.size) o hl_bg
  simp only [Tree.qs]
  repeat (refine tree_q rfl rfl ?_; go_big_quiet_step (fail); refine wpQuiet_nil ?_)
  refine tree_a rfl (fun K hK => ?_)
  go_simp
  refine (rOf0 _).mono ?_
  rintro e w2 ⟨a1, c1, rfl, hn9, hb9⟩
  replace HT := Lib.hid (below_up HT.out hb9)
  replace HZS := sz HZS (show w1.heap.size ≤ w2.heap.size from HT.out.size)
  clear hb9
  have HN1 := Lib.hid hn9
  clear hn9
  refine hK _ _ ⟨⟨⟨w2, HT.out⟩, rfl⟩, ?_⟩
  clear hK K
  repeat (refine tree_q rfl rfl ?_; go_big_quiet_step (fail); refine wpQuiet_nil ?_)
  refine tree_a rfl (fun K hK => ?_)
  go_simp
  refine (rText0 OK.out _ HN1.out).mono ?_
  rintro e w3 ⟨rfl, hb9⟩
  replace HN1 := Lib.hid (HN1.out.up hb9)
  replace HT := Lib.hid (below_up HT.out hb9)
  replace HZS := sz HZS (show w1.heap.size ≤ w3.heap.size from HT.out.size)
  clear hb9
  refine hK _ _ ⟨⟨⟨w3, HT.out⟩, rfl⟩, ?_⟩
  clear hK K
  repeat (refine tree_q rfl rfl ?_; go_big_quiet_step (fail); refine wpQuiet_nil ?_)
  refine tree_a rfl (fun K hK => ?_)
  go_simp
  refine (rBackOf OK.out (zeroT G) y HY.out HZ1.out HZ2.out l xs HSH.out n HN.out al ax cl cx _ (HG.out.up (below_up HB.out HT.out)) (HC.out.up (below_up HB.out HT.out)) (HX.out.up (below_up HB.out HT.out))).mono ?_
  rintro e w4 ⟨hb9, a9, c9, ro, rfl, hm9, hr9, hz9⟩
  replace HN1 := Lib.hid (HN1.out.up hb9)
  replace HT := Lib.hid (below_up HT.out hb9)
  replace HZS := sz HZS (show w1.heap.size ≤ w4.heap.size from HT.out.size)
  clear hb9
  have HMR := Lib.hid hm9
  clear hm9
  have HRR := Lib.hid hr9
  clear hr9
  have HZR := Lib.hid hz9
  clear hz9
  refine hK _ _ ⟨⟨⟨w4, HT.out⟩, rfl⟩, ?_⟩
  clear hK K
  repeat (refine tree_q rfl rfl ?_; go_big_quiet_step (fail); refine wpQuiet_nil ?_)
  refine tree_end ?_
  clear hov_bg hl_bg
  clear bg_
  replace Hbg := Lib.hid (Hbg.out.up HT.out)
  replace HB := hbu HB HT.out
  replace HZS := sz HZS HT.out.size
  clear HT
  have bg_ := Hbg.out.c3
  go_wp2_with fail
  go_ret
  exact ⟨HB.out, a9, c9, ro, rfl, HMR.out, HRR.out, HZR.out⟩
end

set_option maxRecDepth 100000 in
set_option maxHeartbeats 2000000 in
theorem rBack_none (k : Int) (hk : ¬ (1 ≤ k ∧ k ≤ 3)) (p q : Value) (ch : ByteArray) (w : World) : Calls Tryz.prog 43 #[.int .i64 k, p, .string ch, q] w (RowsE 1 [] w) := by
  go_enter Tryz.func43, Tryz.ntmps43
  go_wp2_with fail
  refine (refKind_none k hk w).mono ?_
  rintro e w1 ⟨rfl, hb9⟩
  have HB := Lib.hid hb9
  have HZS := Lib.hid hb9.size
  clear hb9
  obtain ⟨w2, hq2, hb9, hz9, Hbg⟩ := new1 w1 86 [.int .i64 0, .slice none 0 0, .slice none 0 0]
  replace HB := hbu HB hb9
  replace HZS := sz HZS hz9.out
  clear hb9 hz9
  have bg_ := Hbg.out.c3
  have f3_bg := Hbg.out.frozen
  have o3_bg_ := bg_; clear bg_
  obtain ⟨w3, hq3, hg9, hz9, hx9⟩ := put3 Hbg 0 (.int .i64 0) 1 (.slice none 0 0) 2 (.slice none 0 0) [.int .i64 0, .slice none 0 0, .slice none 0 0] rfl
  replace HB := hbg HB hg9 (by have g0 := HZS.out; omega)
  replace HZS := sz HZS hz9.out
  replace Hbg := hx9
  clear hx9 hg9 hz9
  have bg_ := Hbg.out.c3
  go_wp2_with fail
  clear hq3 o3_bg_ f3_bg hq2
  go_ret2
  exact rowsE_none _ HB.out

set_option maxRecDepth 100000 in
set_option maxHeartbeats 2000000 in
theorem rBack_some (k : Nat) (h1 : 1 ≤ k) (h3 : k ≤ 3) (l : List ClaimA) (n : Nat) (hn : l.length = n) (xs : List ByteArray) (hm : xs.length ≤ 8796093022207) (ch : ByteArray) (bc : Bool) (hbc : isSc (grp k).q.m (grp k).size ch = bc) (y : Nat) (hy : subQ (grp k) 0 (numOf ch) = y) (er : Int) (L : List (List ByteArray)) (hw : wrongE (grp k) l ≠ 0 → er = (wrongE (grp k) l : Int) ∧ L = []) (hsc : wrongE (grp k) l = 0 → scE (grp k) n xs ≠ 0 → er = (scE (grp k) n xs : Int) ∧ L = []) (h6 : wrongE (grp k) l = 0 → scE (grp k) n xs = 0 → bc = false → er = 6 ∧ L = []) (hf : wrongE (grp k) l = 0 → scE (grp k) n xs = 0 → bc = true → er = 0 ∧ L = eachA (grp k) (rvalB (grp k) y l xs) (lens l) n) (al ax : Option Addr) (cl cx : Nat) (w : World) (hC : ClaimsAt w al l) (hS : Sl w w.heap.size ax (xs.map Value.string)) :
    Calls Tryz.prog 43 #[.int .i64 (k : Int), .slice al n cl, .string ch, .slice ax xs.length cx] w (RowsE er L w) := by
  have OK := Lib.hid (grp_ok k h1 h3)
  have hs0 := size_n0 k h1 h3
  have HC := Lib.hid hC
  have HS := Lib.hid hS
  have HN := Lib.hid hn
  have HY := Lib.hid hy
  obtain ⟨z1, hz1⟩ : ∃ z, wrongE (grp k) l = z := ⟨_, rfl⟩
  obtain ⟨z2, hz2⟩ : ∃ z, scE (grp k) n xs = z := ⟨_, rfl⟩
  rw [hz1] at hw hsc h6 hf
  rw [hz2] at hsc h6 hf
  have HW := Lib.hid hw
  have HSC := Lib.hid hsc
  have HF := Lib.hid hf
  have H6 := Lib.hid h6
  have HBC := Lib.hid hbc
  have HZ1 := Lib.hid hz1
  have HZ2 := Lib.hid hz2
  clear hC hS hn hy hz1 hz2 hw hsc hf h6 hbc
  by_cases g1 : z1 = 0
  case neg =>
    obtain ⟨rfl, rfl⟩ := HW.out g1
    have hd : ((z1 : Int) == 0) = false := by simp; omega
    clear g1
    go_enter Tryz.func43, Tryz.ntmps43
    go_wp2_with fail
    refine (refKind_some k h1 h3 w).mono ?_
    rintro e w1 ⟨aq, cq, ap, cp, rfl, hq9, hp9, hb9⟩
    have HB := Lib.hid hb9
    have HZS := Lib.hid hb9.size
    have HRG := Lib.hid (RG.mk (G := grp k) hq9 hp9)
    clear hq9 hp9
    clear hb9
    have HK := Lib.hid (Below.refl w1.heap.size w1)
    obtain ⟨w2, hq2, hb9, hz9, Hbg⟩ := new1 w1 86 [.int .i64 ((grp k).size : Int), .slice aq (dl (grp k).q.m) cq, .slice ap (dl (grp k).p.m) cp]
    replace HK := hbu HK hb9
    replace HB := hbu HB hb9
    replace HZS := sz HZS hz9.out
    clear hb9 hz9
    have bg_ := Hbg.out.c3
    go_wp2_with fail
    clear hq2
    refine (rWrong OK.out l n HN.out z1 HZ1.out al cl w2 (HRG.out.up HK.out) (HC.out.up HB.out)).mono ?_
    rintro e w3 ⟨rfl, hb9⟩
    clear bg_
    replace Hbg := Lib.hid (Hbg.out.up hb9)
    replace HK := hbu HK hb9
    replace HB := hbu HB hb9
    replace HZS := sz HZS hb9.size
    clear hb9
    have bg_ := Hbg.out.c3
    go_wp2_with fail
    go_ret2
    exact rowsE_none _ HB.out
  subst g1
  by_cases g2 : z2 = 0
  case neg =>
    obtain ⟨rfl, rfl⟩ := HSC.out rfl g2
    have hd : ((z2 : Int) == 0) = false := by simp; omega
    clear g2
    go_enter Tryz.func43, Tryz.ntmps43
    go_wp2_with fail
    refine (refKind_some k h1 h3 w).mono ?_
    rintro e w1 ⟨aq, cq, ap, cp, rfl, hq9, hp9, hb9⟩
    have HB := Lib.hid hb9
    have HZS := Lib.hid hb9.size
    have HRG := Lib.hid (RG.mk (G := grp k) hq9 hp9)
    clear hq9 hp9
    clear hb9
    have HK := Lib.hid (Below.refl w1.heap.size w1)
    obtain ⟨w2, hq2, hb9, hz9, Hbg⟩ := new1 w1 86 [.int .i64 ((grp k).size : Int), .slice aq (dl (grp k).q.m) cq, .slice ap (dl (grp k).p.m) cp]
    replace HK := hbu HK hb9
    replace HB := hbu HB hb9
    replace HZS := sz HZS hz9.out
    clear hb9 hz9
    have bg_ := Hbg.out.c3
    go_wp2_with fail
    clear hq2
    refine (rWrong OK.out l n HN.out 0 HZ1.out al cl w2 (HRG.out.up HK.out) (HC.out.up HB.out)).mono ?_
    rintro e w3 ⟨rfl, hb9⟩
    clear bg_
    replace Hbg := Lib.hid (Hbg.out.up hb9)
    replace HK := hbu HK hb9
    replace HB := hbu HB hb9
    replace HZS := sz HZS hb9.size
    clear hb9
    have bg_ := Hbg.out.c3
    go_wp2_with fail
    refine (rWrongSc_e OK.out n xs z2 HZ2.out ax cx hm w3 (HRG.out.up HK.out) (HS.out.up HB.out)).mono ?_
    rintro e w4 ⟨rfl, hb9⟩
    clear bg_
    replace Hbg := Lib.hid (Hbg.out.up hb9)
    replace HK := hbu HK hb9
    replace HB := hbu HB hb9
    replace HZS := sz HZS hb9.size
    clear hb9
    have bg_ := Hbg.out.c3
    go_wp2_with fail
    go_ret2
    exact rowsE_none _ HB.out
  subst g2
  have HSH := Lib.hid (rsh_of OK.out HZ1.out (by rw [HN.out]; exact HZ2.out))
  have hxl : xs.length = n := by rw [HSH.out.xl, HN.out]
  have HXL := Lib.hid hxl
  rw [hxl]
  clear HW HSC hxl
  cases bc
  case false =>
    obtain ⟨rfl, rfl⟩ := H6.out rfl rfl rfl
    go_enter Tryz.func43, Tryz.ntmps43
    go_wp2_with fail
    refine (refKind_some k h1 h3 w).mono ?_
    rintro e w1 ⟨aq, cq, ap, cp, rfl, hq9, hp9, hb9⟩
    have HB := Lib.hid hb9
    have HZS := Lib.hid hb9.size
    have HRG := Lib.hid (RG.mk (G := grp k) hq9 hp9)
    clear hq9 hp9
    clear hb9
    have HK := Lib.hid (Below.refl w1.heap.size w1)
    obtain ⟨w2, hq2, hb9, hz9, Hbg⟩ := new1 w1 86 [.int .i64 ((grp k).size : Int), .slice aq (dl (grp k).q.m) cq, .slice ap (dl (grp k).p.m) cp]
    replace HK := hbu HK hb9
    replace HB := hbu HB hb9
    replace HZS := sz HZS hz9.out
    clear hb9 hz9
    have bg_ := Hbg.out.c3
    go_wp2_with fail
    clear hq2
    refine (rWrong OK.out l n HN.out 0 HZ1.out al cl w2 (HRG.out.up HK.out) (HC.out.up HB.out)).mono ?_
    rintro e w3 ⟨rfl, hb9⟩
    clear bg_
    replace Hbg := Lib.hid (Hbg.out.up hb9)
    replace HK := hbu HK hb9
    replace HB := hbu HB hb9
    replace HZS := sz HZS hb9.size
    clear hb9
    have bg_ := Hbg.out.c3
    go_wp2_with fail
    refine (rWrongSc_n OK.out n xs HXL.out 0 HZ2.out ax cx hm w3 (HRG.out.up HK.out) (HS.out.up HB.out)).mono ?_
    rintro e w4 ⟨rfl, hb9⟩
    clear bg_
    replace Hbg := Lib.hid (Hbg.out.up hb9)
    replace HK := hbu HK hb9
    replace HB := hbu HB hb9
    replace HZS := sz HZS hb9.size
    clear hb9
    have bg_ := Hbg.out.c3
    go_wp2_with fail
    refine (rIsSc_b OK.out ch false HBC.out w4 (HRG.out.up HK.out)).mono ?_
    rintro e w5 ⟨rfl, hb9⟩
    clear bg_
    replace Hbg := Lib.hid (Hbg.out.up hb9)
    replace HK := hbu HK hb9
    replace HB := hbu HB hb9
    replace HZS := sz HZS hb9.size
    clear hb9
    have bg_ := Hbg.out.c3
    go_wp2_with fail
    go_ret2
    exact rowsE_none _ HB.out
  obtain ⟨rfl, rfl⟩ := HF.out rfl rfl rfl
  have HC1 := Lib.hid (sc_len OK.out HBC.out)
  have HC2 := Lib.hid (isSc_le HBC.out)
  clear HF H6
  go_enter Tryz.func43, Tryz.ntmps43
  go_wp2_with fail
  refine (refKind_some k h1 h3 w).mono ?_
  rintro e w1 ⟨aq, cq, ap, cp, rfl, hq9, hp9, hb9⟩
  have HB := Lib.hid hb9
  have HZS := Lib.hid hb9.size
  have HRG := Lib.hid (RG.mk (G := grp k) hq9 hp9)
  clear hq9 hp9
  clear hb9
  have HK := Lib.hid (Below.refl w1.heap.size w1)
  obtain ⟨w2, hq2, hb9, hz9, Hbg⟩ := new1 w1 86 [.int .i64 ((grp k).size : Int), .slice aq (dl (grp k).q.m) cq, .slice ap (dl (grp k).p.m) cp]
  replace HK := hbu HK hb9
  replace HB := hbu HB hb9
  replace HZS := sz HZS hz9.out
  clear hb9 hz9
  have bg_ := Hbg.out.c3
  go_wp2_with fail
  clear hq2
  refine (rWrong OK.out l n HN.out 0 HZ1.out al cl w2 (HRG.out.up HK.out) (HC.out.up HB.out)).mono ?_
  rintro e w3 ⟨rfl, hb9⟩
  clear bg_
  replace Hbg := Lib.hid (Hbg.out.up hb9)
  replace HK := hbu HK hb9
  replace HB := hbu HB hb9
  replace HZS := sz HZS hb9.size
  clear hb9
  have bg_ := Hbg.out.c3
  go_wp2_with fail
  refine (rWrongSc_n OK.out n xs HXL.out 0 HZ2.out ax cx hm w3 (HRG.out.up HK.out) (HS.out.up HB.out)).mono ?_
  rintro e w4 ⟨rfl, hb9⟩
  clear bg_
  replace Hbg := Lib.hid (Hbg.out.up hb9)
  replace HK := hbu HK hb9
  replace HB := hbu HB hb9
  replace HZS := sz HZS hb9.size
  clear hb9
  have bg_ := Hbg.out.c3
  go_wp2_with fail
  refine (rIsSc_b OK.out ch true HBC.out w4 (HRG.out.up HK.out)).mono ?_
  rintro e w5 ⟨rfl, hb9⟩
  clear bg_
  replace Hbg := Lib.hid (Hbg.out.up hb9)
  replace HK := hbu HK hb9
  replace HB := hbu HB hb9
  replace HZS := sz HZS hb9.size
  clear hb9
  have bg_ := Hbg.out.c3
  go_wp2_with fail
  refine (rBackOf OK.out ch y HY.out HC1.out HC2.out l xs HSH.out n HN.out al ax cl cx w5 (HRG.out.up HK.out) (HC.out.up HB.out) (HS.out.up HB.out)).mono ?_
  rintro e w6 ⟨hb9, a9, c9, ro, rfl, hm9, hr9, hz9⟩
  clear bg_
  replace Hbg := Lib.hid (Hbg.out.up hb9)
  replace HK := hbu HK hb9
  replace HB := hbu HB hb9
  replace HZS := sz HZS hb9.size
  have HMR := Lib.hid hm9
  clear hm9
  have HRR := Lib.hid hr9
  clear hr9
  have HZR := Lib.hid hz9
  clear hz9
  clear hb9
  have bg_ := Hbg.out.c3
  go_wp2_with fail
  go_ret2
  exact ⟨HB.out, a9, c9, ro, rfl, HMR.out, HRR.out, HZR.out⟩

def rfirstK (k : Int) (l : List ClaimA) (xs : List ByteArray) : List (List ByteArray) := if openK k l xs = 0 then eachA (grp k.toNat) (rvalB (grp k.toNat) (subQ (grp k.toNat) 0 0) l xs) (lens l) l.length else []
def rbackK (k : Int) (l : List ClaimA) (ch : ByteArray) (xs : List ByteArray) : List (List ByteArray) := if backE k l ch xs = 0 then eachA (grp k.toNat) (rvalB (grp k.toNat) (subQ (grp k.toNat) 0 (numOf ch)) l xs) (lens l) l.length else []
theorem openK_some {j : Nat} (h1 : 1 ≤ j) (h3 : j ≤ 3) (l : List ClaimA) (xs : List ByteArray) : openK (j : Int) l xs = openE (grp j) l xs := by
  unfold openK
  rw [if_pos (by omega)]
  rfl
theorem openE_w {G : GP} {l : List ClaimA} {xs : List ByteArray} (h : wrongE G l ≠ 0) : openE G l xs = wrongE G l := by unfold openE; rw [if_pos h]
theorem openE_s {G : GP} {l : List ClaimA} {xs : List ByteArray} (h : wrongE G l = 0) : openE G l xs = scE G l.length xs := by unfold openE; rw [if_neg (by rw [h]; simp)]
theorem rBack_any (k : Int) (l : List ClaimA) (al : Option Addr) (cl : Nat) (ch : ByteArray) (xs : List ByteArray) (ax : Option Addr) (cx : Nat) (hn : xs.length ≤ 8796093022207) (w : World) (hC : ClaimsAt w al l) (hS : Sl w w.heap.size ax (xs.map Value.string)) :
    Calls Tryz.prog 43 #[.int .i64 k, .slice al l.length cl, .string ch, .slice ax xs.length cx] w (RowsE (backE k l ch xs : Int) (rbackK k l ch xs) w) := by
  by_cases hk : 1 ≤ k ∧ k ≤ 3
  · obtain ⟨j, rfl⟩ : ∃ j : Nat, k = j := ⟨k.toNat, by omega⟩
    have h1 : 1 ≤ j := by omega
    have h3 : j ≤ 3 := by omega
    refine rBack_some j h1 h3 l _ rfl xs hn ch _ rfl _ rfl _ _ ?_ ?_ ?_ ?_ al ax cl cx w hC hS
    · intro h
      have e : backE (j : Int) l ch xs = wrongE (grp j) l := by
        unfold backE
        rw [openK_some h1 h3, openE_w h, if_pos h]
      unfold rbackK
      rw [e, if_neg h]
      exact ⟨rfl, rfl⟩
    · intro h g
      have e : backE (j : Int) l ch xs = scE (grp j) l.length xs := by
        unfold backE
        rw [openK_some h1 h3, openE_s h, if_pos g]
      unfold rbackK
      rw [e, if_neg g]
      exact ⟨rfl, rfl⟩
    · intro h g g6
      have e : backE (j : Int) l ch xs = 6 := by
        unfold backE
        rw [openK_some h1 h3, openE_s h, g, if_neg (by decide), Int.toNat_natCast, g6, if_neg (by decide)]
      unfold rbackK
      rw [e, if_neg (by decide)]
      exact ⟨rfl, rfl⟩
    · intro h g g6
      have e : backE (j : Int) l ch xs = 0 := by
        unfold backE
        rw [openK_some h1 h3, openE_s h, g, if_neg (by decide), Int.toNat_natCast, g6, if_pos rfl]
      unfold rbackK
      rw [e, if_pos rfl]
      exact ⟨rfl, rfl⟩
  · unfold rbackK backE openK
    rw [if_neg hk, if_pos (by decide), if_neg (by decide)]
    exact rBack_none k hk _ _ ch w
end Go.Proofs.YtdlnnkbigeiilaaGreat

/- Numbers of the group as texts, and back. No condition beyond those that each fact names. -/
namespace Go.Proofs.YtdlnnkbigeiilaaGreat
open Go.RowKit

theorem isSc_lt' {G : GP} {s : ByteArray} (h : isSc G.q.m G.size s = true) : numOf s % G.q.m = numOf s ∧ numOf s < G.q.m := by
  unfold isSc at h
  simp only [Bool.and_eq_true, decide_eq_true_eq] at h
  exact ⟨Nat.mod_eq_of_lt h.2, h.2⟩
theorem isSc_inj {G : GP} {s t : ByteArray} (h : isSc G.q.m G.size s = true) (g : isSc G.q.m G.size t = true) (e : numOf s = numOf t) : s = t := numOf_inj (by rw [isSc_size h, isSc_size g]) e
theorem T_numOf {k : Nat} (h1 : 1 ≤ k) (h3 : k ≤ 3) (x : Nat) : numOf (textS (lowN (grp k) x) (grp k).size) = lowN (grp k) x := T_num (grp_ok k h1 h3) (lowN_le (grp_ok k h1 h3) x) (grp_fits k h1 h3)
theorem T_isEl {k : Nat} (h1 : 1 ≤ k) (h3 : k ≤ 3) {x : Nat} (h : ¬ (grp k).p.m ∣ x) : isEl (grp k).q.m (grp k).size (textS (lowN (grp k) x) (grp k).size) = true :=
  T_el (grp_ok k h1 h3) (grp_fits k h1 h3) (lowN_pos (grp_ok k h1 h3) (grp_prime_p k h1 h3) h) (lowN_le (grp_ok k h1 h3) x)
theorem T_eq {k : Nat} (h1 : 1 ≤ k) (h3 : k ≤ 3) {x y : Nat} : textS (lowN (grp k) x) (grp k).size = textS (lowN (grp k) y) (grp k).size ↔ lowN (grp k) x = lowN (grp k) y :=
  ⟨fun h => T_inj (grp_ok k h1 h3) (grp_fits k h1 h3) (lowN_le (grp_ok k h1 h3) x) (lowN_le (grp_ok k h1 h3) y) h, fun h => by rw [h]⟩
end Go.Proofs.YtdlnnkbigeiilaaGreat

/- Claims with which nothing is wrong, in plain words. No Go. No condition beyond those that each fact names. -/
namespace Go.Proofs.YtdlnnkbigeiilaaGreat
open Go.RowKit

theorem el_le {q size : Nat} {s : ByteArray} (h : isEl q size s = true) : numOf s ≤ q := by
  unfold isEl at h
  simp only [Bool.and_eq_true, decide_eq_true_eq] at h
  exact h.2
theorem el_text {G : GP} (ok : G.Ok) {m : ByteArray} (h : isEl G.q.m G.size m = true) : m = textS (lowN G (numOf m)) G.size := by
  rw [lowN_fix ok (el_le h), ← isEl_size h, text_numOf]
/-- What claims and scalars are that nothing is wrong with. -/
structure AllOk (G : GP) (l : List ClaimA) (xs : List ByteArray) : Prop where
  len : ∀ c ∈ l, c.images.length = c.bases.length
  bs : ∀ c ∈ l, ∀ s ∈ c.bases, isEl G.q.m G.size s = true
  ims : ∀ c ∈ l, ∀ s ∈ c.images, isEl G.q.m G.size s = true
  xl : xs.length = l.length
  xs : ∀ s ∈ xs, isSc G.q.m G.size s = true
theorem allOk {k : Int} {l : List ClaimA} {xs : List ByteArray} (h : openK k l xs = 0) : (1 ≤ k ∧ k ≤ 3) ∧ AllOk (grp k.toNat) l xs := by
  obtain ⟨hk, hs, he, hxl, hxa⟩ := openK_ok h
  have hs := shape_ok hs
  have hc : ∀ c ∈ l, c.bases.all (isEl (grp k.toNat).q.m (grp k.toNat).size) = true ∧ c.images.all (isEl (grp k.toNat).q.m (grp k.toNat).size) = true := fun c hc => by
    have h9 : (c.bases.all (isEl (grp k.toNat).q.m (grp k.toNat).size) && c.images.all (isEl (grp k.toNat).q.m (grp k.toNat).size)) = true := List.all_eq_true.1 he c hc
    exact (Bool.and_eq_true _ _).mp h9
  exact ⟨hk, fun c h => (hs.2.2 c h).2.2, fun c h s g => List.all_eq_true.1 (hc c h).1 s g, fun c h s g => List.all_eq_true.1 (hc c h).2 s g, hxl, fun s g => List.all_eq_true.1 hxa s g⟩
theorem eachA_congr {G : GP} {v v' : Nat → Nat → Nat} {ms : List Nat} {n : Nat} (h : ∀ i t, i < n → t < ms.getD i 0 → lowN G (v i t) = lowN G (v' i t)) : eachA G v ms n = eachA G v' ms n := by
  unfold eachA eachL
  apply List.map_congr_left
  intro i hi
  apply List.map_congr_left
  intro t ht
  rw [h i t (List.mem_range.1 hi) (List.mem_range.1 ht)]
theorem backE_ok {k : Int} {l : List ClaimA} {ch : ByteArray} {xs : List ByteArray} (h : backE k l ch xs = 0) : openK k l xs = 0 ∧ isSc (grp k.toNat).q.m (grp k.toNat).size ch = true := by
  unfold backE at h
  by_cases g : openK k l xs = 0
  · rw [if_neg (by simpa using g)] at h
    refine ⟨g, ?_⟩
    by_cases f : isSc (grp k.toNat).q.m (grp k.toNat).size ch = true
    · exact f
    · rw [if_neg f] at h; cases h
  · rw [if_pos g] at h
    exact absurd h g
end Go.Proofs.YtdlnnkbigeiilaaGreat

/- What the package sigma and the document reckon is one and the same. No Go. No condition beyond those that each fact names. -/
namespace Go.Proofs.YtdlnnkbigeiilaaGreat
open Go.RowKit

theorem zipWith_congr' {α β γ : Type} {f g : α → β → γ} {l : List α} {m : List β} (h : ∀ i (hl : i < l.length) (hm : i < m.length), f l[i] m[i] = g l[i] m[i]) : List.zipWith f l m = List.zipWith g l m := by
  apply List.ext_getElem
  · simp
  · intro i h1 h2
    rw [List.getElem_zipWith, List.getElem_zipWith]
    exact h i _ _
theorem hold2_eq {k : Nat} (h1 : 1 ≤ k) (h3 : k ≤ 3) {x b m : ByteArray} (hx : isSc (grp k).q.m (grp k).size x = true) (hm : isEl (grp k).q.m (grp k).size m = true) : rhold2 (grp k) x b m = hold2 (grp k) x b m := by
  unfold rhold2 hold2
  rw [(isSc_lt' hx).1, decide_eq_decide]
  have e := el_text (grp_ok k h1 h3) hm
  constructor
  · intro h
    exact (T_eq h1 h3).1 (h.trans e)
  · intro h
    exact ((T_eq h1 h3).2 h).trans e.symm
theorem holdP_eq {k : Nat} (h1 : 1 ≤ k) (h3 : k ≤ 3) {l : List ClaimA} {xs : List ByteArray} (h : AllOk (grp k) l xs) : rholdP (grp k) l xs = holdP (grp k) l xs := by
  unfold rholdP holdP
  rw [zipWith_congr' (f := rhold1 (grp k)) (g := hold1 (grp k))]
  intro i hl hx
  unfold rhold1 hold1
  rw [zipWith_congr' (f := rhold2 (grp k) xs[i]) (g := hold2 (grp k) xs[i])]
  intro t hb hm
  exact hold2_eq h1 h3 (h.xs _ (List.getElem_mem hx)) (h.ims _ (List.getElem_mem hl) _ (List.getElem_mem hm))
theorem rholdK_eq (k : Int) (l : List ClaimA) (xs : List ByteArray) : rholdK k l xs = holdK k l xs := by
  unfold rholdK holdK
  by_cases h : openK k l xs = 0
  · obtain ⟨hk, ha⟩ := allOk h
    rw [holdP_eq (by omega) (by omega) ha]
  · rw [decide_eq_false h]
    rfl
theorem valB_low {G : GP} (ok : G.Ok) {l : List ClaimA} {xs : List ByteArray} (h : AllOk G l xs) (y z : Nat) (hy : y = z % G.q.m) (i t : Nat) (hi : i < l.length) (_ht : t < (lens l).getD i 0) : lowN G (rvalB G y l xs i t) = lowN G (valB G z l xs i t) := by
  have hx : i < xs.length := by rw [h.xl]; exact hi
  unfold rvalB valB valF
  rw [lowN_mul ok, ← hy]
  have e : xs.getD i ⟨#[]⟩ = xs[i] := by simp [List.getD, hx]
  rw [e, (isSc_lt' (h.xs _ (List.getElem_mem hx))).1]
theorem valF_low {G : GP} (ok : G.Ok) {l : List ClaimA} {xs : List ByteArray} (h : AllOk G l xs) (i t : Nat) (hi : i < l.length) (_ht : t < (lens l).getD i 0) : lowN G (rvalB G (subQ G 0 0) l xs i t) = lowN G (valF G l xs i t) := by
  rw [valB_low ok h (subQ G 0 0) 0 (by unfold subQ; simp) i t hi _ht]
  unfold valB
  rw [Nat.zero_mod, Nat.pow_zero, Nat.mul_one]
theorem rfirstK_eq (k : Int) (l : List ClaimA) (xs : List ByteArray) : rfirstK k l xs = firstK k l xs := by
  unfold rfirstK firstK
  by_cases h : openK k l xs = 0
  · rw [if_pos h, if_pos h]
    obtain ⟨hk, ha⟩ := allOk h
    exact eachA_congr fun i t hi ht => valF_low (grp_ok _ (by omega) (by omega)) ha i t hi ht
  · rw [if_neg h, if_neg h]
theorem rbackK_eq (k : Int) (l : List ClaimA) (ch : ByteArray) (xs : List ByteArray) : rbackK k l ch xs = backK k l ch xs := by
  unfold rbackK backK
  by_cases h : backE k l ch xs = 0
  · rw [if_pos h, if_pos h]
    obtain ⟨hk, ha⟩ := allOk (backE_ok h).1
    exact eachA_congr fun i t hi ht => valB_low (grp_ok _ (by omega) (by omega)) ha _ _ (by unfold subQ; rw [Nat.zero_add]) i t hi ht
  · rw [if_neg h, if_neg h]
end Go.Proofs.YtdlnnkbigeiilaaGreat

/- What Verify answers is what the document's Verify answers: plain. No condition. -/
namespace Go.Proofs.YtdlnnkbigeiilaaGreat
open Go.RowKit

theorem ver_text {G : GP} (ok : G.Ok) {N : Nat} {ch : ByteArray} (h : isSc G.q.m G.size ch = true) : decide (textS (N % G.q.m) G.size = ch) = decide (mont G.q.m N = mont G.q.m (numOf ch)) := by
  have hs : ch.size = G.size ∧ numOf ch < G.q.m := by
    unfold isSc at h
    simp only [Bool.and_eq_true, decide_eq_true_eq] at h
    exact h
  have hlt : N % G.q.m < G.q.m := Nat.mod_lt _ ok.q.pos
  have e : textS (N % G.q.m) G.size = ch ↔ mont G.q.m N = mont G.q.m (numOf ch) := by
    constructor
    · intro h1
      rw [← h1, numOf_textS, Nat.mod_eq_of_lt (Nat.lt_of_lt_of_le hlt ok.fits), mont_mod]
    · intro h1
      rw [← mont_mod G.q.m N] at h1
      rw [mont_inj ok.q.low hlt hs.2 h1, ← hs.1, text_numOf]
  exact decide_eq_decide.2 e
/-- The document's answer. -/
def rverK (k : Int) (label : ByteArray) (l : List ClaimA) (ch : ByteArray) (xs : List ByteArray) : Bool :=
  decide (backE k l ch xs = 0) && decide (textS (chN (verT k label l (rbackK k l ch xs)) challengeB % (grp k.toNat).q.m) (grp k.toNat).size = ch)
theorem rverK_eq (k : Int) (label : ByteArray) (l : List ClaimA) (ch : ByteArray) (xs : List ByteArray) : rverK k label l ch xs = verK k label l ch xs := by
  unfold rverK verK
  rw [rbackK_eq]
  by_cases h : backE k l ch xs = 0
  · obtain ⟨h1, h2⟩ := backE_ok h
    obtain ⟨hk, _⟩ := openK_ok h1
    have e1 : backK k l ch xs = verR k l ch xs := by unfold backK verR; rw [if_pos h]
    rw [e1, ver_text (grp_ok k.toNat (by omega) (by omega)) h2, h, h1, h2]
    generalize decide (mont (grp k.toNat).q.m (chN (verT k label l (verR k l ch xs)) challengeB) = mont (grp k.toNat).q.m (numOf ch)) = b
    cases b <;> rfl
  · rw [decide_eq_false h]
    unfold backE at h
    by_cases g : openK k l xs = 0
    · rw [if_neg (by simpa using g)] at h
      by_cases g2 : isSc (grp k.toNat).q.m (grp k.toNat).size ch = true
      · rw [if_pos g2] at h; exact absurd rfl h
      · rw [Bool.not_eq_true] at g2
        rw [g2, Bool.false_and, Bool.false_and, Bool.and_false]
    · rw [decide_eq_false g, Bool.false_and, Bool.false_and]
end Go.Proofs.YtdlnnkbigeiilaaGreat

/- The document's Verify. Condition: the sizes of what came in. UNDER WAY: region 5 is not walked yet. -/
namespace Go.Proofs.YtdlnnkbigeiilaaGreat
open Go.RowKit

set_option maxRecDepth 100000 in
set_option maxHeartbeats 4000000 in
theorem rVerify_any (k : Int) (label : ByteArray) (hlb : label.size < 140737488355328) (l : List ClaimA) (al : Option Addr) (cl : Nat) (ch : ByteArray) (xs : List ByteArray) (ax : Option Addr) (cx : Nat) (hn : xs.length ≤ 8796093022207) (w : World) (hC : ClaimsAt w al l) (hS : Sl w w.heap.size ax (xs.map Value.string)) :
    Calls Tryz.prog 11 #[.int .i64 k, .string label, .slice al l.length cl, .agg #[.string ch, .slice ax xs.length cx]] w fun e w' => e = .returned (.bool (rverK k label l ch xs)) ∧ Below w.heap.size w w' := by
  have HC := Lib.hid hC
  have HO := Lib.hid (fun w1 (hb : Below w.heap.size w w1) => rBack_any k l al cl ch xs ax cx hn w1 (hC.up hb) (hS.up hb))
  obtain ⟨V, hV⟩ : ∃ b, rverK k label l ch xs = b := ⟨_, rfl⟩
  rw [hV]
  obtain ⟨z, hz⟩ : ∃ z, backE k l ch xs = z := ⟨_, rfl⟩
  obtain ⟨L, hL⟩ : ∃ L, rbackK k l ch xs = L := ⟨_, rfl⟩
  have HV := Lib.hid (show V = (decide (z = 0) && decide (textS (chN (verT k label l L) challengeB % (grp k.toNat).q.m) (grp k.toNat).size = ch)) by rw [← hV]; unfold rverK; rw [hz, hL])
  rw [hz, hL] at HO
  have HLE := Lib.hid (show z = 0 → L = verR k l ch xs from fun h => by rw [← hL, rbackK_eq]; unfold backK verR; rw [hz, if_pos h])
  clear hC hS hV hL
  by_cases h0 : z = 0
  · subst h0
    unfold verT at HV
    obtain ⟨hz1, hz2⟩ := backE_ok hz
    obtain ⟨hk, hsh, hel, hxl, hxa⟩ := openK_ok hz1
    have HK9 := Lib.hid hk
    have hk1 : 1 ≤ k.toNat := by omega
    have hk3 : k.toNat ≤ 3 := by omega
    have hl64 := (shape_ok hsh).2.1
    have HKD := Lib.hid (fun w => (show Calls Tryz.prog 44 #[.int .i64 k] w fun e w' => KindR w e w' (grp k.toNat) from by have h := refKind_some k.toNat hk1 hk3 w; rwa [show ((k.toNat : Nat) : Int) = k by omega] at h))
    have HSY := Lib.hid (show ∀ c ∈ l, SayOk c from fun c hm => by
      have h9 := (shape_ok hsh).2.2 c hm
      have h8 := List.all_eq_true.1 hel c hm
      unfold cElems at h8
      rw [Bool.and_eq_true] at h8
      have hs := (grp_ok k.toNat hk1 hk3).size_le
      have hsm : ∀ s, isEl (grp k.toNat).q.m (grp k.toNat).size s = true → s.size ≤ 32 := fun s h => by
        unfold isEl at h
        simp only [Bool.and_eq_true, decide_eq_true_eq] at h
        omega
      exact ⟨h9.2.1, by omega, fun x hx => hsm x (List.all_eq_true.1 h8.1 x hx), fun x hx => hsm x (List.all_eq_true.1 h8.2 x hx)⟩)
    have HF1 := Lib.hid (fun w => rbegin_any k (by omega) claimsB label (by decide) hlb w)
    have HF2 := Lib.hid (fun al cl w hC => rsayCl_any (beginT claimsB label k) l l.length rfl hl64 (say1_size _ _ _) HSY.out al cl w hC)
    have HF3 := Lib.hid (fun (ro : List RowA) (hm : ro.map RowA.l = L) (al : Option Addr) (cl : Nat) (w : World) (hC : RowsAt w al ro) => (show Calls Tryz.prog 46 #[.agg #[.string (sayCl (beginT claimsB label k) l)], .slice al L.length cl] w fun e w' => e = .returned (.agg #[.string (sayFi (sayCl (beginT claimsB label k) l) L)]) ∧ Below w.heap.size w w' from by
      have hlr : ro.length = L.length := by rw [← hm, List.length_map]
      have h := rsayFi_any (sayCl (beginT claimsB label k) l) ro ro.length rfl (by rw [hlr, HLE.out rfl]; unfold verR; rw [eachA_len]; exact hl64) (sayCl_size _ _ (say1_size _ _ _)) (eachA_small (grp_ok k.toNat hk1 hk3).size_le (lens_small fun c hc => ((shape_ok hsh).2.2 c hc).2.1) (hm.trans (HLE.out rfl))) al cl w hC
      rw [hlr, hm] at h
      exact h))
    have HF4 := Lib.hid (fun pv aq cq w hQ => rChallenge_any (grp k.toNat).size (grp k.toNat).q.m pv (grp_ok k.toNat hk1 hk3).q.pos aq cq (sayFi (sayCl (beginT claimsB label k) l) L) challengeB (by rw [sayFi_size _ _ (sayCl_size _ _ (show (beginT claimsB label k).size = 32 from say1_size _ _ _))]; decide) (by decide) w hQ)
    have HTX := Lib.hid (fun aa cc w h => refText_any (chN (sayFi (sayCl (beginT claimsB label k) l) L) challengeB % (grp k.toNat).q.m) (grp k.toNat).size aa cc (small_dl _ (Nat.lt_of_lt_of_le (Nat.mod_lt _ (grp_ok k.toNat hk1 hk3).q.pos) (Nat.le_of_lt (grp_ok k.toNat hk1 hk3).q.lt4))) (Nat.le_trans (grp_ok k.toNat hk1 hk3).size_le (by decide)) w h)
    generalize chN (sayFi (sayCl (beginT claimsB label k) l) L) challengeB % (grp k.toNat).q.m = nn at *
    generalize chT (sayFi (sayCl (beginT claimsB label k) l) L) challengeB = t4 at *
    generalize sayFi (sayCl (beginT claimsB label k) l) L = t3 at *
    generalize sayCl (beginT claimsB label k) l = t2 at *
    generalize beginT claimsB label k = t1 at *
    obtain ⟨be, hbe⟩ : ∃ b, decide (textS nn (grp k.toNat).size = ch) = b := ⟨_, rfl⟩
    have HBE := Lib.hid (show ((textS nn (grp k.toNat).size).toList == ch.toList) = be by
      rw [← hbe]
      by_cases e9 : textS nn (grp k.toNat).size = ch
      · rw [e9]; simp
      · rw [toList_bne e9, decide_eq_false e9])
    rw [hbe] at HV
    obtain rfl : V = be := by rw [HV.out]; rfl
    clear hbe
    clear hk hsh hel hxl hxa hz1 hz2
    go_enter Tryz.func11, Tryz.ntmps11
    go_wp2_with fail
    obtain ⟨w1, hq1, hb9, hz9, Hbp⟩ := new1 w 25 [.string ch, .slice ax xs.length cx]
    rw [hq1]
    clear hq1
    have HB := Lib.hid hb9
    have HZS := hz9
    clear hb9 hz9
    have bp_ := Hbp.out.c2
    go_wp2_with fail
    refine (HO.out _ HB.out).mono ?_
    rintro e w2 ⟨hb9, a9, c9, ro, rfl, hm9, hr9, _⟩
    clear bp_
    replace Hbp := Lib.hid (Hbp.out.up hb9)
    replace HB := hbu HB hb9
    replace HZS := sz HZS hb9.size
    have HMR := Lib.hid hm9
    clear hm9
    have HRR := Lib.hid hr9
    clear hr9
    clear hb9
    have bp_ := Hbp.out.c2
    have BS := Lib.hid (Below.refl w2.heap.size w2)
    go_wp2_with fail
    refine (HKD.out w2).mono ?_
    rintro e w3 ⟨aq, cq, ap, cp, rfl, hq9, hp9, hb9⟩
    clear bp_
    replace Hbp := Lib.hid (Hbp.out.up hb9)
    replace BS := hbu BS hb9
    replace HB := hbu HB hb9
    replace HZS := sz HZS hb9.size
    have HQ := Lib.hid hq9
    clear hq9
    clear hb9
    have bp_ := Hbp.out.c2
    have BQ := Lib.hid (Below.refl w3.heap.size w3)
    have o4_bp_ := bp_; clear bp_
    obtain ⟨w4, hq4, hb9, hz9, Hg⟩ := new1 w3 86 [.int .i64 ((grp k.toNat).size : Int), .slice aq (dl (grp k.toNat).q.m) cq, .slice ap (dl (grp k.toNat).p.m) cp]
    replace Hbp := Lib.hid (Hbp.out.up hb9)
    replace BS := hbu BS hb9
    replace BQ := hbu BQ hb9
    replace HB := hbu HB hb9
    replace HZS := sz HZS hz9.out
    clear hb9 hz9
    have bp_ := Hbp.out.c2
    have g_ := Hg.out.c3
    go_wp2_with fail
    clear hq4 o4_bp_
    go_cut [13, 12] from 28 to 39 (fun v9 u9 wq9 => ∃ (b9 : Nat) (a9 : Option Addr) (c9 : Nat), v9 = .pointer (some ⟨b9, 0, none⟩) ∧ u9 = .slice a9 (dl nn) c9 ∧ Hid (NumAt wq9 a9 nn) ∧ Hid (Below w4.heap.size w4 wq9))
    case first =>
      have HT := Lib.hid (show Below w4.heap.size w4 w4.drew from (Below.refl _ _).drew)
      have hl_bp := Hbp.out.lt
      have hl_g := Hg.out.lt
      refine wp_region_tree (fun wq9 => ∃ E : Over w4, wq9 = E.w) ((.qs [0, 1, 2, 4, 6] (.two 3 (.two 5 (.two 7 (.two 8 (.qs [9, 10, 11] (.a 12 (.qs [13] (.a 14 .done)))) 12 (.a 8 (.qs [9, 10, 11, 13] (.a 14 .done)))) 12 (.a 7 (.a 8 (.qs [9, 10, 11, 13] (.a 14 .done))))) 12 (.a 5 (.a 7 (.a 8 (.qs [9, 10, 11, 13] (.a 14 .done)))))) 12 (.a 3 (.a 5 (.a 7 (.a 8 (.qs [9, 10, 11, 13] (.a 14 .done))))))))) (by kernel_rfl) (by kernel_rfl) (fun _ _ d _ _ h => by cases d <;> exact h) ⟨⟨_, HT.out⟩, rfl⟩ ?_
      have hov_bp := fun (E : Over w4) o => E.cell (b := w.heap.size) o hl_bp
      have hov_g := fun (E : Over w4) o => E.cell (b := w3.heap.size) o hl_g
      obtain ⟨wd, hwd⟩ : ∃ W9 : World, w4.drew = W9 := ⟨_, rfl⟩
      rw [hwd] at HT ⊢
      clear hwd
      simp only [Tree.qs]
      repeat (refine tree_q rfl rfl ?_; go_big_quiet_step (fail); refine wpQuiet_nil ?_)
      refine tree_two rfl rfl ?ta1 ?ta2
      case ta1 =>
        intro K hK
        go_simp
        refine (HF1.out _).mono ?_
        rintro e wz3 ⟨rfl, hb9⟩
        replace HT := Lib.hid (below_up HT.out hb9)
        clear hb9
        refine hK _ _ ⟨⟨⟨wz3, HT.out⟩, rfl⟩, ?_⟩
        clear hK K
        refine tree_two rfl rfl ?ta4 ?ta5
        case ta4 =>
          intro K hK
          go_simp
          refine (HF2.out al cl _ (HC.out.up (below_up HB.out HT.out))).mono ?_
          rintro e wz6 ⟨rfl, hb9⟩
          replace HT := Lib.hid (below_up HT.out hb9)
          clear hb9
          refine hK _ _ ⟨⟨⟨wz6, HT.out⟩, rfl⟩, ?_⟩
          clear hK K
          refine tree_two rfl rfl ?ta7 ?ta8
          case ta7 =>
            intro K hK
            go_simp
            refine (HF3.out ro HMR.out a9 c9 _ (HRR.out.up (below_up BS.out HT.out))).mono ?_
            rintro e wz9 ⟨rfl, hb9⟩
            replace HT := Lib.hid (below_up HT.out hb9)
            clear hb9
            refine hK _ _ ⟨⟨⟨wz9, HT.out⟩, rfl⟩, ?_⟩
            clear hK K
            refine tree_two rfl rfl ?ta10 ?ta11
            case ta10 =>
              intro K hK
              go_simp
              refine (HF4.out _ aq cq _ (HQ.out.up (below_up BQ.out HT.out))).mono ?_
              rintro e wz12 ⟨a5, c5, rfl, hn9, hb9⟩
              replace HT := Lib.hid (below_up HT.out hb9)
              have HN5 := Lib.hid hn9
              clear hn9
              clear hb9
              refine hK _ _ ⟨⟨⟨wz12, HT.out⟩, rfl⟩, ?_⟩
              clear hK K
              repeat (refine tree_q rfl rfl ?_; go_big_quiet_step (fail); refine wpQuiet_nil ?_)
              refine tree_a rfl (fun K hK => ?_)
              go_simp
              have hb9 : Below wz12.heap.size wz12 (wz12.alloc (Obj.cells #[.string ⟨#[]⟩] 89)) := (Below.refl _ _).alloc (Nat.le_refl _) _
              have hx9 : Bx (wz12.alloc (Obj.cells #[.string ⟨#[]⟩] 89)) wz12.heap.size 89 [.string ⟨#[]⟩] := Bx.new _ _ _ _ rfl
              obtain ⟨wz13, hq9⟩ : ∃ W9 : World, (wz12.alloc (Obj.cells #[.string ⟨#[]⟩] 89)) = W9 := ⟨_, rfl⟩
              rw [hq9] at hb9 hx9
              try rw [hq9]
              clear hq9
              replace HN5 := Lib.hid (HN5.out.up hb9)
              have HAr := Lib.hid HT.out.size
              replace HT := Lib.hid (below_up HT.out hb9)
              have Hr := Lib.hid hx9
              clear hb9 hx9
              refine hK _ _ ⟨⟨⟨wz13, HT.out⟩, rfl⟩, ?_⟩
              clear hK K
              repeat (refine tree_q rfl rfl ?_; go_big_quiet_step (fail); refine wpQuiet_nil ?_)
              refine tree_a rfl (fun K hK => ?_)
              have fz_0 := Hr.out.frozen 0
              have cz_0 := Hr.out.cell (i := 0) rfl
              go_simp
              replace HN5 := Lib.hid (numSet HN5.out Hr.out 0 (.string t4))
              have hx9 := (Hr.out.set 0 (.string t4))
              have hb9 : Below w4.heap.size w4 (wz13.setCell ⟨wz12.heap.size, 0, none⟩ (.string t4)) := (HT.out.setCell (show w4.heap.size ≤ wz12.heap.size from HAr.out) _)
              clear Hr HT fz_0 cz_0
              obtain ⟨wz14, hq9⟩ : ∃ W9 : World, (wz13.setCell ⟨wz12.heap.size, 0, none⟩ (.string t4)) = W9 := ⟨_, rfl⟩
              rw [hq9] at hx9 hb9 HN5
              try rw [hq9]
              clear hq9
              have HT := Lib.hid hb9
              have Hr := Lib.hid hx9
              clear hb9 hx9
              refine hK _ _ ⟨⟨⟨wz14, HT.out⟩, rfl⟩, ?_⟩
              clear hK K
              repeat (refine tree_q rfl rfl ?_; go_big_quiet_step (fail); refine wpQuiet_nil ?_)
              refine tree_end ?_
              go_wp2_with fail
              go_meet
              case rel => exact ⟨_, _, _, rfl, rfl, HN5, HT⟩
            case ta11 =>
              intro K hK
              go_simp
              have hb9 : Below wz9.heap.size wz9 (wz9.alloc (Obj.cells #[.string ⟨#[]⟩] 89)) := (Below.refl _ _).alloc (Nat.le_refl _) _
              have hx9 : Bx (wz9.alloc (Obj.cells #[.string ⟨#[]⟩] 89)) wz9.heap.size 89 [.string ⟨#[]⟩] := Bx.new _ _ _ _ rfl
              obtain ⟨wz15, hq9⟩ : ∃ W9 : World, (wz9.alloc (Obj.cells #[.string ⟨#[]⟩] 89)) = W9 := ⟨_, rfl⟩
              rw [hq9] at hb9 hx9
              try rw [hq9]
              clear hq9
              have HAr := Lib.hid HT.out.size
              replace HT := Lib.hid (below_up HT.out hb9)
              have Hr := Lib.hid hx9
              clear hb9 hx9
              refine hK _ _ ⟨⟨⟨wz15, HT.out⟩, rfl⟩, ?_⟩
              clear hK K
              refine tree_a rfl (fun K hK => ?_)
              go_simp
              refine (HF4.out _ aq cq _ (HQ.out.up (below_up BQ.out HT.out))).mono ?_
              rintro e wz16 ⟨a5, c5, rfl, hn9, hb9⟩
              replace Hr := Lib.hid (Hr.out.up hb9)
              replace HT := Lib.hid (below_up HT.out hb9)
              have HN5 := Lib.hid hn9
              clear hn9
              clear hb9
              refine hK _ _ ⟨⟨⟨wz16, HT.out⟩, rfl⟩, ?_⟩
              clear hK K
              repeat (refine tree_q rfl rfl ?_; go_big_quiet_step (fail); refine wpQuiet_nil ?_)
              refine tree_a rfl (fun K hK => ?_)
              have fz_0 := Hr.out.frozen 0
              have cz_0 := Hr.out.cell (i := 0) rfl
              go_simp
              replace HN5 := Lib.hid (numSet HN5.out Hr.out 0 (.string t4))
              have hx9 := (Hr.out.set 0 (.string t4))
              have hb9 : Below w4.heap.size w4 (wz16.setCell ⟨wz9.heap.size, 0, none⟩ (.string t4)) := (HT.out.setCell (show w4.heap.size ≤ wz9.heap.size from HAr.out) _)
              clear Hr HT fz_0 cz_0
              obtain ⟨wz17, hq9⟩ : ∃ W9 : World, (wz16.setCell ⟨wz9.heap.size, 0, none⟩ (.string t4)) = W9 := ⟨_, rfl⟩
              rw [hq9] at hx9 hb9 HN5
              try rw [hq9]
              clear hq9
              have HT := Lib.hid hb9
              have Hr := Lib.hid hx9
              clear hb9 hx9
              refine hK _ _ ⟨⟨⟨wz17, HT.out⟩, rfl⟩, ?_⟩
              clear hK K
              repeat (refine tree_q rfl rfl ?_; go_big_quiet_step (fail); refine wpQuiet_nil ?_)
              refine tree_end ?_
              go_wp2_with fail
              go_meet
              case rel => exact ⟨_, _, _, rfl, rfl, HN5, HT⟩
          case ta8 =>
            intro K hK
            go_simp
            have hb9 : Below wz6.heap.size wz6 (wz6.alloc (Obj.cells #[.string ⟨#[]⟩] 89)) := (Below.refl _ _).alloc (Nat.le_refl _) _
            have hx9 : Bx (wz6.alloc (Obj.cells #[.string ⟨#[]⟩] 89)) wz6.heap.size 89 [.string ⟨#[]⟩] := Bx.new _ _ _ _ rfl
            obtain ⟨wz18, hq9⟩ : ∃ W9 : World, (wz6.alloc (Obj.cells #[.string ⟨#[]⟩] 89)) = W9 := ⟨_, rfl⟩
            rw [hq9] at hb9 hx9
            try rw [hq9]
            clear hq9
            have HAr := Lib.hid HT.out.size
            replace HT := Lib.hid (below_up HT.out hb9)
            have Hr := Lib.hid hx9
            clear hb9 hx9
            refine hK _ _ ⟨⟨⟨wz18, HT.out⟩, rfl⟩, ?_⟩
            clear hK K
            refine tree_a rfl (fun K hK => ?_)
            go_simp
            refine (HF3.out ro HMR.out a9 c9 _ (HRR.out.up (below_up BS.out HT.out))).mono ?_
            rintro e wz19 ⟨rfl, hb9⟩
            replace Hr := Lib.hid (Hr.out.up hb9)
            replace HT := Lib.hid (below_up HT.out hb9)
            clear hb9
            refine hK _ _ ⟨⟨⟨wz19, HT.out⟩, rfl⟩, ?_⟩
            clear hK K
            refine tree_a rfl (fun K hK => ?_)
            go_simp
            refine (HF4.out _ aq cq _ (HQ.out.up (below_up BQ.out HT.out))).mono ?_
            rintro e wz20 ⟨a5, c5, rfl, hn9, hb9⟩
            replace Hr := Lib.hid (Hr.out.up hb9)
            replace HT := Lib.hid (below_up HT.out hb9)
            have HN5 := Lib.hid hn9
            clear hn9
            clear hb9
            refine hK _ _ ⟨⟨⟨wz20, HT.out⟩, rfl⟩, ?_⟩
            clear hK K
            repeat (refine tree_q rfl rfl ?_; go_big_quiet_step (fail); refine wpQuiet_nil ?_)
            refine tree_a rfl (fun K hK => ?_)
            have fz_0 := Hr.out.frozen 0
            have cz_0 := Hr.out.cell (i := 0) rfl
            go_simp
            replace HN5 := Lib.hid (numSet HN5.out Hr.out 0 (.string t4))
            have hx9 := (Hr.out.set 0 (.string t4))
            have hb9 : Below w4.heap.size w4 (wz20.setCell ⟨wz6.heap.size, 0, none⟩ (.string t4)) := (HT.out.setCell (show w4.heap.size ≤ wz6.heap.size from HAr.out) _)
            clear Hr HT fz_0 cz_0
            obtain ⟨wz21, hq9⟩ : ∃ W9 : World, (wz20.setCell ⟨wz6.heap.size, 0, none⟩ (.string t4)) = W9 := ⟨_, rfl⟩
            rw [hq9] at hx9 hb9 HN5
            try rw [hq9]
            clear hq9
            have HT := Lib.hid hb9
            have Hr := Lib.hid hx9
            clear hb9 hx9
            refine hK _ _ ⟨⟨⟨wz21, HT.out⟩, rfl⟩, ?_⟩
            clear hK K
            repeat (refine tree_q rfl rfl ?_; go_big_quiet_step (fail); refine wpQuiet_nil ?_)
            refine tree_end ?_
            go_wp2_with fail
            go_meet
            case rel => exact ⟨_, _, _, rfl, rfl, HN5, HT⟩
        case ta5 =>
          intro K hK
          go_simp
          have hb9 : Below wz3.heap.size wz3 (wz3.alloc (Obj.cells #[.string ⟨#[]⟩] 89)) := (Below.refl _ _).alloc (Nat.le_refl _) _
          have hx9 : Bx (wz3.alloc (Obj.cells #[.string ⟨#[]⟩] 89)) wz3.heap.size 89 [.string ⟨#[]⟩] := Bx.new _ _ _ _ rfl
          obtain ⟨wz22, hq9⟩ : ∃ W9 : World, (wz3.alloc (Obj.cells #[.string ⟨#[]⟩] 89)) = W9 := ⟨_, rfl⟩
          rw [hq9] at hb9 hx9
          try rw [hq9]
          clear hq9
          have HAr := Lib.hid HT.out.size
          replace HT := Lib.hid (below_up HT.out hb9)
          have Hr := Lib.hid hx9
          clear hb9 hx9
          refine hK _ _ ⟨⟨⟨wz22, HT.out⟩, rfl⟩, ?_⟩
          clear hK K
          refine tree_a rfl (fun K hK => ?_)
          go_simp
          refine (HF2.out al cl _ (HC.out.up (below_up HB.out HT.out))).mono ?_
          rintro e wz23 ⟨rfl, hb9⟩
          replace Hr := Lib.hid (Hr.out.up hb9)
          replace HT := Lib.hid (below_up HT.out hb9)
          clear hb9
          refine hK _ _ ⟨⟨⟨wz23, HT.out⟩, rfl⟩, ?_⟩
          clear hK K
          refine tree_a rfl (fun K hK => ?_)
          go_simp
          refine (HF3.out ro HMR.out a9 c9 _ (HRR.out.up (below_up BS.out HT.out))).mono ?_
          rintro e wz24 ⟨rfl, hb9⟩
          replace Hr := Lib.hid (Hr.out.up hb9)
          replace HT := Lib.hid (below_up HT.out hb9)
          clear hb9
          refine hK _ _ ⟨⟨⟨wz24, HT.out⟩, rfl⟩, ?_⟩
          clear hK K
          refine tree_a rfl (fun K hK => ?_)
          go_simp
          refine (HF4.out _ aq cq _ (HQ.out.up (below_up BQ.out HT.out))).mono ?_
          rintro e wz25 ⟨a5, c5, rfl, hn9, hb9⟩
          replace Hr := Lib.hid (Hr.out.up hb9)
          replace HT := Lib.hid (below_up HT.out hb9)
          have HN5 := Lib.hid hn9
          clear hn9
          clear hb9
          refine hK _ _ ⟨⟨⟨wz25, HT.out⟩, rfl⟩, ?_⟩
          clear hK K
          repeat (refine tree_q rfl rfl ?_; go_big_quiet_step (fail); refine wpQuiet_nil ?_)
          refine tree_a rfl (fun K hK => ?_)
          have fz_0 := Hr.out.frozen 0
          have cz_0 := Hr.out.cell (i := 0) rfl
          go_simp
          replace HN5 := Lib.hid (numSet HN5.out Hr.out 0 (.string t4))
          have hx9 := (Hr.out.set 0 (.string t4))
          have hb9 : Below w4.heap.size w4 (wz25.setCell ⟨wz3.heap.size, 0, none⟩ (.string t4)) := (HT.out.setCell (show w4.heap.size ≤ wz3.heap.size from HAr.out) _)
          clear Hr HT fz_0 cz_0
          obtain ⟨wz26, hq9⟩ : ∃ W9 : World, (wz25.setCell ⟨wz3.heap.size, 0, none⟩ (.string t4)) = W9 := ⟨_, rfl⟩
          rw [hq9] at hx9 hb9 HN5
          try rw [hq9]
          clear hq9
          have HT := Lib.hid hb9
          have Hr := Lib.hid hx9
          clear hb9 hx9
          refine hK _ _ ⟨⟨⟨wz26, HT.out⟩, rfl⟩, ?_⟩
          clear hK K
          repeat (refine tree_q rfl rfl ?_; go_big_quiet_step (fail); refine wpQuiet_nil ?_)
          refine tree_end ?_
          go_wp2_with fail
          go_meet
          case rel => exact ⟨_, _, _, rfl, rfl, HN5, HT⟩
      case ta2 =>
        intro K hK
        go_simp
        have hb9 : Below wd.heap.size wd (wd.alloc (Obj.cells #[.string ⟨#[]⟩] 89)) := (Below.refl _ _).alloc (Nat.le_refl _) _
        have hx9 : Bx (wd.alloc (Obj.cells #[.string ⟨#[]⟩] 89)) wd.heap.size 89 [.string ⟨#[]⟩] := Bx.new _ _ _ _ rfl
        obtain ⟨wz27, hq9⟩ : ∃ W9 : World, (wd.alloc (Obj.cells #[.string ⟨#[]⟩] 89)) = W9 := ⟨_, rfl⟩
        rw [hq9] at hb9 hx9
        try rw [hq9]
        clear hq9
        have HAr := Lib.hid HT.out.size
        replace HT := Lib.hid (below_up HT.out hb9)
        have Hr := Lib.hid hx9
        clear hb9 hx9
        refine hK _ _ ⟨⟨⟨wz27, HT.out⟩, rfl⟩, ?_⟩
        clear hK K
        refine tree_a rfl (fun K hK => ?_)
        go_simp
        refine (HF1.out _).mono ?_
        rintro e wz28 ⟨rfl, hb9⟩
        replace Hr := Lib.hid (Hr.out.up hb9)
        replace HT := Lib.hid (below_up HT.out hb9)
        clear hb9
        refine hK _ _ ⟨⟨⟨wz28, HT.out⟩, rfl⟩, ?_⟩
        clear hK K
        refine tree_a rfl (fun K hK => ?_)
        go_simp
        refine (HF2.out al cl _ (HC.out.up (below_up HB.out HT.out))).mono ?_
        rintro e wz29 ⟨rfl, hb9⟩
        replace Hr := Lib.hid (Hr.out.up hb9)
        replace HT := Lib.hid (below_up HT.out hb9)
        clear hb9
        refine hK _ _ ⟨⟨⟨wz29, HT.out⟩, rfl⟩, ?_⟩
        clear hK K
        refine tree_a rfl (fun K hK => ?_)
        go_simp
        refine (HF3.out ro HMR.out a9 c9 _ (HRR.out.up (below_up BS.out HT.out))).mono ?_
        rintro e wz30 ⟨rfl, hb9⟩
        replace Hr := Lib.hid (Hr.out.up hb9)
        replace HT := Lib.hid (below_up HT.out hb9)
        clear hb9
        refine hK _ _ ⟨⟨⟨wz30, HT.out⟩, rfl⟩, ?_⟩
        clear hK K
        refine tree_a rfl (fun K hK => ?_)
        go_simp
        refine (HF4.out _ aq cq _ (HQ.out.up (below_up BQ.out HT.out))).mono ?_
        rintro e wz31 ⟨a5, c5, rfl, hn9, hb9⟩
        replace Hr := Lib.hid (Hr.out.up hb9)
        replace HT := Lib.hid (below_up HT.out hb9)
        have HN5 := Lib.hid hn9
        clear hn9
        clear hb9
        refine hK _ _ ⟨⟨⟨wz31, HT.out⟩, rfl⟩, ?_⟩
        clear hK K
        repeat (refine tree_q rfl rfl ?_; go_big_quiet_step (fail); refine wpQuiet_nil ?_)
        refine tree_a rfl (fun K hK => ?_)
        have fz_0 := Hr.out.frozen 0
        have cz_0 := Hr.out.cell (i := 0) rfl
        go_simp
        replace HN5 := Lib.hid (numSet HN5.out Hr.out 0 (.string t4))
        have hx9 := (Hr.out.set 0 (.string t4))
        have hb9 : Below w4.heap.size w4 (wz31.setCell ⟨wd.heap.size, 0, none⟩ (.string t4)) := (HT.out.setCell (show w4.heap.size ≤ wd.heap.size from HAr.out) _)
        clear Hr HT fz_0 cz_0
        obtain ⟨wz32, hq9⟩ : ∃ W9 : World, (wz31.setCell ⟨wd.heap.size, 0, none⟩ (.string t4)) = W9 := ⟨_, rfl⟩
        rw [hq9] at hx9 hb9 HN5
        try rw [hq9]
        clear hq9
        have HT := Lib.hid hb9
        have Hr := Lib.hid hx9
        clear hb9 hx9
        refine hK _ _ ⟨⟨⟨wz32, HT.out⟩, rfl⟩, ?_⟩
        clear hK K
        repeat (refine tree_q rfl rfl ?_; go_big_quiet_step (fail); refine wpQuiet_nil ?_)
        refine tree_end ?_
        go_wp2_with fail
        go_meet
        case rel => exact ⟨_, _, _, rfl, rfl, HN5, HT⟩
    case rest =>
      obtain ⟨b9, a5, c5, rfl, rfl, HN5, hb9⟩ := hcut
      replace hb9 := hb9.out
      clear bp_
      replace Hbp := Lib.hid (Hbp.out.up hb9)
      clear g_
      replace Hg := Lib.hid (Hg.out.up hb9)
      replace BS := hbu BS hb9
      replace BQ := hbu BQ hb9
      replace HB := hbu HB hb9
      replace HZS := sz HZS hb9.size
      clear hb9
      have bp_ := Hbp.out.c2
      have g_ := Hg.out.c3
      go_wp2_with fail
      have hl_bp := Hbp.out.lt
      have hl_g := Hg.out.lt
      refine wp_region_over (by kernel_rfl) (by kernel_rfl) ?_
      have hov_bp := fun (E : Over wc) o => E.cell (b := w.heap.size) o hl_bp
      have hov_g := fun (E : Over wc) o => E.cell (b := w3.heap.size) o hl_g
      repeat (go_big_quiet_step (first | (go_at_call 49; exact calls_over (HTX.out a5 c5 _ (HN5.out.up (Over.h _))))))
      all_goals (try unfold elV limbV)
      repeat (go_big_quiet_step (first | (go_at_call 49; exact calls_over (HTX.out a5 c5 _ (HN5.out.up (Over.h _))))))
      all_goals (try unfold elV limbV)
      repeat (go_big_quiet_step (first | (go_at_call 49; exact calls_over (HTX.out a5 c5 _ (HN5.out.up (Over.h _))))))
      all_goals (try unfold ciphV)
      refine wpQuiet_nil ?_
      rintro _ ⟨E, rfl⟩
      clear hov_bp hl_bp hov_g hl_g
      clear bp_
      replace Hbp := Lib.hid (Hbp.out.up E.h)
      clear g_
      replace Hg := Lib.hid (Hg.out.up E.h)
      replace HN5 := Lib.hid (HN5.out.up E.h)
      replace BS := hbu BS E.h
      replace BQ := hbu BQ E.h
      replace HB := hbu HB E.h
      replace HZS := sz HZS E.h.size
      obtain ⟨w5, hq9⟩ : ∃ W9 : World, E.w = W9 := ⟨_, rfl⟩
      rw [hq9] at Hbp Hg HN5 BS BQ HB HZS ⊢
      clear hq9 E
      have bp_ := Hbp.out.c2
      have g_ := Hg.out.c3
      go_wp2_with fail
      rw [HBE.out]
      go_ret
      exact ⟨rfl, HB.out⟩
  · obtain rfl : V = false := by rw [HV.out, decide_eq_false h0]; rfl
    have hd : ((z : Int) != 0) = true := by simp; omega
    clear h0 hz
    go_enter Tryz.func11, Tryz.ntmps11
    go_wp2_with fail
    obtain ⟨w1, hq1, hb9, hz9, Hbp⟩ := new1 w 25 [.string ch, .slice ax xs.length cx]
    rw [hq1]
    clear hq1
    have HB := Lib.hid hb9
    have HZS := hz9
    clear hb9 hz9
    have bp_ := Hbp.out.c2
    go_wp2_with fail
    refine (HO.out _ HB.out).mono ?_
    rintro e w2 ⟨hb9, a9, c9, ro, rfl, hm9, hr9, _⟩
    clear bp_
    replace Hbp := Lib.hid (Hbp.out.up hb9)
    replace HB := hbu HB hb9
    replace HZS := sz HZS hb9.size
    clear hb9
    have bp_ := Hbp.out.c2
    go_wp2_with fail
    go_ret
    exact ⟨rfl, HB.out⟩
end Go.Proofs.YtdlnnkbigeiilaaGreat

/- Small words for opening arguments of deep types: slices of elements of any size, whatever each element is. No condition. -/
namespace Go.Proofs.YtdlnnkbigeiilaaGreat
open Go.ChangeShapes Go.WideShapes Go.ChangeAt Go.RowKit

/-! What the bound of the second form gives. -/
theorem bulk_one {H : Type} (d : DataW H) : 1 ≤ Rows.uptoBulk d := by
  cases d with
  | lit l => cases l <;> simp [Rows.uptoBulk]
  | nil => simp [Rows.uptoBulk]
  | ptr d => simp [Rows.uptoBulk]
  | slice elems spare => simp [Rows.uptoBulk]
  | agg parts => simp [Rows.uptoBulk]
  | iface t d => simp [Rows.uptoBulk]
  | map entries => simp [Rows.uptoBulk]
  | held h => simp [Rows.uptoBulk]
theorem bulk_part {H : Type} {d : DataW H} {l : List (DataW H)} (h : d ∈ l) : Rows.uptoBulk d ≤ Rows.uptoBulkAll l := by
  induction l with
  | nil => cases h
  | cons x r ih =>
    simp only [Rows.uptoBulkAll]
    rcases List.mem_cons.1 h with rfl | e
    · omega
    · have := ih e; omega
theorem bulk_length {H : Type} (l : List (DataW H)) : l.length ≤ Rows.uptoBulkAll l := by
  induction l with
  | nil => simp [Rows.uptoBulkAll]
  | cons x r ih => have := bulk_one x; simp only [Rows.uptoBulkAll, List.length_cons]; omega
theorem bulk_slice {H : Type} {elems spare : List (DataW H)} {B : Nat} (h : Rows.uptoBulk (.slice elems spare) ≤ B) : elems.length ≤ B ∧ ∀ d ∈ elems, Rows.uptoBulk d ≤ B := by
  simp only [Rows.uptoBulk] at h
  refine ⟨by have := bulk_length elems; omega, fun d hd => by have := bulk_part hd; omega⟩
theorem bulk_agg {H : Type} {parts : List (DataW H)} {B : Nat} (h : Rows.uptoBulk (.agg parts) ≤ B) : ∀ d ∈ parts, Rows.uptoBulk d ≤ B := by
  simp only [Rows.uptoBulk] at h
  exact fun d hd => by have := bulk_part hd; omega

theorem flat_range (g : Nat → Value) (k len : Nat) : ((List.range len).map fun i => (List.range k).map fun j => g (i * k + j)).flatten = (List.range (len * k)).map g := by
  induction len with
  | zero => simp
  | succ m ih =>
    rw [List.range_succ, List.map_append, List.flatten_append, ih, Nat.succ_mul, List.range_add, List.map_append]
    simp [List.map_map, Function.comp_def]

section
variable {H : Type} {enc : TypeId × Value → H} {P : Program} {w : World}

/-- A cell that is a slice of elements of k cells: all its elements' cells, each element with its own reading. -/
theorem open_flat {sp : Nat → Bool} {held : Bool} {t e : TypeId} {k fuel : Nat} {c : Value} {y : DataW H × List MemPlace} (ht : P.underlying t = some (.slice e)) (hk : P.cellsOf e = k) (hk0 : 0 < k) {B : Nat} (hB : Rows.uptoBulk y.1 ≤ B)
    (h : DataW.trod enc P w 0 sp held fuel t [c] = some y) :
    ∃ (a : Option Addr) (cap : Nat) (css : List (List Value)), c = .slice a css.length cap ∧ css.length ≤ B ∧ (∀ l ∈ css, l.length = k) ∧ Sl w w.heap.size a css.flatten ∧
      ∀ l ∈ css, ∃ n y', Rows.uptoBulk y'.1 ≤ B ∧ DataW.trod enc P w 0 sp held n e l = some y' := by
  have hlt := DataW.trod_lt _ _ _ _ h
  rcases DataW.trod_slice ht h with ⟨hcs, _⟩ | ⟨x, len, cap, elems, rest, n, _, hcs, hx, hb, hl, hm, hlen, hel, _, _⟩
  · simp only [List.cons.injEq, and_true] at hcs
    exact ⟨none, 0, [], hcs, by simp, by simp, Or.inl rfl, by simp⟩
  simp only [List.cons.injEq, and_true] at hcs
  subst hcs
  by_cases h0 : len = 0
  · subst h0
    exact ⟨some x, cap, [], rfl, by simp, by simp, Or.inl rfl, by simp⟩
  have hbk := bulk_slice (elems := elems.map (·.1)) (spare := rest.map (·.1)) (B := B) (by rw [hx] at hB; exact hB)
  have each : ∀ i, i < len → ∃ l y', w.cells? 0 (x.add (i * k)) k = some l ∧ Rows.uptoBulk y'.1 ≤ B ∧ DataW.trod enc P w 0 sp held n e l = some y' := by
    intro i hi
    have h1 := hel i hi
    rw [hk, show elems[i]? = some (elems[i]'(by omega)) from List.getElem?_eq_getElem (by omega), Option.bind_eq_some_iff] at h1
    obtain ⟨l, hl, hy⟩ := h1
    exact ⟨l, _, hl, hbk.2 _ (List.mem_map.2 ⟨_, List.getElem_mem _, rfl⟩), hy⟩
  obtain ⟨b, off, spot⟩ := x
  have hspot : spot = none := by
    obtain ⟨l, _, h1, _⟩ := each 0 (by omega)
    obtain ⟨_, h2, h3⟩ := World.cells?_some h1
    have h4 := h3 0 hk0
    obtain ⟨v, hv⟩ : ∃ v, l[0]? = some v := ⟨_, List.getElem?_eq_getElem (by omega)⟩
    rw [hv, Deep.add_add, Nat.zero_mul, Nat.zero_add] at h4
    simpa [Addr.add] using World.cell?_spot h4
  subst hspot
  have hbW : b < w.heap.size := hlt (.cell b off) (by
    rw [hx]
    exact List.mem_append_left _ (MemPlace.mem_row.2 ⟨0, by rw [hk]; have : 0 < (elems.length + rest.length) * k := Nat.mul_pos (by omega) hk0; omega, by simp⟩))
  have hL : ∀ i, i < len → ((List.range k).map fun j => (w.cell? ⟨b, off + (i * k + j), none⟩).getD (.bool false)).length = k ∧
      (∀ j, j < k → w.cell? ⟨b, off + (i * k + j), none⟩ = some ((w.cell? ⟨b, off + (i * k + j), none⟩).getD (.bool false))) ∧
      ∃ y', Rows.uptoBulk y'.1 ≤ B ∧ DataW.trod enc P w 0 sp held n e ((List.range k).map fun j => (w.cell? ⟨b, off + (i * k + j), none⟩).getD (.bool false)) = some y' := by
    intro i hi
    obtain ⟨l, y', h1, h2b, h2⟩ := each i hi
    obtain ⟨_, h3, h4⟩ := World.cells?_some h1
    have h5 : ∀ j, j < k → w.cell? ⟨b, off + (i * k + j), none⟩ = l[j]? := by
      intro j hj
      have := h4 j hj
      rwa [Deep.add_add, add_plain] at this
    have e1 : (List.range k).map (fun j => (w.cell? ⟨b, off + (i * k + j), none⟩).getD (.bool false)) = l := by
      apply List.ext_getElem?
      intro j
      by_cases hj : j < k
      · rw [List.getElem?_map, List.getElem?_range hj, Option.map_some, h5 j hj, List.getElem?_eq_getElem (show j < l.length by omega), Option.getD_some]
      · rw [List.getElem?_eq_none (by simp; omega), List.getElem?_eq_none (by omega)]
    refine ⟨by simp, ?_, ?_⟩
    · intro j hj
      rw [h5 j hj, List.getElem?_eq_getElem (show j < l.length by omega), Option.getD_some]
    · rw [e1]; exact ⟨y', h2b, h2⟩
  refine ⟨some ⟨b, off, none⟩, cap, (List.range len).map fun i => (List.range k).map fun j => (w.cell? ⟨b, off + (i * k + j), none⟩).getD (.bool false), by simp, ?_, ?_, Or.inr ⟨b, off, rfl, hbW, ?_⟩, ?_⟩
  · have := hbk.1; rw [List.length_map] at this; simp; omega
  · intro l hl
    obtain ⟨i, _, rfl⟩ := List.mem_map.1 hl
    simp
  · have hflat := flat_range (fun m => (w.cell? ⟨b, off + m, none⟩).getD (.bool false)) k len
    intro i v hv
    rw [hflat] at hv
    have hi : i < len * k := by have := (List.getElem?_eq_some_iff.1 hv).1; simpa using this
    have hq : i / k < len := Nat.div_lt_of_lt_mul (by rwa [Nat.mul_comm] at hi)
    have hc := (hL (i / k) hq).2.1 (i % k) (Nat.mod_lt _ hk0)
    rw [show i / k * k + i % k = i by rw [Nat.mul_comm]; exact Nat.div_add_mod i k] at hc
    rw [hc, ← hv, List.getElem?_map, List.getElem?_range hi, Option.map_some]
  · intro l hl
    obtain ⟨i, hi, rfl⟩ := List.mem_map.1 hl
    obtain ⟨y', hyb, hy⟩ := (hL i (List.mem_range.1 hi)).2.2
    exact ⟨n, y', hyb, hy⟩

/-- A list of lists of values each of which is of one shape. -/
theorem list_shapes {α : Type} (f : α → List Value) (R : α → Prop) : ∀ css : List (List Value), (∀ l ∈ css, ∃ x, l = f x ∧ R x) → ∃ xs : List α, xs.length = css.length ∧ css.flatten = xs.flatMap f ∧ ∀ x ∈ xs, R x
  | [], _ => ⟨[], rfl, rfl, by simp⟩
  | l :: css, h => by
    obtain ⟨x, rfl, hR⟩ := h l (by simp)
    obtain ⟨xs, h1, h2, h3⟩ := list_shapes f R css (fun c hc => h c (by simp [hc]))
    refine ⟨x :: xs, by simp [h1], by simp [h2], ?_⟩
    intro y hy
    rcases List.mem_cons.1 hy with rfl | hy
    · exact hR
    · exact h3 y hy

/-- The same, each element of a shape that is known. -/
theorem open_els {α : Type} (f : α → List Value) (R : α → Prop) {sp : Nat → Bool} {held : Bool} {t e : TypeId} {k fuel : Nat} {c : Value} {y : DataW H × List MemPlace} (ht : P.underlying t = some (.slice e)) (hk : P.cellsOf e = k) (hk0 : 0 < k) {B : Nat} (hB : Rows.uptoBulk y.1 ≤ B)
    (hel : ∀ n l y', l.length = k → Rows.uptoBulk y'.1 ≤ B → DataW.trod enc P w 0 sp held n e l = some y' → ∃ x, l = f x ∧ R x) (h : DataW.trod enc P w 0 sp held fuel t [c] = some y) :
    ∃ (a : Option Addr) (cap : Nat) (xs : List α), c = .slice a xs.length cap ∧ xs.length ≤ B ∧ Sl w w.heap.size a (xs.flatMap f) ∧ ∀ x ∈ xs, R x := by
  obtain ⟨a, cap, css, rfl, hlB, hl, hs, he⟩ := open_flat ht hk hk0 hB h
  obtain ⟨xs, h1, h2, h3⟩ := list_shapes f R css (fun l hm => by
    obtain ⟨n, y', hyb, hy⟩ := he l hm
    exact hel n l y' (hl l hm) hyb hy)
  exact ⟨a, cap, xs, by rw [h1], by omega, h2 ▸ hs, h3⟩

/-- A struct whose fields are of one cell each. -/
theorem open_cells {sp : Nat → Bool} {held : Bool} {t : TypeId} {fs : Array Go.Field} {fuel : Nat} {cs : List Value} {y : DataW H × List MemPlace} (hs : P.underlying t = some (.struct fs)) (hone : Go.Deep.oneCellFields P fs = true) (hC : P.cellsOf t = fs.size) {B : Nat} (hB : Rows.uptoBulk y.1 ≤ B)
    (h : DataW.trod enc P w 0 sp held fuel t cs = some y) :
    cs.length = fs.size ∧ ∀ (j : Nat) (f : Go.Field) (c : Value), fs[j]? = some f → cs[j]? = some c → ∃ n y', Rows.uptoBulk y'.1 ≤ B ∧ DataW.trod enc P w 0 sp held n f.type [c] = some y' := by
  obtain ⟨ys, n, _, hy, hcl, hlen, hg⟩ := DataW.trod_struct hs h
  have hbk := bulk_agg (parts := ys.map (·.1)) (B := B) (by rw [hy] at hB; exact hB)
  refine ⟨by omega, fun j f c hj hc => ?_⟩
  obtain ⟨ho, hk⟩ := Go.Deep.hone_of hone j f hj
  have hjf : j < fs.size := (Array.getElem?_eq_some_iff.1 hj).1
  have h1 := hg j f hj
  have hjc := (List.getElem?_eq_some_iff.1 hc).1
  rw [ho, hk, List.drop_eq_getElem_cons hjc, List.take_succ_cons, List.take_zero, (List.getElem?_eq_some_iff.1 hc).2, List.getElem?_eq_getElem (show j < ys.length by omega)] at h1
  exact ⟨n, _, hbk _ (List.mem_map.2 ⟨_, List.getElem_mem _, rfl⟩), h1⟩

theorem list2 {cs : List Value} (h : cs.length = 2) : ∃ a b, cs = [a, b] := by
  match cs, h with
  | [a, b], _ => exact ⟨a, b, rfl⟩
theorem list3 {cs : List Value} (h : cs.length = 3) : ∃ a b c, cs = [a, b, c] := by
  match cs, h with
  | [a, b, c], _ => exact ⟨a, b, c, rfl⟩

/-- A cell that is a string. -/
theorem open_str {sp : Nat → Bool} {held : Bool} {t : TypeId} {fuel : Nat} {c : Value} {y : DataW H × List MemPlace} (ht : P.underlying t = some .string) (h : DataW.trod enc P w 0 sp held fuel t [c] = some y) : ∃ s : ByteArray, c = .string s := by
  obtain ⟨s, hs, _⟩ := DataW.trod_string ht h
  simp only [List.cons.injEq, and_true] at hs
  exact ⟨s, hs⟩

/-- A cell that is a slice of strings. -/
theorem open_strs {sp : Nat → Bool} {held : Bool} {t e : TypeId} {fuel : Nat} {c : Value} {y : DataW H × List MemPlace} (ht : P.underlying t = some (.slice e)) (he : P.underlying e = some .string) (hk : P.cellsOf e = 1) {B : Nat} (hB : Rows.uptoBulk y.1 ≤ B) (h : DataW.trod enc P w 0 sp held fuel t [c] = some y) :
    ∃ (a : Option Addr) (cap : Nat) (bs : List ByteArray), c = .slice a bs.length cap ∧ bs.length ≤ B ∧ Sl w w.heap.size a (bs.map Value.string) := by
  obtain ⟨a, cap, xs, h1, hb, h2, _⟩ := open_els (fun s : ByteArray => [Value.string s]) (fun _ => True) ht hk (by omega) hB (fun n l y' hl _ hy => by
    match l, hl with
    | [c'], _ =>
      obtain ⟨s, rfl⟩ := open_str he hy
      exact ⟨s, rfl, trivial⟩) h
  refine ⟨a, cap, xs, h1, hb, ?_⟩
  rw [← List.flatMap_singleton' (xs.map Value.string), List.flatMap_map]
  exact h2

/-- The reading of a slice has as many parts as the slice has elements. -/
theorem trod_len {sp : Nat → Bool} {held : Bool} {t e : TypeId} {fuel : Nat} {a : Option Addr} {len cap : Nat} {y : DataW H × List MemPlace} (ht : P.underlying t = some (.slice e)) (h : DataW.trod enc P w 0 sp held fuel t [.slice a len cap] = some y) :
    len = 0 ∨ ∃ es rs, y.1 = .slice es rs ∧ es.length = len := by
  rcases DataW.trod_slice ht h with ⟨hcs, _⟩ | ⟨x, l, c, elems, rest, n, _, hcs, hx, _, _, _, hlen, _⟩
  · simp only [List.cons.injEq, Value.slice.injEq, and_true] at hcs
    exact Or.inl hcs.2.1
  · simp only [List.cons.injEq, Value.slice.injEq, and_true] at hcs
    exact Or.inr ⟨_, _, by rw [hx], by rw [List.length_map, hlen, hcs.2.1]⟩

end

end Go.Proofs.YtdlnnkbigeiilaaGreat
