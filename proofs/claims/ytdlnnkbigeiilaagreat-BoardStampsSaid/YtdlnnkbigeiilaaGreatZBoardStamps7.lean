/- Texts of this seat, one behind the other: what BoardStamps leans on. No condition beyond those that each names. -/
import Derived.Test.YtdlnnkbigeiilaaGreatZBoardStamps6
import Derived.Outline

set_option maxRecDepth 100000
set_option maxHeartbeats 4000000
set_option linter.unusedVariables false
set_option linter.unusedSimpArgs false
namespace Go.Proofs.YtdlnnkbigeiilaaGreat
open Go.RowKit
def ciphV (a b : ByteArray) : Value := .agg #[.string a, .string b]
theorem gRaise_any (G : GP) (ok : G.Ok) (gb x : Nat) (w : World) (hG : GroupAt w gb G) :
  Calls Tryz.prog 79 #[.pointer (some ⟨gb, 0, none⟩), scV G x] w (Gives (elV G (2 ^ (x % G.q.m))) w) := by
 have OK := Lib.hid ok
 clear ok
 unfold elV scV limbV Gives
 go_enter Tryz.func79, Tryz.ntmps79
 go_wp2_with fail
 obtain ⟨W0, hW0⟩ : ∃ W9 : World, ((w.alloc (Obj.cells #[.int .u64 (dig (mont G.q.m x) 0 : Int), .int .u64 (dig (mont G.q.m x) 1 : Int), .int .u64 (dig (mont G.q.m x) 2 : Int), .int .u64 (dig (mont G.q.m x) 3 : Int)] 72)).alloc (Obj.cells #[.int .u64 0, .int .u64 0, .int .u64 0, .int .u64 0] 127)) = W9 := ⟨_, rfl⟩
 rw [hW0]
 have hA : Bx W0 (w.heap.size) 72 [.int .u64 (dig (mont G.q.m x) 0 : Int), .int .u64 (dig (mont G.q.m x) 1 : Int), .int .u64 (dig (mont G.q.m x) 2 : Int), .int .u64 (dig (mont G.q.m x) 3 : Int)] := by
  rw [← hW0]
  have h := ((Bx.new w 72 [.int .u64 (dig (mont G.q.m x) 0 : Int), .int .u64 (dig (mont G.q.m x) 1 : Int), .int .u64 (dig (mont G.q.m x) 2 : Int), .int .u64 (dig (mont G.q.m x) 3 : Int)] _ rfl).alloc (Obj.cells #[.int .u64 0, .int .u64 0, .int .u64 0, .int .u64 0] 127))
  exact h
 have hC : Bx W0 (w.heap.size + 1) 127 [.int .u64 0, .int .u64 0, .int .u64 0, .int .u64 0] := by
  rw [← hW0]
  have h := (Bx.new (w.alloc (Obj.cells #[.int .u64 (dig (mont G.q.m x) 0 : Int), .int .u64 (dig (mont G.q.m x) 1 : Int), .int .u64 (dig (mont G.q.m x) 2 : Int), .int .u64 (dig (mont G.q.m x) 3 : Int)] 72)) 127 [.int .u64 0, .int .u64 0, .int .u64 0, .int .u64 0] _ rfl)
  rw [World.size_alloc] at h
  exact h
 have hBW : Below w.heap.size w W0 := by rw [← hW0]; exact (((Below.refl w.heap.size w).alloc (Nat.le_refl _) _).alloc (by simp) _)
 clear hW0
 have hG0 := hG.up hBW
 have hgl := hG0.lt
 have ha_0 := hA.cell (i := 0) rfl
 have ha_1 := hA.cell (i := 1) rfl
 have ha_2 := hA.cell (i := 2) rfl
 have ha_3 := hA.cell (i := 3) rfl
 have hla := hA.lt
 have HC := Lib.hid hC
 have HBW := Lib.hid hBW
 clear hA hC hBW hG
 refine wp_region_otail 5 (by kernel_rfl) (by kernel_rfl) ?_
 simp only [List.take_succ_cons, List.take_zero, List.drop_succ_cons, List.drop_zero]
 have hova := fun (E : Over W0) o => E.cell (b := w.heap.size) o hla
 repeat (go_big_quiet_step (first | (go_at_call 130; exact calls_over (gBase_any G OK.out gb _ (hG0.up (Over.h _)))) | (go_at_call 103; exact calls_over (gPower_any G OK.out gb _ _ _ (hG0.up (Over.h _))))))
 all_goals (try unfold elV limbV)
 repeat (go_big_quiet_step (first | (go_at_call 130; exact calls_over (gBase_any G OK.out gb _ (hG0.up (Over.h _)))) | (go_at_call 103; exact calls_over (gPower_any G OK.out gb _ _ _ (hG0.up (Over.h _))))))
 all_goals (try unfold elV limbV)
 repeat (go_big_quiet_step (first | (go_at_call 130; exact calls_over (gBase_any G OK.out gb _ (hG0.up (Over.h _)))) | (go_at_call 103; exact calls_over (gPower_any G OK.out gb _ _ _ (hG0.up (Over.h _))))))
 refine wpQuiet_nil ?_
 rintro _ ⟨E, rfl⟩
 have HZ := Lib.hid (HC.out.below E.h HC.out.lt)
 have HBB := Lib.hid (below_up HBW.out E.h)
 clear hova
 generalize E.w = w3 at *
 have HS5 : Hid (Bx ((((w3.setCell ⟨w.heap.size + 1, 0, none⟩ (.int .u64 (dig (mont G.p.m (2 ^ (x % G.q.m))) 0 : Int))).setCell ⟨w.heap.size + 1, 1, none⟩ (.int .u64 (dig (mont G.p.m (2 ^ (x % G.q.m))) 1 : Int))).setCell ⟨w.heap.size + 1, 2, none⟩ (.int .u64 (dig (mont G.p.m (2 ^ (x % G.q.m))) 2 : Int))).setCell ⟨w.heap.size + 1, 3, none⟩ (.int .u64 (dig (mont G.p.m (2 ^ (x % G.q.m))) 3 : Int))) (w.heap.size + 1) 127 [.int .u64 (dig (mont G.p.m (2 ^ (x % G.q.m))) 0 : Int), .int .u64 (dig (mont G.p.m (2 ^ (x % G.q.m))) 1 : Int), .int .u64 (dig (mont G.p.m (2 ^ (x % G.q.m))) 2 : Int), .int .u64 (dig (mont G.p.m (2 ^ (x % G.q.m))) 3 : Int)]) := ((((HZ.out.set 0 (.int .u64 (dig (mont G.p.m (2 ^ (x % G.q.m))) 0 : Int))).set 1 (.int .u64 (dig (mont G.p.m (2 ^ (x % G.q.m))) 1 : Int))).set 2 (.int .u64 (dig (mont G.p.m (2 ^ (x % G.q.m))) 2 : Int))).set 3 (.int .u64 (dig (mont G.p.m (2 ^ (x % G.q.m))) 3 : Int)))
 have HB5 : Hid (Below w.heap.size w ((((w3.setCell ⟨w.heap.size + 1, 0, none⟩ (.int .u64 (dig (mont G.p.m (2 ^ (x % G.q.m))) 0 : Int))).setCell ⟨w.heap.size + 1, 1, none⟩ (.int .u64 (dig (mont G.p.m (2 ^ (x % G.q.m))) 1 : Int))).setCell ⟨w.heap.size + 1, 2, none⟩ (.int .u64 (dig (mont G.p.m (2 ^ (x % G.q.m))) 2 : Int))).setCell ⟨w.heap.size + 1, 3, none⟩ (.int .u64 (dig (mont G.p.m (2 ^ (x % G.q.m))) 3 : Int)))) := ((((HBB.out.setCell (show w.heap.size ≤ w.heap.size + 1 by omega) _).setCell (show w.heap.size ≤ w.heap.size + 1 by omega) _).setCell (show w.heap.size ≤ w.heap.size + 1 by omega) _).setCell (show w.heap.size ≤ w.heap.size + 1 by omega) _)
 have hz_0 := HZ.out.cell (i := 0) rfl
 have hz_1 := HZ.out.cell (i := 1) rfl
 have hz_2 := HZ.out.cell (i := 2) rfl
 have hz_3 := HZ.out.cell (i := 3) rfl
 have hzf_0 := HZ.out.frozen 0
 have hzf_1 := HZ.out.frozen 1
 have hzf_2 := HZ.out.frozen 2
 have hzf_3 := HZ.out.frozen 3
 go_wp2_with fail
 generalize ((((w3.setCell ⟨w.heap.size + 1, 0, none⟩ (.int .u64 (dig (mont G.p.m (2 ^ (x % G.q.m))) 0 : Int))).setCell ⟨w.heap.size + 1, 1, none⟩ (.int .u64 (dig (mont G.p.m (2 ^ (x % G.q.m))) 1 : Int))).setCell ⟨w.heap.size + 1, 2, none⟩ (.int .u64 (dig (mont G.p.m (2 ^ (x % G.q.m))) 2 : Int))).setCell ⟨w.heap.size + 1, 3, none⟩ (.int .u64 (dig (mont G.p.m (2 ^ (x % G.q.m))) 3 : Int))) = w5 at *
 clear hz_0 hz_1 hz_2 hz_3
 have hg_0 := HS5.out.cell (i := 0) rfl
 have hg_1 := HS5.out.cell (i := 1) rfl
 have hg_2 := HS5.out.cell (i := 2) rfl
 have hg_3 := HS5.out.cell (i := 3) rfl
 simp [bodyPost, results, Tryz.results79, go_sem, hg_0, hg_1, hg_2, hg_3]
 exact HB5.out
end Go.Proofs.YtdlnnkbigeiilaaGreat
namespace Go.Proofs.YtdlnnkbigeiilaaGreat
open Go.RowKit
end Go.Proofs.YtdlnnkbigeiilaaGreat
namespace Go.Proofs.YtdlnnkbigeiilaaGreat
open Go.RowKit
end Go.Proofs.YtdlnnkbigeiilaaGreat
namespace Go.Proofs.YtdlnnkbigeiilaaGreat
open Go.RowKit
def strE (e : Int) : Value := .tuple #[.string ⟨#[]⟩, .int .i64 e]
end Go.Proofs.YtdlnnkbigeiilaaGreat
namespace Go.Proofs.YtdlnnkbigeiilaaGreat
open Go.RowKit
end Go.Proofs.YtdlnnkbigeiilaaGreat
namespace Go.Proofs.YtdlnnkbigeiilaaGreat
open Go.RowKit
theorem pub_none (k : Int) (hk : ¬ (1 ≤ k ∧ k ≤ 3)) (x : ByteArray) (w : World) : Calls Tryz.prog 20 #[.int .i64 k, .string x] w (Gives (strE 1) w) := by
 unfold Gives strE
 go_enter Tryz.func20, Tryz.ntmps20
 go_wp2_with fail
 refine (of_none k hk _).mono ?_
 rintro e w2 ⟨rfl, rfl⟩
 go_wp2_with fail
 go_ret2
 exact ⟨rfl, Below.refl _ _⟩
theorem pub_some (k : Nat) (h1 : 1 ≤ k) (h3 : k ≤ 3) (x : ByteArray) (bx : Bool) (hx : isSc (grp k).q.m (grp k).size x = bx) (w : World) :
  Calls Tryz.prog 20 #[.int .i64 (k : Int), .string x] w (Gives (if bx then .tuple #[.string (textS (lowN (grp k) (2 ^ (numOf x % (grp k).q.m))) (grp k).size), .int .i64 0] else strE 6) w) := by
 have HX := Lib.hid hx
 have OK := Lib.hid (grp_ok k h1 h3)
 clear hx
 unfold Gives strE
 go_enter Tryz.func20, Tryz.ntmps20
 go_wp2_with fail
 refine (of_some k h1 h3 w).mono ?_
 rintro e w1 ⟨rfl, hg9, hb9⟩
 have HB := Lib.hid hb9
 have HZS := Lib.hid hb9.size
 have HG := Lib.hid hg9
 clear hg9 hb9
 go_wp2_with fail
 refine (gScalar_m (grp k) OK.out _ x bx HX.out w1 HG.out).mono ?_
 rintro e w2 ⟨sn, rfl, hb9, hn9⟩
 replace HG := Lib.hid (HG.out.up hb9)
 replace HB := hbu HB hb9
 replace HZS := sz HZS hb9.size
 have HSN := Lib.hid hn9
 clear hn9 hb9
 unfold limbV
 obtain ⟨w3, hq3, hb9, hz9, Hbn⟩ := new1 w2 72 [.int .u64 (dig (sn) 0 : Int), .int .u64 (dig (sn) 1 : Int), .int .u64 (dig (sn) 2 : Int), .int .u64 (dig (sn) 3 : Int)]
 replace HG := Lib.hid (HG.out.up hb9)
 replace HB := hbu HB hb9
 replace HZS := sz HZS hz9.out
 clear hb9 hz9
 have bn_ := Hbn.out.c4
 cases bx
 ·go_wp2_with fail
  clear hq3
  go_ret2
  exact ⟨rfl, HB.out⟩
 ·obtain rfl := HSN.out rfl
  go_wp2_with fail
  clear hq3
  refine (gRaise_any (grp k) OK.out _ _ w3 HG.out).mono ?_
  rintro e w4 ⟨rfl, hb9⟩
  clear bn_
  replace Hbn := Lib.hid (Hbn.out.up hb9)
  replace HG := Lib.hid (HG.out.up hb9)
  replace HB := hbu HB hb9
  replace HZS := sz HZS hb9.size
  clear hb9
  have bn_ := Hbn.out.c4
  go_wp2_with fail
  refine (gText_any (grp k) OK.out _ _ w4 HG.out).mono ?_
  rintro e w5 ⟨rfl, hb9⟩
  clear bn_
  replace Hbn := Lib.hid (Hbn.out.up hb9)
  replace HG := Lib.hid (HG.out.up hb9)
  replace HB := hbu HB hb9
  replace HZS := sz HZS hb9.size
  clear hb9
  have bn_ := Hbn.out.c4
  go_wp2_with fail
  go_ret2
  exact ⟨rfl, HB.out⟩
end Go.Proofs.YtdlnnkbigeiilaaGreat
namespace Go.Proofs.YtdlnnkbigeiilaaGreat
open Go.RowKit
abbrev signB : ByteArray := ⟨#[115, 105, 103, 110]⟩
def sgnT (text : ByteArray) : ByteArray := tagS signB [text]
theorem sgnT_size (t : ByteArray) : (sgnT t).size = 32 := tagS_size _ _
def baseT (k : Int) : ByteArray := textS (lowN (grp k.toNat) 2) (grp k.toNat).size
def pubS (k : Int) (x : ByteArray) : ByteArray := textS (lowN (grp k.toNat) (2 ^ (numOf x % (grp k.toNat).q.m))) (grp k.toNat).size
def pubE (k : Int) (x : ByteArray) : Nat := if 1 ≤ k ∧ k ≤ 3 then (if isSc (grp k.toNat).q.m (grp k.toNat).size x = true then 0 else 6) else 1
def sgnE (k : Int) (x : ByteArray) : Nat := if pubE k x = 0 then prvE k [ownC (baseT k) (pubS k x)] [x] else pubE k x
def sgnC (k : Int) (x text seed : ByteArray) : ByteArray := if sgnE k x = 0 then prvC k (sgnT text) [ownC (baseT k) (pubS k x)] seed else ⟨#[]⟩
def sgnA (k : Int) (x text seed : ByteArray) : List ByteArray := if sgnE k x = 0 then prvA k (sgnT text) [ownC (baseT k) (pubS k x)] [x] seed else []
def sgdK (k : Int) (p text ch : ByteArray) (xs : List ByteArray) : Bool := decide (1 ≤ k ∧ k ≤ 3) && verK k (sgnT text) [ownC (baseT k) p] ch xs
theorem tag1 {text : ByteArray} (ht : text.size < 140737488355328) (a : Option Addr) (c : Nat) (w : World) (hX : Sl w w.heap.size a [.string text]) :
  Calls Tryz.prog 81 #[.string signB, .slice a 1 c] w fun e w' => e = .returned (.string (sgnT text)) ∧ Below w.heap.size w w' :=
 Tag_any signB [text] 1 rfl (join_small signB [text] 0 (by simp) (by simpa using ht) (by decide)) a c w hX
theorem sSign_er (k er : Int) (hd : (er != 0) = true) (x text seed : ByteArray) (hP : ∀ w, Calls Tryz.prog 20 #[.int .i64 k, .string x] w (Gives (strE er) w)) (w : World) :
  Calls Tryz.prog 22 #[.int .i64 k, .string x, .string text, .string seed] w (ProveR er ⟨#[]⟩ [] w) := by
 unfold Gives strE at hP
 have HP := Lib.hid hP
 clear hP
 go_enter Tryz.func22, Tryz.ntmps22
 go_wp2_with fail
 obtain ⟨w1, hq1, hb9, hz9, Hout⟩ := new1 w 25 [.string ⟨#[]⟩, .slice none 0 0]
 rw [hq1]
 clear hq1
 have HB := Lib.hid hb9
 have HZS := hz9
 clear hb9 hz9
 have out_ := Hout.out.c2
 go_wp2_with fail
 refine (HP.out w1).mono ?_
 rintro e w2 ⟨rfl, hb9⟩
 clear out_
 replace Hout := Lib.hid (Hout.out.up hb9)
 replace HB := hbu HB hb9
 replace HZS := sz HZS hb9.size
 clear hb9
 have out_ := Hout.out.c2
 have f3_out := Hout.out.frozen
 have o3_out_ := out_; clear out_
 obtain ⟨w3, hq3, hg9, hz9, hx9⟩ := put2 Hout 0 (.string ⟨#[]⟩) 1 (.slice none 0 0) [.string ⟨#[]⟩, .slice none 0 0] rfl
 replace HB := hbg HB hg9 (by have g0 := HZS.out; omega)
 replace HZS := sz HZS hz9.out
 replace Hout := hx9
 clear hx9 hg9 hz9
 have out_ := Hout.out.c2
 go_wp2_with fail
 clear hq3 o3_out_ f3_out
 simp [bodyPost, results, Tryz.results22, go_sem, out_]
 exact proveR_none _ HB.out
theorem sSign_ok (k : Nat) (h1 : 1 ≤ k) (h3 : k ≤ 3) (x text seed : ByteArray) (ht : text.size < 140737488355328) (hsd : seed.size < 140737488355328) (hx : isSc (grp k).q.m (grp k).size x = true) (E : Nat) (C : ByteArray) (A : List ByteArray) (hE : prvE k [ownC (baseT k) (pubS k x)] [x] = E) (hC : (if E = 0 then prvC k (sgnT text) [ownC (baseT k) (pubS k x)] seed else ⟨#[]⟩) = C) (hA : (if E = 0 then prvA k (sgnT text) [ownC (baseT k) (pubS k x)] [x] seed else []) = A) (w : World) :
  Calls Tryz.prog 22 #[.int .i64 (k : Int), .string x, .string text, .string seed] w (ProveR (E : Int) C A w) := by
 have OK := Lib.hid (grp_ok k h1 h3)
 have hP := fun w => pub_some k h1 h3 x true hx w
 simp only [if_true] at hP
 unfold Gives at hP
 have HPV := Lib.hid (fun ab ai ao ax w (hc : ClaimsAt w ao [ownA ab ai 1 1 (baseT k) (pubS k x)]) (hs : Sl w w.heap.size ax [.string x]) => sProve_any k (sgnT text) (by rw [sgnT_size]; decide) [ownA ab ai 1 1 (baseT k) (pubS k x)] ao 1 [x] ax 1 (by simp) seed hsd (by intro c hc; rw [List.mem_singleton.1 hc]; exact ⟨Nat.le_refl _, Nat.le_refl _⟩) w hc hs)
 simp only [own_prvE, own_prvC, own_prvA, hE, hC, hA, List.length_singleton] at HPV
 have HTG := Lib.hid (fun a c w h => tag1 ht a c w h)
 have HOW := Lib.hid (fun gb p w h => own_any (grp k) OK.out gb p w h)
 rw [show textS (lowN (grp k) 2) (grp k).size = baseT k from rfl] at HOW
 rw [show textS (lowN (grp k) (2 ^ (numOf x % (grp k).q.m))) (grp k).size = pubS k x from rfl] at hP
 have HP := Lib.hid hP
 generalize baseT k = BT at *
 generalize pubS k x = PS at *
 generalize sgnT text = TT at *
 clear hP hE hC hA hx ht hsd
 go_enter Tryz.func22, Tryz.ntmps22
 go_wp2_with fail
 obtain ⟨w1, hq1, hb9, hz9, Hout⟩ := new1 w 25 [.string ⟨#[]⟩, .slice none 0 0]
 rw [hq1]
 clear hq1
 have HB := Lib.hid hb9
 have HZS := hz9
 clear hb9 hz9
 have out_ := Hout.out.c2
 go_wp2_with fail
 refine (HP.out w1).mono ?_
 rintro e w2 ⟨rfl, hb9⟩
 clear out_
 replace Hout := Lib.hid (Hout.out.up hb9)
 replace HB := hbu HB hb9
 replace HZS := sz HZS hb9.size
 clear hb9
 have out_ := Hout.out.c2
 have o3_out_ := out_; clear out_
 obtain ⟨w3, hq3, hb9, hz9, Hrt⟩ := new1 w2 9 [.string text]
 replace Hout := Lib.hid (Hout.out.up hb9)
 replace HB := hbu HB hb9
 replace HZS := sz HZS hz9.out
 clear hb9 hz9
 have out_ := Hout.out.c2
 have rt_ := Hrt.out.c1
 go_wp2_with fail
 clear hq3 o3_out_
 refine (HTG.out _ _ w3 (Sl.ofB Hrt.out)).mono ?_
 rintro e w4 ⟨rfl, hb9⟩
 clear out_
 replace Hout := Lib.hid (Hout.out.up hb9)
 clear rt_
 replace Hrt := Lib.hid (Hrt.out.up hb9)
 replace HB := hbu HB hb9
 replace HZS := sz HZS hb9.size
 clear hb9
 have out_ := Hout.out.c2
 have rt_ := Hrt.out.c1
 go_wp2_with fail
 refine (of_some k h1 h3 w4).mono ?_
 rintro e w5 ⟨rfl, hg9, hb9⟩
 clear out_
 replace Hout := Lib.hid (Hout.out.up hb9)
 clear rt_
 replace Hrt := Lib.hid (Hrt.out.up hb9)
 replace HB := hbu HB hb9
 replace HZS := sz HZS hb9.size
 have HG := Lib.hid hg9
 clear hg9 hb9
 have out_ := Hout.out.c2
 have rt_ := Hrt.out.c1
 go_wp2_with fail
 refine (HOW.out _ PS w5 HG.out).mono ?_
 rintro e w6 ⟨ab, ai, ao, rfl, hc9, hb9⟩
 clear out_
 replace Hout := Lib.hid (Hout.out.up hb9)
 clear rt_
 replace Hrt := Lib.hid (Hrt.out.up hb9)
 replace HG := Lib.hid (HG.out.up hb9)
 replace HB := hbu HB hb9
 replace HZS := sz HZS hb9.size
 have HC := Lib.hid hc9
 clear hc9 hb9
 have out_ := Hout.out.c2
 have rt_ := Hrt.out.c1
 have o7_out_ := out_; clear out_
 have o7_rt_ := rt_; clear rt_
 obtain ⟨w7, hq7, hb9, hz9, Hrs⟩ := new1 w6 9 [.string x]
 replace Hout := Lib.hid (Hout.out.up hb9)
 replace Hrt := Lib.hid (Hrt.out.up hb9)
 replace HG := Lib.hid (HG.out.up hb9)
 replace HC := Lib.hid (HC.out.up hb9)
 replace HB := hbu HB hb9
 replace HZS := sz HZS hz9.out
 clear hb9 hz9
 have out_ := Hout.out.c2
 have rt_ := Hrt.out.c1
 have rs_ := Hrs.out.c1
 go_wp2_with fail
 clear hq7 o7_rt_ o7_out_
 refine (HPV.out ab ai ao _ w7 HC.out (Sl.ofB Hrs.out)).mono ?_
 rintro e w8 ⟨hb9, a1, c1, rfl, hs1, hz1, hc1, hf1⟩
 clear out_
 replace Hout := Lib.hid (Hout.out.up hb9)
 clear rt_
 replace Hrt := Lib.hid (Hrt.out.up hb9)
 clear rs_
 replace Hrs := Lib.hid (Hrs.out.up hb9)
 replace HG := Lib.hid (HG.out.up hb9)
 replace HC := Lib.hid (HC.out.up hb9)
 replace HB := hbu HB hb9
 replace HZS := sz HZS hb9.size
 have HS1 := Lib.hid hs1
 clear hs1
 have HZ1 := Lib.hid hz1
 clear hz1
 have HC1 := Lib.hid hc1
 clear hc1
 have HF1 := Lib.hid hf1
 clear hf1 hb9
 have out_ := Hout.out.c2
 have rt_ := Hrt.out.c1
 have rs_ := Hrs.out.c1
 have HNO := Lib.hid (show ∀ y, a1 = some y → y.block ≠ w.heap.size from fun y hy e => by have g1 := HF1.out y hy; have g2 := HZS.out; omega)
 have HFW := Lib.hid (show ∀ y, a1 = some y → w.heap.size ≤ y.block from fun y hy => by have g1 := HF1.out y hy; have g2 := HZS.out; omega)
 clear HF1
 replace HS1 := Lib.hid (Sl.setO HS1.out HNO.out 0 (.string C))
 replace HS1 := Lib.hid (Sl.setO HS1.out HNO.out 1 (.slice a1 A.length c1))
 have HRP := Lib.hid (show ∀ W, Below w.heap.size w W → Sl W W.heap.size a1 (A.map Value.string) → ProveR (E : Int) C A w (.returned (.tuple #[.agg #[.string C, .slice a1 A.length c1], .int .i64 (E : Int)])) W from fun W h1 h2 => ⟨h1, a1, c1, rfl, h2, HZ1.out, HC1.out, HFW.out⟩)
 clear HC
 have f9_out := Hout.out.frozen
 have o9_out_ := out_; clear out_
 have o9_rt_ := rt_; clear rt_
 have o9_rs_ := rs_; clear rs_
 obtain ⟨w9, hq9, hg9, hz9, hx9⟩ := put2 Hout 0 (.string C) 1 (.slice a1 A.length c1) [.string C, .slice a1 A.length c1] rfl
 replace Hrt := Lib.hid (Hrt.out.grown hg9.out (sne (by have g0 := HZS.out; omega)))
 replace Hrs := Lib.hid (Hrs.out.grown hg9.out (sne (by have g0 := HZS.out; omega)))
 replace HG := Lib.hid (HG.out.grown hg9.out (sne (by have g0 := HZS.out; omega)))
 replace HB := hbg HB hg9 (by have g0 := HZS.out; omega)
 replace HZS := sz HZS hz9.out
 replace Hout := hx9
 clear hx9 hg9 hz9
 have out_ := Hout.out.c2
 have rt_ := Hrt.out.c1
 have rs_ := Hrs.out.c1
 rw [hq9] at HS1
 go_wp2_with fail
 clear hq9 o9_rs_ o9_rt_ o9_out_ f9_out
 simp [bodyPost, results, Tryz.results22, go_sem, out_]
 exact HRP.out _ HB.out HS1.out
theorem sSign_any (k : Int) (x text seed : ByteArray) (ht : text.size < 140737488355328) (hsd : seed.size < 140737488355328) (w : World) :
  Calls Tryz.prog 22 #[.int .i64 k, .string x, .string text, .string seed] w (ProveR (sgnE k x : Int) (sgnC k x text seed) (sgnA k x text seed) w) := by
 by_cases hk : 1 ≤ k ∧ k ≤ 3
 ·obtain ⟨j, rfl⟩ : ∃ j : Nat, k = (j : Int) := ⟨k.toNat, by omega⟩
  cases hx : isSc (grp j).q.m (grp j).size x with
  | true =>
   have h0 : pubE (j : Int) x = 0 := by unfold pubE; rw [if_pos hk, Int.toNat_natCast, if_pos hx]
   have h1 : sgnE (j : Int) x = prvE j [ownC (baseT j) (pubS j x)] [x] := by unfold sgnE; rw [if_pos h0]
   exact sSign_ok j (by omega) (by omega) x text seed ht hsd hx _ _ _ h1.symm rfl rfl w
  | false =>
   have h0 : pubE (j : Int) x = 6 := by unfold pubE; rw [if_pos hk, Int.toNat_natCast, hx]; rfl
   have h1 : sgnE (j : Int) x = 6 := by unfold sgnE; rw [if_neg (by rw [h0]; decide), h0]
   unfold sgnC sgnA
   rw [h1]
   exact sSign_er j 6 (by decide) x text seed (fun w => by have h := pub_some j (by omega) (by omega) x false hx w; simpa using h) w
 ·have h0 : pubE k x = 1 := by unfold pubE; rw [if_neg hk]
  have h1 : sgnE k x = 1 := by unfold sgnE; rw [if_neg (by rw [h0]; decide), h0]
  unfold sgnC sgnA
  rw [h1]
  exact sSign_er k 1 (by decide) x text seed (fun w => pub_none k hk x w) w
theorem sSigned_none (k : Int) (hk : ¬ (1 ≤ k ∧ k ≤ 3)) (p text ch : ByteArray) (v : Value) (w : World) :
  Calls Tryz.prog 24 #[.int .i64 k, .string p, .string text, .agg #[.string ch, v]] w (Gives (.bool false) w) := by
 unfold Gives
 go_enter Tryz.func24, Tryz.ntmps24
 go_wp2_with fail
 obtain ⟨w1, hq1, hb9, hz9, Hbp⟩ := new1 w 25 [.string ch, v]
 rw [hq1]
 clear hq1
 have HB := Lib.hid hb9
 have HZS := hz9
 clear hb9 hz9
 have bp_ := Hbp.out.c2
 go_wp2_with fail
 refine (of_none k hk _).mono ?_
 rintro e w2 ⟨rfl, rfl⟩
 go_wp2_with fail
 have HT := Lib.hid (show Below w1.heap.size w1 w1.drew from (Below.refl _ _).drew)
 have hl_bp := Hbp.out.lt
 refine wp_region_tree (fun wq9 => ∃ E : Over w1, wq9 = E.w) ((.qs [0, 1, 2, 3, 4, 7, 8, 10] (.a 5 (.a 6 (.a 9 (.a 11 (.qs [12, 13] .done))))))) (by kernel_rfl) (by kernel_rfl) (fun _ _ d _ _ h => by cases d <;> exact h) ⟨⟨_, HT.out⟩, rfl⟩ ?_
 have hov_bp := fun (E : Over w1) o => E.cell (b := w.heap.size) o hl_bp
 simp only [Tree.qs]
 repeat (refine tree_q rfl rfl ?_; go_big_quiet_step (fail); refine wpQuiet_nil ?_)
 refine tree_a rfl (fun K hK => ?_)
 go_simp
 refine hK _ _ ⟨⟨⟨_, HT.out⟩, rfl⟩, ?_⟩
 clear hK K
 repeat (refine tree_q rfl rfl ?_; go_big_quiet_step (fail); refine wpQuiet_nil ?_)
 refine tree_a rfl (fun K hK => ?_)
 go_simp
 refine hK _ _ ⟨⟨⟨_, HT.out⟩, rfl⟩, ?_⟩
 clear hK K
 repeat (refine tree_q rfl rfl ?_; go_big_quiet_step (fail); refine wpQuiet_nil ?_)
 refine tree_a rfl (fun K hK => ?_)
 go_simp
 refine hK _ _ ⟨⟨⟨_, HT.out⟩, rfl⟩, ?_⟩
 clear hK K
 repeat (refine tree_q rfl rfl ?_; go_big_quiet_step (fail); refine wpQuiet_nil ?_)
 refine tree_a rfl (fun K hK => ?_)
 go_simp
 refine hK _ _ ⟨⟨⟨_, HT.out⟩, rfl⟩, ?_⟩
 clear hK K
 repeat (refine tree_q rfl rfl ?_; go_big_quiet_step (fail); refine wpQuiet_nil ?_)
 refine tree_end ?_
 clear hov_bp hl_bp bp_
 replace Hbp := Lib.hid (Hbp.out.up HT.out)
 replace HB := hbu HB HT.out
 replace HZS := sz HZS HT.out.size
 clear HT
 have bp_ := Hbp.out.c2
 go_wp2_with fail
 go_ret
 exact ⟨rfl, HB.out⟩
theorem sSigned_some (k : Nat) (h1 : 1 ≤ k) (h3 : k ≤ 3) (p text ch : ByteArray) (ht : text.size < 140737488355328) (xs : List ByteArray) (ax : Option Addr) (cx : Nat) (hn : xs.length ≤ 8796093022207) (b : Bool) (hb : verK k (sgnT text) [ownC (baseT k) p] ch xs = b) (w : World) (hS : Sl w w.heap.size ax (xs.map Value.string)) :
  Calls Tryz.prog 24 #[.int .i64 (k : Int), .string p, .string text, .agg #[.string ch, .slice ax xs.length cx]] w (Gives (.bool b) w) := by
 have OK := Lib.hid (grp_ok k h1 h3)
 have HV := Lib.hid (fun ab ai ao w (hc : ClaimsAt w ao [ownA ab ai 1 1 (baseT k) p]) (hs : Sl w w.heap.size ax (xs.map Value.string)) => sVerify_any k (sgnT text) (by rw [sgnT_size]; decide) [ownA ab ai 1 1 (baseT k) p] ao 1 ch xs ax cx hn (by intro c hc; rw [List.mem_singleton.1 hc]; exact ⟨Nat.le_refl _, Nat.le_refl _⟩) w hc hs)
 simp only [own_verK, hb, List.length_singleton] at HV
 have HTG := Lib.hid (fun a c w h => tag1 ht a c w h)
 have HOW := Lib.hid (fun gb p w h => own_any (grp k) OK.out gb p w h)
 rw [show textS (lowN (grp k) 2) (grp k).size = baseT k from rfl] at HOW
 have HS := Lib.hid hS
 generalize baseT k = BT at *
 generalize sgnT text = TT at *
 generalize xs.length = n at *
 clear hb ht hS hn
 unfold Gives
 go_enter Tryz.func24, Tryz.ntmps24
 go_wp2_with fail
 obtain ⟨w1, hq1, hb9, hz9, Hbp⟩ := new1 w 25 [.string ch, .slice ax n cx]
 rw [hq1]
 clear hq1
 have HB := Lib.hid hb9
 have HZS := hz9
 clear hb9 hz9
 have bp_ := Hbp.out.c2
 go_wp2_with fail
 refine (of_some k h1 h3 w1).mono ?_
 rintro e w2 ⟨rfl, hg9, hb9⟩
 clear bp_
 replace Hbp := Lib.hid (Hbp.out.up hb9)
 replace HB := hbu HB hb9
 replace HZS := sz HZS hb9.size
 have HG := Lib.hid hg9
 clear hg9 hb9
 have bp_ := Hbp.out.c2
 go_wp2_with fail
 have HS2 := Lib.hid (HS.out.up HB.out)
 have HT := Lib.hid (show Below w2.heap.size w2 w2.drew from (Below.refl _ _).drew)
 have hl_bp := Hbp.out.lt
 refine wp_region_tree (fun wq9 => ∃ E : Over w2, wq9 = E.w) ((.qs [0, 1, 2, 3, 4, 7, 8, 10] (.a 5 (.a 6 (.a 9 (.a 11 (.qs [12, 13] .done))))))) (by kernel_rfl) (by kernel_rfl) (fun _ _ d _ _ h => by cases d <;> exact h) ⟨⟨_, HT.out⟩, rfl⟩ ?_
 have hov_bp := fun (E : Over w2) o => E.cell (b := w.heap.size) o hl_bp
 simp only [Tree.qs]
 repeat (refine tree_q rfl rfl ?_; go_big_quiet_step (fail); refine wpQuiet_nil ?_)
 refine tree_a rfl (fun K hK => ?_)
 go_simp
 obtain ⟨w3, hq9, hb9, hz9, Hrt⟩ := new1D w2 9 [.string text]
 rw [hq9]
 clear hq9
 have HArt := Lib.hid HT.out.size
 replace HT := Lib.hid hb9
 replace HZS := sz HZS (show w2.heap.size ≤ w3.heap.size from HT.out.size)
 clear hb9 hz9
 refine hK _ _ ⟨⟨⟨w3, HT.out⟩, rfl⟩, ?_⟩
 clear hK K
 repeat (refine tree_q rfl rfl ?_; go_big_quiet_step (fail); refine wpQuiet_nil ?_)
 refine tree_a rfl (fun K hK => ?_)
 go_simp
 refine (HTG.out _ _ _ (Sl.ofB Hrt.out)).mono ?_
 rintro e w4 ⟨rfl, hb9⟩
 replace Hrt := Lib.hid (Hrt.out.up hb9)
 replace HT := Lib.hid (below_up HT.out hb9)
 replace HZS := sz HZS (show w2.heap.size ≤ w4.heap.size from HT.out.size)
 clear hb9
 refine hK _ _ ⟨⟨⟨w4, HT.out⟩, rfl⟩, ?_⟩
 clear hK K
 repeat (refine tree_q rfl rfl ?_; go_big_quiet_step (fail); refine wpQuiet_nil ?_)
 refine tree_a rfl (fun K hK => ?_)
 go_simp
 refine (HOW.out _ p _ (HG.out.up HT.out)).mono ?_
 rintro e w5 ⟨ab, ai, ao, rfl, hc9, hb9⟩
 replace Hrt := Lib.hid (Hrt.out.up hb9)
 replace HT := Lib.hid (below_up HT.out hb9)
 replace HZS := sz HZS (show w2.heap.size ≤ w5.heap.size from HT.out.size)
 clear hb9
 have HC := Lib.hid hc9
 clear hc9
 refine hK _ _ ⟨⟨⟨w5, HT.out⟩, rfl⟩, ?_⟩
 clear hK K
 repeat (refine tree_q rfl rfl ?_; go_big_quiet_step (fail); refine wpQuiet_nil ?_)
 refine tree_a rfl (fun K hK => ?_)
 go_simp
 refine (HV.out ab ai ao _ HC.out (HS2.out.up HT.out)).mono ?_
 rintro e w6 ⟨rfl, hb9⟩
 replace Hrt := Lib.hid (Hrt.out.up hb9)
 replace HC := Lib.hid (HC.out.up hb9)
 replace HT := Lib.hid (below_up HT.out hb9)
 replace HZS := sz HZS (show w2.heap.size ≤ w6.heap.size from HT.out.size)
 clear hb9
 refine hK _ _ ⟨⟨⟨w6, HT.out⟩, rfl⟩, ?_⟩
 clear hK K
 repeat (refine tree_q rfl rfl ?_; go_big_quiet_step (fail); refine wpQuiet_nil ?_)
 refine tree_end ?_
 clear hov_bp hl_bp bp_
 replace Hbp := Lib.hid (Hbp.out.up HT.out)
 replace HG := Lib.hid (HG.out.up HT.out)
 replace HB := hbu HB HT.out
 replace HZS := sz HZS HT.out.size
 clear HT
 have bp_ := Hbp.out.c2
 go_wp2_with fail
 go_ret
 exact ⟨rfl, HB.out⟩
theorem sSigned_any (k : Int) (p text ch : ByteArray) (ht : text.size < 140737488355328) (xs : List ByteArray) (ax : Option Addr) (cx : Nat) (hn : xs.length ≤ 8796093022207) (w : World) (hS : Sl w w.heap.size ax (xs.map Value.string)) :
  Calls Tryz.prog 24 #[.int .i64 k, .string p, .string text, .agg #[.string ch, .slice ax xs.length cx]] w (Gives (.bool (sgdK k p text ch xs)) w) := by
 by_cases hk : 1 ≤ k ∧ k ≤ 3
 ·obtain ⟨j, rfl⟩ : ∃ j : Nat, k = (j : Int) := ⟨k.toNat, by omega⟩
  have h1 : sgdK (j : Int) p text ch xs = verK j (sgnT text) [ownC (baseT j) p] ch xs := by unfold sgdK; rw [decide_eq_true hk, Bool.true_and]
  rw [h1]
  exact sSigned_some j (by omega) (by omega) p text ch ht xs ax cx hn _ rfl w hS
 ·have h1 : sgdK k p text ch xs = false := by unfold sgdK; rw [decide_eq_false hk, Bool.false_and]
  rw [h1]
  exact sSigned_none k hk p text ch _ w
end Go.Proofs.YtdlnnkbigeiilaaGreat
namespace Go.Proofs.YtdlnnkbigeiilaaGreat
open Go.RowKit
section
variable {G : GP} {aq ap : Option Addr} {cq cp : Nat}
theorem rIsSc_b (ok : G.Ok) (s : ByteArray) (b : Bool) (hb : isSc G.q.m G.size s = b) (w : World) (hG : RG w G aq ap) :
  Calls Tryz.prog 58 #[.agg #[.int .i64 (G.size : Int), .slice aq (dl G.q.m) cq, .slice ap (dl G.p.m) cp], .string s] w (Gives (.bool b) w) := by
 subst hb
 exact rIsSc ok s w hG
theorem rIsEl_b (ok : G.Ok) (s : ByteArray) (b : Bool) (hb : isEl G.q.m G.size s = b) (w : World) (hG : RG w G aq ap) :
  Calls Tryz.prog 125 #[.agg #[.int .i64 (G.size : Int), .slice aq (dl G.q.m) cq, .slice ap (dl G.p.m) cp], .string s] w (Gives (.bool b) w) := by
 subst hb
 exact rIsEl ok s w hG
theorem rWrongSc (ok : G.Ok) (n : Nat) (l : List ByteArray) (al : Option Addr) (cl : Nat) (hlen : l.length ≤ 8796093022207) (w : World) (hG : RG w G aq ap) (hS : Sl w w.heap.size al (l.map Value.string)) :
  Calls Tryz.prog 59 #[.agg #[.int .i64 (G.size : Int), .slice aq (dl G.q.m) cq, .slice ap (dl G.p.m) cp], .int .i64 (n : Int), .slice al l.length cl] w (Gives (.int .i64 (scE G n l : Int)) w) := by
 have OK := Lib.hid ok
 have HG := Lib.hid hG
 have HS := Lib.hid hS
 clear ok hG hS
 obtain ⟨z, hz⟩ : ∃ z, scE G n l = z := ⟨_, rfl⟩
 have hzz : z = if l.length = n then if l.all (isSc G.q.m G.size) = true then 0 else 6 else 2 := hz.symm
 rw [hz]
 clear hz
 unfold Gives
 by_cases h1 : l.length = n
 ·have hd : ((l.length : Int) != (n : Int)) = false := by simp; omega
  rw [if_pos h1] at hzz
  have HZZ := Lib.hid hzz
  clear hzz h1
  go_enter Tryz.func59, Tryz.ntmps59
  go_wp2_with fail
  obtain ⟨w1, hq1, hb9, hz9, Hbg⟩ := new1 w 86 [.int .i64 (G.size : Int), .slice aq (dl G.q.m) cq, .slice ap (dl G.p.m) cp]
  rw [hq1]
  clear hq1
  have HB := Lib.hid hb9
  have HZS := hz9
  clear hb9 hz9
  have bg_ := Hbg.out.c3
  go_wp2_with fail
  go_loopw [15] (fun i wr => ∃ j : Nat, j ≤ l.length ∧ i = .int .i64 j ∧ Hid (Below w1.heap.size w1 wr) ∧ Hid ((l.take j).all (isSc G.q.m G.size) = true)) (fun i _ => l.length - (intOf i).toNat)
  case atStart => exact ⟨0, Nat.zero_le _, rfl, Below.refl _ _, rfl⟩
  case round =>
   obtain ⟨j, hj, rfl, HL9, HAL⟩ := hrel
   have hb9 := HL9.out
   clear HL9
   have BL := Lib.hid (Below.refl w1.heap.size w1)
   clear bg_
   replace Hbg := Lib.hid (Hbg.out.up hb9)
   replace BL := hbu BL hb9
   replace HB := hbu HB hb9
   replace HZS := sz HZS hb9.size
   clear hb9
   have bg_ := Hbg.out.c3
   by_cases hjl : j < l.length
   ·obtain ⟨bl, ol, rfl, hbl, hc⟩ := (HS.out.up HB.out).at j (by simpa using hjl)
    rw [List.getElem_map] at hc
    obtain ⟨bj, hbj⟩ : ∃ x, isSc G.q.m G.size l[j] = x := ⟨_, rfl⟩
    have HBJ := Lib.hid hbj
    clear hbj
    go_wp2_with fail
    refine (rIsSc_b OK.out l[j] bj HBJ.out wr (HG.out.up HB.out)).mono ?_
    rintro e w2 ⟨rfl, hb9⟩
    clear bg_
    replace Hbg := Lib.hid (Hbg.out.up hb9)
    replace BL := hbu BL hb9
    replace HB := hbu HB hb9
    replace HZS := sz HZS hb9.size
    clear hb9
    have bg_ := Hbg.out.c3
    cases bj
    ·go_wp2_with fail
     go_ret
     exact ⟨by rw [HZZ.out, if_neg (by rw [all_not hjl HBJ.out]; decide)]; rfl, HB.out⟩
    ·go_wp2_with fail
     go_roundw
     case rel => exact ⟨j + 1, by omega, by go_num, BL, all_snoc hjl HAL.out HBJ.out⟩
     case measure => simp [intOf]; omega
   ·have hjn : j = l.length := by omega
    subst hjn
    go_wp2_with fail
    go_ret
    exact ⟨by rw [HZZ.out, if_pos (all_take_true HAL.out)]; rfl, HB.out⟩
 ·have hd : ((l.length : Int) != (n : Int)) = true := by simp; omega
  obtain rfl : z = 2 := by rw [hzz, if_neg h1]
  clear hzz h1
  go_enter Tryz.func59, Tryz.ntmps59
  go_wp2_with fail
  obtain ⟨w1, hq1, hb9, hz9, Hbg⟩ := new1 w 86 [.int .i64 (G.size : Int), .slice aq (dl G.q.m) cq, .slice ap (dl G.p.m) cp]
  rw [hq1]
  clear hq1
  have HB := Lib.hid hb9
  have HZS := hz9
  clear hb9 hz9
  have bg_ := Hbg.out.c3
  go_wp2_with fail
  go_ret
  exact ⟨rfl, HB.out⟩
theorem rPower5 (ok : G.Ok) (b : ByteArray) (hb : b.size ≤ 32) {n : Nat} {an : Option Addr} {cn : Nat} (hn : dl n ≤ 65536) (w : World) (hG : RG w G aq ap) (hN : NumAt w an n) :
  Calls Tryz.prog 117 #[.agg #[.int .i64 (G.size : Int), .slice aq (dl G.q.m) cq, .slice ap (dl G.p.m) cp], .string b, .slice an (dl n) cn] w fun e w' => NumR w e w' (lowN G (numOf b ^ n)) := by
 have OK := Lib.hid ok
 have HG := Lib.hid hG
 have HN := Lib.hid hN
 clear ok hG hN
 go_enter Tryz.func117, Tryz.ntmps117
 go_wp2_with fail
 obtain ⟨w1, hq1, hb9, hz9, Hbg⟩ := new1 w 86 [.int .i64 (G.size : Int), .slice aq (dl G.q.m) cq, .slice ap (dl G.p.m) cp]
 rw [hq1]
 clear hq1
 have HB := Lib.hid hb9
 have HZS := hz9
 clear hb9 hz9
 have bg_ := Hbg.out.c3
 go_wp2_with fail
 have HT := Lib.hid (show Below w1.heap.size w1 w1.drew from (Below.refl _ _).drew)
 have hl_bg := Hbg.out.lt
 refine wp_region_tree (fun wq9 => ∃ E : Over w1, wq9 = E.w) ((.qs [0, 1, 3] (.a 2 (.a 4 (.qs [5] .done))))) (by kernel_rfl) (by kernel_rfl) (fun _ _ d _ _ h => by cases d <;> exact h) ⟨⟨_, HT.out⟩, rfl⟩ ?_
 have hov_bg := fun (E : Over w1) o => E.cell (b := w.heap.size) o hl_bg
 simp only [Tree.qs]
 repeat (refine tree_q rfl rfl ?_; go_big_quiet_step (fail); refine wpQuiet_nil ?_)
 refine tree_a rfl (fun K hK => ?_)
 go_simp
 refine (refRead_any b (by omega) _).mono ?_
 rintro e w2 ⟨a4, c4, rfl, hn9, hb9⟩
 replace HT := Lib.hid (below_up HT.out hb9)
 replace HZS := sz HZS (show w1.heap.size ≤ w2.heap.size from HT.out.size)
 clear hb9
 have HN4 := Lib.hid hn9
 clear hn9
 refine hK _ _ ⟨⟨⟨w2, HT.out⟩, rfl⟩, ?_⟩
 clear hK K
 repeat (refine tree_q rfl rfl ?_; go_big_quiet_step (fail); refine wpQuiet_nil ?_)
 refine tree_a rfl (fun K hK => ?_)
 go_simp
 refine (rPow OK.out (numOf_16 b hb) hn _ (HG.out.up (below_up HB.out HT.out)) HN4.out (HN.out.up (below_up HB.out HT.out))).mono ?_
 rintro e w3 ⟨a5, c5, rfl, hn9, hb9⟩
 replace HN4 := Lib.hid (HN4.out.up hb9)
 replace HT := Lib.hid (below_up HT.out hb9)
 replace HZS := sz HZS (show w1.heap.size ≤ w3.heap.size from HT.out.size)
 clear hb9
 have HN5 := Lib.hid hn9
 clear hn9
 refine hK _ _ ⟨⟨⟨w3, HT.out⟩, rfl⟩, ?_⟩
 clear hK K
 repeat (refine tree_q rfl rfl ?_; go_big_quiet_step (fail); refine wpQuiet_nil ?_)
 refine tree_end ?_
 clear hov_bg hl_bg bg_
 replace Hbg := Lib.hid (Hbg.out.up HT.out)
 replace HB := hbu HB HT.out
 replace HZS := sz HZS HT.out.size
 clear HT
 have bg_ := Hbg.out.c3
 go_wp2_with fail
 go_ret
 exact ⟨a5, c5, rfl, HN5.out, HB.out⟩
end
theorem size_n0 (k : Nat) (h1 : 1 ≤ k) (h3 : k ≤ 3) : (((grp k).size : Int) == 0) = false := by
 obtain rfl | rfl | rfl : k = 1 ∨ k = 2 ∨ k = 3 := by omega
 all_goals rfl
theorem size_gt0 (k : Nat) (h1 : 1 ≤ k) (h3 : k ≤ 3) : decide (((grp k).size : Int) > 0) = true := by
 obtain rfl | rfl | rfl : k = 1 ∨ k = 2 ∨ k = 3 := by omega
 all_goals rfl
theorem toList_ne {a b : ByteArray} (h : ¬ a = b) : ¬ a.toList = b.toList := fun e => h (by
 have h9 : (a == b) = true := by rw [beq_toListBytes]; exact beq_iff_eq.2 e
 obtain ⟨x⟩ := a
 obtain ⟨y⟩ := b
 have h10 : (x == y) = true := h9
 rw [eq_of_beq h10])
theorem toList_bne {a b : ByteArray} (h : ¬ a = b) : (a.toList == b.toList) = false := beq_eq_false_iff_ne.2 (toList_ne h)
theorem sc_len {G : GP} (ok : G.Ok) {s : ByteArray} (h : isSc G.q.m G.size s = true) : s.size ≤ 32 := by rw [isSc_size h]; exact ok.size_le
theorem el_len {G : GP} (ok : G.Ok) {s : ByteArray} (h : isEl G.q.m G.size s = true) : s.size ≤ 32 := by rw [isEl_size h]; exact ok.size_le
def mulQ (G : GP) (a b : Nat) : Nat := a * b % G.q.m
def addQ (G : GP) (a b : Nat) : Nat := (a + b) % G.q.m
def subQ (G : GP) (a b : Nat) : Nat := (a + (G.q.m - b)) % G.q.m
section
variable {G : GP} {aq ap : Option Addr} {cq cp : Nat}
theorem mulQ_lt (ok : G.Ok) (a b : Nat) : mulQ G a b < G.q.m := Nat.mod_lt _ ok.q.pos
theorem addQ_lt (ok : G.Ok) (a b : Nat) : addQ G a b < G.q.m := Nat.mod_lt _ ok.q.pos
theorem subQ_lt (ok : G.Ok) (a b : Nat) : subQ G a b < G.q.m := Nat.mod_lt _ ok.q.pos
theorem q_16 (ok : G.Ok) {x : Nat} (h : x < G.q.m) : x < DD ^ 16 := Nat.lt_trans h ok.q.lt4
theorem rMulQ (ok : G.Ok) {a b : Nat} {aa ab : Option Addr} {ca cb : Nat} (ha : a < DD ^ 16) (hb : b < DD ^ 16) (w : World) (hG : RG w G aq ap) (hA : NumAt w aa a) (hB : NumAt w ab b) :
  Calls Tryz.prog 126 #[.agg #[.int .i64 (G.size : Int), .slice aq (dl G.q.m) cq, .slice ap (dl G.p.m) cp], .slice aa (dl a) ca, .slice ab (dl b) cb] w fun e w' => NumR w e w' (mulQ G a b) := rMul ok ha hb w hG hA hB
theorem rAddQ (ok : G.Ok) {a b : Nat} {aa ab : Option Addr} {ca cb : Nat} (ha : a < DD ^ 16) (hb : b < DD ^ 16) (w : World) (hG : RG w G aq ap) (hA : NumAt w aa a) (hB : NumAt w ab b) :
  Calls Tryz.prog 60 #[.agg #[.int .i64 (G.size : Int), .slice aq (dl G.q.m) cq, .slice ap (dl G.p.m) cp], .slice aa (dl a) ca, .slice ab (dl b) cb] w fun e w' => NumR w e w' (addQ G a b) := rAdd ok ha hb w hG hA hB
theorem rSubQ (ok : G.Ok) {a b : Nat} {aa ab : Option Addr} {ca cb : Nat} (ha : a < DD ^ 16) (hb : b ≤ G.q.m) (w : World) (hG : RG w G aq ap) (hA : NumAt w aa a) (hB : NumAt w ab b) :
  Calls Tryz.prog 77 #[.agg #[.int .i64 (G.size : Int), .slice aq (dl G.q.m) cq, .slice ap (dl G.p.m) cp], .slice aa (dl a) ca, .slice ab (dl b) cb] w fun e w' => NumR w e w' (subQ G a b) := rSub ok ha hb w hG hA hB
theorem rTextQ (ok : G.Ok) {x : Nat} {an : Option Addr} {cn : Nat} (hx : x < G.q.m) (w : World) (hN : NumAt w an x) :
  Calls Tryz.prog 49 #[.slice an (dl x) cn, .int .i64 (G.size : Int)] w fun e w' => e = .returned (.string (textS x G.size)) ∧ Below w.heap.size w w' :=
 rText ok (q_16 ok hx) w hN
end
end Go.Proofs.YtdlnnkbigeiilaaGreat
namespace Go.Proofs.YtdlnnkbigeiilaaGreat
open Go.RowKit
theorem w_long {G : GP} {l : List ClaimA} {z : Nat} (hz : wrongE G l = z) (h : 64 < l.length ∨ l.any cLong = true) : z = 3 := by
 have hs : shapeE l = 3 := by
  unfold shapeE
  rw [if_pos]
  rcases h with h | h
  ·rw [decide_eq_true h]; rfl
  ·rw [h, Bool.or_true]
 rw [← hz]
 unfold wrongE
 rw [hs]
 rfl
theorem w_form {G : GP} {l : List ClaimA} {z : Nat} (hz : wrongE G l = z) (h1 : ¬ 64 < l.length) (h2 : l.any cLong = false) (h : l.length = 0 ∨ l.any cForm = true) : z = 2 := by
 have hs : shapeE l = 2 := by
  unfold shapeE
  rw [if_neg (by rw [decide_eq_false h1, h2]; decide), if_pos]
  rcases h with h | h
  ·rw [decide_eq_true h]; rfl
  ·rw [h, Bool.or_true]
 rw [← hz]
 unfold wrongE
 rw [hs]
 rfl
theorem w_elem {G : GP} {l : List ClaimA} {z : Nat} (hz : wrongE G l = z) (h1 : ¬ 64 < l.length) (h2 : l.any cLong = false) (h3 : ¬ l.length = 0) (h4 : l.any cForm = false) : z = if l.all (cElems G) = true then 0 else 7 := by
 have hs : shapeE l = 0 := by
  unfold shapeE
  rw [if_neg (by rw [decide_eq_false h1, h2]; decide), if_neg (by rw [decide_eq_false h3, h4]; decide)]
 rw [← hz]
 unfold wrongE
 rw [hs]
 rfl
theorem any_take_false {α : Type} {f : α → Bool} {l : List α} {n : Nat} (hl : l.length = n) (h : (l.take n).any f = false) : l.any f = false := by rwa [List.take_of_length_le (by omega)] at h
theorem any_one {α : Type} {f : α → Bool} {l : List α} (h : l.any f = false) {j : Nat} (hj : j < l.length) : f l[j] = false := by
 have h9 := List.any_eq_false.1 h _ (List.getElem_mem hj)
 simpa using h9
section
variable {G : GP} {aq ap : Option Addr} {cq cp : Nat}
theorem rWrong (ok : G.Ok) (l : List ClaimA) (n : Nat) (hn : l.length = n) (z : Nat) (hz : wrongE G l = z) (al : Option Addr) (cl : Nat) (w : World) (hG : RG w G aq ap) (hC : ClaimsAt w al l) :
  Calls Tryz.prog 70 #[.agg #[.int .i64 (G.size : Int), .slice aq (dl G.q.m) cq, .slice ap (dl G.p.m) cp], .slice al n cl] w (Gives (.int .i64 (z : Int)) w) := by
 have OK := Lib.hid ok
 have HG := Lib.hid hG
 have HC := Lib.hid hC
 have HN := Lib.hid hn
 have HZ := Lib.hid hz
 clear ok hG hC hn hz
 unfold Gives
 by_cases h64 : 64 < n
 ·have hd : decide ((n : Int) > 64) = true := by simp; omega
  obtain rfl : z = 3 := w_long HZ.out (Or.inl (by rw [HN.out]; exact h64))
  clear h64
  go_enter Tryz.func70, Tryz.ntmps70
  go_wp2_with fail
  obtain ⟨w1, hq1, hb9, hz9, Hbg⟩ := new1 w 86 [.int .i64 (G.size : Int), .slice aq (dl G.q.m) cq, .slice ap (dl G.p.m) cp]
  rw [hq1]
  clear hq1
  have HB := Lib.hid hb9
  have HZS := hz9
  clear hb9 hz9
  have bg_ := Hbg.out.c3
  go_wp2_with fail
  go_ret
  exact ⟨rfl, HB.out⟩
 have hd : decide ((n : Int) > 64) = false := by simp; omega
 have H64 := Lib.hid (show ¬ 64 < l.length by rw [HN.out]; exact h64)
 go_enter Tryz.func70, Tryz.ntmps70
 go_wp2_with fail
 obtain ⟨w1, hq1, hb9, hz9, Hbg⟩ := new1 w 86 [.int .i64 (G.size : Int), .slice aq (dl G.q.m) cq, .slice ap (dl G.p.m) cp]
 rw [hq1]
 clear hq1
 have HB := Lib.hid hb9
 have HZS := hz9
 clear hb9 hz9
 have bg_ := Hbg.out.c3
 have BL := Lib.hid (Below.refl w1.heap.size w1)
 go_wp2_with fail
 go_loopw [17] (fun i wr => ∃ j : Nat, j ≤ n ∧ i = .int .i64 j ∧ Hid (Below w1.heap.size w1 wr) ∧ Hid ((l.take j).any cLong = false)) (fun i _ => n - (intOf i).toNat)
 case atStart => exact ⟨0, Nat.zero_le _, rfl, BL, rfl⟩
 case round =>
  obtain ⟨j, hj, rfl, HL9, HAL⟩ := hrel
  have hb9 := HL9.out
  clear HL9 bg_
  replace Hbg := Lib.hid (Hbg.out.up hb9)
  replace BL := hbu BL hb9
  replace HB := hbu HB hb9
  replace HZS := sz HZS hb9.size
  clear hb9
  have bg_ := Hbg.out.c3
  by_cases hjn : j < n
  ·have hjl : j < l.length := by rw [HN.out]; exact hjn
   obtain ⟨bl, ol, rfl, hbl0, hc⟩ := (HC.out.s.up HB.out).elem ClaimA.cells_len (by omega) j hjl
   have hc_0 := hc 0 _ rfl
   rw [Nat.add_zero] at hc_0
   have hc_1 := hc 1 _ rfl
   clear hc
   have HS1 := Lib.hid (any_snoc (f := cLong) hjl HAL.out)
   have HS2 := Lib.hid (any_take_true (f := cLong) hjl)
   have hcl : cLong l[j] = (decide (8 < l[j].bases.length) || decide (8 < l[j].images.length)) := rfl
   generalize l[j] = c at *
   generalize c.bases.length = n1 at *
   generalize c.images.length = n2 at *
   by_cases h1 : 8 < n1
   ·obtain rfl : z = 3 := w_long HZ.out (Or.inr (HS2.out (by rw [hcl]; simp [h1])))
    have hd1 : decide ((n1 : Int) > 8) = true := by simp; omega
    clear hcl h1
    have o2_bg_ := bg_; clear bg_
    obtain ⟨w2, hq2, hb9, hz9, Hbc⟩ := new1 wr 50 [.slice c.ab n1 c.cb, .slice c.ai n2 c.ci]
    replace Hbg := Lib.hid (Hbg.out.up hb9)
    replace BL := hbu BL hb9
    replace HB := hbu HB hb9
    replace HZS := sz HZS hz9.out
    clear hb9 hz9
    have bg_ := Hbg.out.c3
    have bc_ := Hbc.out.c2
    go_wp2_with fail
    clear hq2 o2_bg_
    go_ret
    exact ⟨rfl, HB.out⟩
   have hd1 : decide ((n1 : Int) > 8) = false := by simp; omega
   by_cases h2 : 8 < n2
   ·obtain rfl : z = 3 := w_long HZ.out (Or.inr (HS2.out (by rw [hcl]; simp [h2])))
    have hd2 : decide ((n2 : Int) > 8) = true := by simp; omega
    clear hcl h1 h2
    have o2_bg_ := bg_; clear bg_
    obtain ⟨w2, hq2, hb9, hz9, Hbc⟩ := new1 wr 50 [.slice c.ab n1 c.cb, .slice c.ai n2 c.ci]
    replace Hbg := Lib.hid (Hbg.out.up hb9)
    replace BL := hbu BL hb9
    replace HB := hbu HB hb9
    replace HZS := sz HZS hz9.out
    clear hb9 hz9
    have bg_ := Hbg.out.c3
    have bc_ := Hbc.out.c2
    go_wp2_with fail
    clear hq2 o2_bg_
    go_ret
    exact ⟨rfl, HB.out⟩
   have hd2 : decide ((n2 : Int) > 8) = false := by simp; omega
   have HS3 := Lib.hid (HS1.out (by rw [hcl]; simp [h1, h2]))
   clear hcl h1 h2
   have o2_bg_ := bg_; clear bg_
   obtain ⟨w2, hq2, hb9, hz9, Hbc⟩ := new1 wr 50 [.slice c.ab n1 c.cb, .slice c.ai n2 c.ci]
   replace Hbg := Lib.hid (Hbg.out.up hb9)
   replace BL := hbu BL hb9
   replace HB := hbu HB hb9
   replace HZS := sz HZS hz9.out
   clear hb9 hz9
   have bg_ := Hbg.out.c3
   have bc_ := Hbc.out.c2
   go_wp2_with fail
   go_roundw
   case rel => exact ⟨j + 1, by omega, by go_num, BL, HS3.out⟩
   case measure => simp [intOf]; omega
  ·have hjn' : j = n := by omega
   subst hjn'
   have HLG := Lib.hid (any_take_false HN.out HAL.out)
   clear HAL hj hjn
   by_cases h0 : j = 0
   ·obtain rfl : z = 2 := w_form HZ.out H64.out HLG.out (Or.inl (by rw [HN.out]; exact h0))
    have hd0 : ((j : Int) == 0) = true := by simp; omega
    clear h0
    go_wp2_with fail
    go_ret
    exact ⟨rfl, HB.out⟩
   have H0 := Lib.hid (show ¬ l.length = 0 by rw [HN.out]; exact h0)
   have hd0 : ((j : Int) == 0) = false := by simp; omega
   generalize j = n at *
   clear h0
   obtain ⟨wo, rfl⟩ : ∃ wo : World, wo = wr := ⟨_, rfl⟩
   have BM := Lib.hid (Below.refl wo.heap.size wo)
   go_wp2_with fail
   go_loopw [37] (fun i wr => ∃ j : Nat, j ≤ n ∧ i = .int .i64 j ∧ Hid (Below wo.heap.size wo wr) ∧ Hid ((l.take j).any cForm = false)) (fun i _ => n - (intOf i).toNat)
   case atStart => exact ⟨0, Nat.zero_le _, rfl, BM, rfl⟩
   case round =>
    obtain ⟨j, hj, rfl, HL9, HAL⟩ := hrel
    have hb9 := HL9.out
    clear HL9 bg_
    replace Hbg := Lib.hid (Hbg.out.up hb9)
    replace BL := hbu BL hb9
    replace BM := hbu BM hb9
    replace HB := hbu HB hb9
    replace HZS := sz HZS hb9.size
    clear hb9
    have bg_ := Hbg.out.c3
    by_cases hjn : j < n
    ·have hjl : j < l.length := by rw [HN.out]; exact hjn
     obtain ⟨bl, ol, rfl, hbl0, hc⟩ := (HC.out.s.up HB.out).elem ClaimA.cells_len (by omega) j hjl
     have hc_0 := hc 0 _ rfl
     rw [Nat.add_zero] at hc_0
     have hc_1 := hc 1 _ rfl
     clear hc
     have HS1 := Lib.hid (any_snoc (f := cForm) hjl HAL.out)
     have HS2 := Lib.hid (any_take_true (f := cForm) hjl)
     have hcl : cForm l[j] = (decide (l[j].bases.length = 0) || decide (l[j].bases.length ≠ l[j].images.length)) := rfl
     generalize l[j] = c at *
     generalize c.bases.length = n1 at *
     generalize c.images.length = n2 at *
     by_cases h1 : n1 = 0
     ·obtain rfl : z = 2 := w_form HZ.out H64.out HLG.out (Or.inr (HS2.out (by rw [hcl]; simp [h1])))
      have hd1 : ((n1 : Int) == 0) = true := by simp; omega
      clear hcl h1
      have o2_bg_ := bg_; clear bg_
      obtain ⟨w2, hq2, hb9, hz9, Hbc⟩ := new1 wr 50 [.slice c.ab n1 c.cb, .slice c.ai n2 c.ci]
      replace Hbg := Lib.hid (Hbg.out.up hb9)
      replace BL := hbu BL hb9
      replace BM := hbu BM hb9
      replace HB := hbu HB hb9
      replace HZS := sz HZS hz9.out
      clear hb9 hz9
      have bg_ := Hbg.out.c3
      have bc_ := Hbc.out.c2
      go_wp2_with fail
      clear hq2 o2_bg_
      go_ret
      exact ⟨rfl, HB.out⟩
     have hd1 : ((n1 : Int) == 0) = false := by simp; omega
     by_cases h2 : n1 ≠ n2
     ·obtain rfl : z = 2 := w_form HZ.out H64.out HLG.out (Or.inr (HS2.out (by rw [hcl]; simp [h2])))
      have hd2 : ((n1 : Int) != (n2 : Int)) = true := by simp; omega
      clear hcl h1 h2
      have o2_bg_ := bg_; clear bg_
      obtain ⟨w2, hq2, hb9, hz9, Hbc⟩ := new1 wr 50 [.slice c.ab n1 c.cb, .slice c.ai n2 c.ci]
      replace Hbg := Lib.hid (Hbg.out.up hb9)
      replace BL := hbu BL hb9
      replace BM := hbu BM hb9
      replace HB := hbu HB hb9
      replace HZS := sz HZS hz9.out
      clear hb9 hz9
      have bg_ := Hbg.out.c3
      have bc_ := Hbc.out.c2
      go_wp2_with fail
      clear hq2 o2_bg_
      go_ret
      exact ⟨rfl, HB.out⟩
     have hd2 : ((n1 : Int) != (n2 : Int)) = false := by simp; omega
     have HS3 := Lib.hid (HS1.out (by rw [hcl]; simp [h1]; omega))
     clear hcl h1 h2
     have o2_bg_ := bg_; clear bg_
     obtain ⟨w2, hq2, hb9, hz9, Hbc⟩ := new1 wr 50 [.slice c.ab n1 c.cb, .slice c.ai n2 c.ci]
     replace Hbg := Lib.hid (Hbg.out.up hb9)
     replace BL := hbu BL hb9
     replace BM := hbu BM hb9
     replace HB := hbu HB hb9
     replace HZS := sz HZS hz9.out
     clear hb9 hz9
     have bg_ := Hbg.out.c3
     have bc_ := Hbc.out.c2
     go_wp2_with fail
     go_roundw
     case rel => exact ⟨j + 1, by omega, by go_num, BM, HS3.out⟩
     case measure => simp [intOf]; omega
    ·have hjn' : j = n := by omega
     subst hjn'
     have HLF := Lib.hid (any_take_false HN.out HAL.out)
     have HZE := Lib.hid (w_elem HZ.out H64.out HLG.out H0.out HLF.out)
     clear HAL hj hjn
     generalize j = n at *
     obtain ⟨wo2, rfl⟩ : ∃ wo2 : World, wo2 = wr := ⟨_, rfl⟩
     have BN := Lib.hid (Below.refl wo2.heap.size wo2)
     go_wp2_with fail
     go_loopw [57] (fun i wr => ∃ j : Nat, j ≤ n ∧ i = .int .i64 j ∧ Hid (Below wo2.heap.size wo2 wr) ∧ Hid ((l.take j).all (cElems G) = true)) (fun i _ => n - (intOf i).toNat)
     case atStart => exact ⟨0, Nat.zero_le _, rfl, BN, rfl⟩
     case round =>
      obtain ⟨j, hj, rfl, HL9, HAL⟩ := hrel
      have hb9 := HL9.out
      clear HL9 bg_
      replace Hbg := Lib.hid (Hbg.out.up hb9)
      replace BL := hbu BL hb9
      replace BM := hbu BM hb9
      replace BN := hbu BN hb9
      replace HB := hbu HB hb9
      replace HZS := sz HZS hb9.size
      clear hb9
      have bg_ := Hbg.out.c3
      by_cases hjn : j < n
      ·have hjl : j < l.length := by rw [HN.out]; exact hjn
       obtain ⟨bl, ol, rfl, hbl0, hc⟩ := (HC.out.s.up HB.out).elem ClaimA.cells_len (by omega) j hjl
       have hc_0 := hc 0 _ rfl
       rw [Nat.add_zero] at hc_0
       have hc_1 := hc 1 _ rfl
       clear hc
       have HAT := Lib.hid ((HC.out.up HB.out).one j hjl)
       have HFJ := Lib.hid (any_one HLF.out hjl)
       have HLJ := Lib.hid (any_one HLG.out hjl)
       have HSN := Lib.hid (all_snoc (f := cElems G) hjl HAL.out)
       have HNO := Lib.hid (all_not (f := cElems G) hjl)
       generalize l[j] = c at *
       have hlens : c.images.length = c.bases.length ∧ c.bases.length ≤ 8 := by
        have g1 := HFJ.out
        have g2 := HLJ.out
        unfold cForm at g1
        unfold cLong at g2
        simp at g1 g2
        omega
       have HLEN := Lib.hid hlens.1
       have hl8 := hlens.2
       clear hlens
       have HAB := Lib.hid HAT.out.b
       have HAJ := Lib.hid HAT.out.i
       have HSN2 := Lib.hid (show c.bases.all (isEl G.q.m G.size) = true → c.images.all (isEl G.q.m G.size) = true → _ from fun h1 h2 => HSN.out (show (c.bases.all (isEl G.q.m G.size) && c.images.all (isEl G.q.m G.size)) = true by rw [h1, h2]; rfl))
       have HNO2 := Lib.hid (show (c.bases.all (isEl G.q.m G.size) && c.images.all (isEl G.q.m G.size)) = false → _ from HNO.out)
       clear HAT HFJ HLJ HSN HNO
       generalize c.bases = bs at *
       generalize c.images = ims at *
       generalize c.ab = ab at *
       generalize c.ai = ai at *
       generalize c.cb = cb at *
       generalize c.ci = ci at *
       have BR := Lib.hid (Below.refl wr.heap.size wr)
       have o2_bg_ := bg_; clear bg_
       obtain ⟨w2, hq2, hb9, hz9, Hbc⟩ := new1 wr 50 [.slice ab bs.length cb, .slice ai ims.length ci]
       replace Hbg := Lib.hid (Hbg.out.up hb9)
       replace BL := hbu BL hb9
       replace BM := hbu BM hb9
       replace BN := hbu BN hb9
       replace BR := hbu BR hb9
       replace HB := hbu HB hb9
       replace HZS := sz HZS hz9.out
       clear hb9 hz9
       have bg_ := Hbg.out.c3
       have bc_ := Hbc.out.c2
       obtain ⟨wo3, rfl⟩ : ∃ wo3 : World, wo3 = wr := ⟨_, rfl⟩
       have BI := Lib.hid (Below.refl w2.heap.size w2)
       go_wp2_with fail
       clear hq2 o2_bg_
       go_loopw [11] (fun i wr => ∃ t : Nat, t ≤ bs.length ∧ i = .int .i64 t ∧ Hid (Below w2.heap.size w2 wr) ∧ Hid ((bs.take t).all (isEl G.q.m G.size) = true ∧ (ims.take t).all (isEl G.q.m G.size) = true)) (fun i _ => bs.length - (intOf i).toNat)
       case atStart => exact ⟨0, Nat.zero_le _, rfl, BI, ⟨rfl, rfl⟩⟩
       case round =>
        obtain ⟨t, ht, rfl, HL9, HAI⟩ := hrel
        have hb9 := HL9.out
        clear HL9 bg_
        replace Hbg := Lib.hid (Hbg.out.up hb9)
        clear bc_
        replace Hbc := Lib.hid (Hbc.out.up hb9)
        replace BL := hbu BL hb9
        replace BM := hbu BM hb9
        replace BN := hbu BN hb9
        replace BR := hbu BR hb9
        replace BI := hbu BI hb9
        replace HB := hbu HB hb9
        replace HZS := sz HZS hb9.size
        clear hb9
        have bg_ := Hbg.out.c3
        have bc_ := Hbc.out.c2
        by_cases htm : t < bs.length
        ·have hti : t < ims.length := by rw [HLEN.out]; exact htm
         obtain ⟨b1, o1, rfl, hb1, hc1⟩ := (HAB.out.up BR.out).at t (by simpa using htm)
         obtain ⟨b2, o2, rfl, hb2, hc2⟩ := (HAJ.out.up BR.out).at t (by simpa using hti)
         rw [List.getElem_map] at hc1 hc2
         have HT1 := Lib.hid (all_snoc (f := isEl G.q.m G.size) htm HAI.out.1)
         have HT2 := Lib.hid (all_snoc (f := isEl G.q.m G.size) hti HAI.out.2)
         have HT3 := Lib.hid (all_not (f := isEl G.q.m G.size) htm)
         have HT4 := Lib.hid (all_not (f := isEl G.q.m G.size) hti)
         generalize bs[t] = x at *
         generalize ims[t] = y at *
         obtain ⟨q1, hq1⟩ : ∃ q, isEl G.q.m G.size x = q := ⟨_, rfl⟩
         obtain ⟨q2, hq2⟩ : ∃ q, isEl G.q.m G.size y = q := ⟨_, rfl⟩
         have HQ1 := Lib.hid hq1
         have HQ2 := Lib.hid hq2
         clear hq1 hq2
         cases q1
         ·have HW := Lib.hid (HNO2.out (by rw [HT3.out HQ1.out]; rfl))
          obtain rfl : z = 7 := by rw [HZE.out, if_neg (by rw [HW.out]; decide)]
          go_wp2_with fail
          have HT := Lib.hid (show Below wr.heap.size wr wr.drew from (Below.refl _ _).drew)
          have hl_bg := Hbg.out.lt
          have hl_bc := Hbc.out.lt
          refine wp_region_tree (fun wq9 => ∃ E : Over wr, wq9 = E.w) ((.qs [0, 1, 2, 3, 4, 5] (.a 6 (.qs [7, 8, 9, 10, 11, 12, 13, 14] (.a 15 (.qs [16, 17] .done)))))) (by kernel_rfl) (by kernel_rfl) (fun _ _ d _ _ h => by cases d <;> exact h) ⟨⟨_, HT.out⟩, rfl⟩ ?_
          have hov_bg := fun (E : Over wr) o => E.cell (b := w.heap.size) o hl_bg
          have hov_bc := fun (E : Over wr) o => E.cell (b := wo3.heap.size) o hl_bc
          have hov_b1 := fun (E : Over wr) o => E.cell (b := b1) o hb1
          have hov_b2 := fun (E : Over wr) o => E.cell (b := b2) o hb2
          simp only [Tree.qs]
          repeat (refine tree_q rfl rfl ?_; go_big_quiet_step (fail); refine wpQuiet_nil ?_)
          refine tree_a rfl (fun K hK => ?_)
          go_simp
          refine (rIsEl_b OK.out x false HQ1.out _ (HG.out.up (below_up HB.out HT.out))).mono ?_
          rintro e w3 ⟨rfl, hb9⟩
          replace HT := Lib.hid (below_up HT.out hb9)
          replace HZS := sz HZS (show wr.heap.size ≤ w3.heap.size from HT.out.size)
          clear hb9
          refine hK _ _ ⟨⟨⟨w3, HT.out⟩, rfl⟩, ?_⟩
          clear hK K
          repeat (refine tree_q rfl rfl ?_; go_big_quiet_step (fail); refine wpQuiet_nil ?_)
          refine tree_a rfl (fun K hK => ?_)
          go_simp
          refine hK _ _ ⟨⟨⟨_, HT.out⟩, rfl⟩, ?_⟩
          clear hK K
          repeat (refine tree_q rfl rfl ?_; go_big_quiet_step (fail); refine wpQuiet_nil ?_)
          refine tree_end ?_
          clear hov_bg hl_bg hov_bc hl_bc hov_b1 hov_b2 bg_
          replace Hbg := Lib.hid (Hbg.out.up HT.out)
          clear bc_
          replace Hbc := Lib.hid (Hbc.out.up HT.out)
          replace BL := hbu BL HT.out
          replace BM := hbu BM HT.out
          replace BN := hbu BN HT.out
          replace BR := hbu BR HT.out
          replace BI := hbu BI HT.out
          replace HB := hbu HB HT.out
          replace HZS := sz HZS HT.out.size
          clear HT
          have bg_ := Hbg.out.c3
          have bc_ := Hbc.out.c2
          go_wp2_with fail
          go_ret
          exact ⟨rfl, HB.out⟩
         ·go_wp2_with fail
          have HT := Lib.hid (show Below wr.heap.size wr wr.drew from (Below.refl _ _).drew)
          have hl_bg := Hbg.out.lt
          have hl_bc := Hbc.out.lt
          refine wp_region_tree (fun wq9 => ∃ E : Over wr, wq9 = E.w) ((.qs [0, 1, 2, 3, 4, 5] (.a 6 (.qs [7, 8, 9, 10, 11, 12, 13, 14] (.a 15 (.qs [16, 17] .done)))))) (by kernel_rfl) (by kernel_rfl) (fun _ _ d _ _ h => by cases d <;> exact h) ⟨⟨_, HT.out⟩, rfl⟩ ?_
          have hov_bg := fun (E : Over wr) o => E.cell (b := w.heap.size) o hl_bg
          have hov_bc := fun (E : Over wr) o => E.cell (b := wo3.heap.size) o hl_bc
          have hov_b1 := fun (E : Over wr) o => E.cell (b := b1) o hb1
          have hov_b2 := fun (E : Over wr) o => E.cell (b := b2) o hb2
          simp only [Tree.qs]
          repeat (refine tree_q rfl rfl ?_; go_big_quiet_step (fail); refine wpQuiet_nil ?_)
          refine tree_a rfl (fun K hK => ?_)
          go_simp
          refine (rIsEl_b OK.out x true HQ1.out _ (HG.out.up (below_up HB.out HT.out))).mono ?_
          rintro e w3 ⟨rfl, hb9⟩
          replace HT := Lib.hid (below_up HT.out hb9)
          replace HZS := sz HZS (show wr.heap.size ≤ w3.heap.size from HT.out.size)
          clear hb9
          refine hK _ _ ⟨⟨⟨w3, HT.out⟩, rfl⟩, ?_⟩
          clear hK K
          repeat (refine tree_q rfl rfl ?_; go_big_quiet_step (fail); refine wpQuiet_nil ?_)
          refine tree_a rfl (fun K hK => ?_)
          go_simp
          refine (rIsEl_b OK.out y q2 HQ2.out _ (HG.out.up (below_up HB.out HT.out))).mono ?_
          rintro e w4 ⟨rfl, hb9⟩
          replace HT := Lib.hid (below_up HT.out hb9)
          replace HZS := sz HZS (show wr.heap.size ≤ w4.heap.size from HT.out.size)
          clear hb9
          refine hK _ _ ⟨⟨⟨w4, HT.out⟩, rfl⟩, ?_⟩
          clear hK K
          repeat (refine tree_q rfl rfl ?_; go_big_quiet_step (fail); refine wpQuiet_nil ?_)
          refine tree_end ?_
          clear hov_bg hl_bg hov_bc hl_bc hov_b1 hov_b2 bg_
          replace Hbg := Lib.hid (Hbg.out.up HT.out)
          clear bc_
          replace Hbc := Lib.hid (Hbc.out.up HT.out)
          replace BL := hbu BL HT.out
          replace BM := hbu BM HT.out
          replace BN := hbu BN HT.out
          replace BR := hbu BR HT.out
          replace BI := hbu BI HT.out
          replace HB := hbu HB HT.out
          replace HZS := sz HZS HT.out.size
          clear HT
          have bg_ := Hbg.out.c3
          have bc_ := Hbc.out.c2
          cases q2
          ·have HW := Lib.hid (HNO2.out (by rw [HT4.out HQ2.out, Bool.and_false]))
           obtain rfl : z = 7 := by rw [HZE.out, if_neg (by rw [HW.out]; decide)]
           go_wp2_with fail
           go_ret
           exact ⟨rfl, HB.out⟩
          ·go_wp2_with fail
           go_roundw
           case rel => exact ⟨t + 1, by omega, by go_num, BI, ⟨HT1.out HQ1.out, HT2.out HQ2.out⟩⟩
           case measure => simp [intOf]; omega
        ·have htm' : t = bs.length := by omega
         have HHT := Lib.hid (HSN2.out (all_take_true (by rw [← htm']; exact HAI.out.1)) (all_take_true (by rw [HLEN.out, ← htm']; exact HAI.out.2)))
         go_wp2_with fail
         go_roundw
         case rel => exact ⟨j + 1, by omega, by go_num, BN, HHT⟩
         case measure => simp [intOf]; omega
      ·have hjn' : j = n := by omega
       subst hjn'
       obtain rfl : z = 0 := by rw [HZE.out, if_pos (all_take_true (by rw [HN.out]; exact HAL.out))]
       go_wp2_with fail
       go_ret
       exact ⟨rfl, HB.out⟩
end
end Go.Proofs.YtdlnnkbigeiilaaGreat
namespace Go.Proofs.YtdlnnkbigeiilaaGreat
open Go.RowKit
def rhold2 (G : GP) (x : ByteArray) (b m : ByteArray) : Bool := decide (textS (lowN G (numOf b ^ numOf x)) G.size = m)
def rhold1 (G : GP) (k : ClaimA) (x : ByteArray) : Bool := (List.zipWith (rhold2 G x) k.bases k.images).all id
def rholdP (G : GP) (l : List ClaimA) (xs : List ByteArray) : Bool := (List.zipWith (rhold1 G) l xs).all id
structure RSh (G : GP) (l : List ClaimA) (xs : List ByteArray) : Prop where
 n64 : l.length ≤ 64
 len : ∀ c ∈ l, c.bases.length ≤ 8 ∧ c.images.length = c.bases.length
 bs : ∀ c ∈ l, ∀ s ∈ c.bases, s.size ≤ 32
 ims : ∀ c ∈ l, ∀ s ∈ c.images, s.size ≤ 32
 xl : xs.length = l.length
 xs : ∀ s ∈ xs, s.size ≤ 32
section
variable {G : GP} {aq ap : Option Addr} {cq cp : Nat}
theorem rHold (ok : G.Ok) (l : List ClaimA) (xs : List ByteArray) (sh : RSh G l xs) (n : Nat) (hn : l.length = n) (b : Bool) (hb : rholdP G l xs = b) (al ax : Option Addr) (cl cx : Nat) (w : World) (hG : RG w G aq ap) (hC : ClaimsAt w al l) (hX : Sl w w.heap.size ax (xs.map Value.string)) :
  Calls Tryz.prog 71 #[.agg #[.int .i64 (G.size : Int), .slice aq (dl G.q.m) cq, .slice ap (dl G.p.m) cp], .slice al n cl, .slice ax n cx] w (Gives (.bool b) w) := by
 have OK := Lib.hid ok
 have HG := Lib.hid hG
 have HC := Lib.hid hC
 have HX := Lib.hid hX
 have HN := Lib.hid hn
 have HBB := Lib.hid hb
 have HSH := Lib.hid sh
 have HXN := Lib.hid (show xs.length = n by rw [sh.xl, hn])
 have hn64 : n ≤ 64 := by rw [← hn]; exact sh.n64
 clear ok hG hC hX hn hb sh
 unfold Gives
 go_enter Tryz.func71, Tryz.ntmps71
 go_wp2_with fail
 obtain ⟨w1, hq1, hb9, hz9, Hbg⟩ := new1 w 86 [.int .i64 (G.size : Int), .slice aq (dl G.q.m) cq, .slice ap (dl G.p.m) cp]
 rw [hq1]
 clear hq1
 have HB := Lib.hid hb9
 have HZS := hz9
 clear hb9 hz9
 have bg_ := Hbg.out.c3
 have BL := Lib.hid (Below.refl w1.heap.size w1)
 go_wp2_with fail
 go_loopw [12] (fun i wr => ∃ j : Nat, j ≤ n ∧ i = .int .i64 j ∧ Hid (Below w1.heap.size w1 wr) ∧ Hid (((List.zipWith (rhold1 G) l xs).take j).all id = true)) (fun i _ => n - (intOf i).toNat)
 case atStart => exact ⟨0, Nat.zero_le _, rfl, BL, rfl⟩
 case round =>
  obtain ⟨j, hj, rfl, HL9, HAL⟩ := hrel
  have hb9 := HL9.out
  clear HL9 bg_
  replace Hbg := Lib.hid (Hbg.out.up hb9)
  replace BL := hbu BL hb9
  replace HB := hbu HB hb9
  replace HZS := sz HZS hb9.size
  clear hb9
  have bg_ := Hbg.out.c3
  by_cases hjn : j < n
  ·have hjl : j < l.length := by rw [HN.out]; exact hjn
   have hjx : j < xs.length := by rw [HXN.out]; exact hjn
   obtain ⟨bl, ol, rfl, hbl0, hc⟩ := (HC.out.s.up HB.out).elem ClaimA.cells_len (by omega) j hjl
   have hc_0 := hc 0 _ rfl
   rw [Nat.add_zero] at hc_0
   have hc_1 := hc 1 _ rfl
   clear hc
   obtain ⟨bx, ox, rfl, hbx, hcx⟩ := (HX.out.up HB.out).at j (by simpa using hjx)
   rw [List.getElem_map] at hcx
   have HAT := Lib.hid ((HC.out.up HB.out).one j hjl)
   have HSJ := Lib.hid (HSH.out.len _ (List.getElem_mem hjl))
   have HBJ := Lib.hid (HSH.out.bs _ (List.getElem_mem hjl))
   have HXJ := Lib.hid (HSH.out.xs _ (List.getElem_mem hjx))
   have HSN := Lib.hid (zalls_snoc (f := rhold1 G) hjl hjx HAL.out)
   have HNO := Lib.hid (zalls_not (f := rhold1 G) hjl hjx)
   generalize l[j] = c at *
   generalize xs[j] = x at *
   have HAB := Lib.hid HAT.out.b
   have HAJ := Lib.hid HAT.out.i
   have HSN2 := Lib.hid (show (List.zipWith (rhold2 G x) c.bases c.images).all id = true → _ from HSN.out)
   have HNO2 := Lib.hid (show (List.zipWith (rhold2 G x) c.bases c.images).all id = false → _ from HNO.out)
   clear HAT HSN HNO
   generalize c.bases = bs at *
   generalize c.images = ims at *
   generalize c.ab = ab at *
   generalize c.ai = ai at *
   generalize c.cb = cb at *
   generalize c.ci = ci at *
   have hm8 := HSJ.out.1
   have HCX := Lib.hid hcx
   clear hcx
   have BR := Lib.hid (Below.refl wr.heap.size wr)
   have o2_bg_ := bg_; clear bg_
   obtain ⟨w2, hq2, hb9, hz9, Hbc⟩ := new1 wr 50 [.slice ab bs.length cb, .slice ai ims.length ci]
   replace Hbg := Lib.hid (Hbg.out.up hb9)
   replace BL := hbu BL hb9
   replace BR := hbu BR hb9
   replace HB := hbu HB hb9
   replace HZS := sz HZS hz9.out
   clear hb9 hz9
   have bg_ := Hbg.out.c3
   have bc_ := Hbc.out.c2
   obtain ⟨wo, rfl⟩ : ∃ wo : World, wo = wr := ⟨_, rfl⟩
   have BI := Lib.hid (Below.refl w2.heap.size w2)
   go_wp2_with fail
   clear hq2 o2_bg_
   go_loopw [9] (fun i wr => ∃ t : Nat, t ≤ bs.length ∧ i = .int .i64 t ∧ Hid (Below w2.heap.size w2 wr) ∧ Hid (((List.zipWith (rhold2 G x) bs ims).take t).all id = true)) (fun i _ => bs.length - (intOf i).toNat)
   case atStart => exact ⟨0, Nat.zero_le _, rfl, BI, rfl⟩
   case round =>
    obtain ⟨t, ht, rfl, HL9, HAI⟩ := hrel
    have hb9 := HL9.out
    clear HL9 bg_
    replace Hbg := Lib.hid (Hbg.out.up hb9)
    clear bc_
    replace Hbc := Lib.hid (Hbc.out.up hb9)
    replace BL := hbu BL hb9
    replace BR := hbu BR hb9
    replace BI := hbu BI hb9
    replace HB := hbu HB hb9
    replace HZS := sz HZS hb9.size
    clear hb9
    have bg_ := Hbg.out.c3
    have bc_ := Hbc.out.c2
    by_cases htm : t < bs.length
    ·have hti : t < ims.length := by rw [HSJ.out.2]; exact htm
     obtain ⟨b1, o1, rfl, hb1, hc1⟩ := (HAB.out.up BR.out).at t (by simpa using htm)
     obtain ⟨b2, o2, rfl, hb2, hc2⟩ := (HAJ.out.up BR.out).at t (by simpa using hti)
     rw [List.getElem_map] at hc1 hc2
     have HTN := Lib.hid (zalls_snoc (f := rhold2 G x) htm hti HAI.out)
     have HTO := Lib.hid (zalls_not (f := rhold2 G x) htm hti)
     have HBT := Lib.hid (HBJ.out _ (List.getElem_mem htm))
     have hcx := (BR.out.cell (p := ⟨bx, ox + j, none⟩) hbx).trans HCX.out
     have hbx' := Nat.lt_of_lt_of_le hbx BR.out.size
     generalize bs[t] = y at *
     generalize ims[t] = m at *
     obtain ⟨q, hq⟩ : ∃ q, rhold2 G x y m = q := ⟨_, rfl⟩
     have hqe : ((textS (lowN G (numOf y ^ numOf x)) G.size).toList == m.toList) = q := by
      rw [← hq]
      unfold rhold2
      by_cases h : textS (lowN G (numOf y ^ numOf x)) G.size = m
      ·rw [decide_eq_true h, h]; simp
      ·rw [decide_eq_false h, toList_bne h]
     have HQ := Lib.hid hq
     clear hq
     go_wp2_with fail
     have HT := Lib.hid (show Below wr.heap.size wr wr.drew from (Below.refl _ _).drew)
     have hl_bg := Hbg.out.lt
     have hl_bc := Hbc.out.lt
     refine wp_region_tree (fun wq9 => ∃ E : Over wr, wq9 = E.w) ((.qs [0, 1, 2, 3, 4, 5, 6, 7, 8, 9, 12, 13, 15, 16, 17, 18, 19] (.a 10 (.a 11 (.a 14 (.qs [20] .done)))))) (by kernel_rfl) (by kernel_rfl) (fun _ _ d _ _ h => by cases d <;> exact h) ⟨⟨_, HT.out⟩, rfl⟩ ?_
     have hov_bg := fun (E : Over wr) o => E.cell (b := w.heap.size) o hl_bg
     have hov_bc := fun (E : Over wr) o => E.cell (b := wo.heap.size) o hl_bc
     have hov_b1 := fun (E : Over wr) o => E.cell (b := b1) o hb1
     have hov_b2 := fun (E : Over wr) o => E.cell (b := b2) o hb2
     have hov_bx := fun (E : Over wr) o => E.cell (b := bx) o hbx'
     simp only [Tree.qs]
     repeat (refine tree_q rfl rfl ?_; go_big_quiet_step (fail); refine wpQuiet_nil ?_)
     refine tree_a rfl (fun K hK => ?_)
     go_simp
     refine (refRead_any x (Nat.le_trans HXJ.out (by decide)) _).mono ?_
     rintro e w3 ⟨a5, c5, rfl, hn9, hb9⟩
     replace HT := Lib.hid (below_up HT.out hb9)
     replace HZS := sz HZS (show wr.heap.size ≤ w3.heap.size from HT.out.size)
     clear hb9
     have HN5 := Lib.hid hn9
     clear hn9
     refine hK _ _ ⟨⟨⟨w3, HT.out⟩, rfl⟩, ?_⟩
     clear hK K
     repeat (refine tree_q rfl rfl ?_; go_big_quiet_step (fail); refine wpQuiet_nil ?_)
     refine tree_a rfl (fun K hK => ?_)
     go_simp
     refine (rPower5 OK.out y HBT.out (Nat.le_trans (dl_of_lt _ 16 (numOf_16 x HXJ.out)) (by decide)) _ (HG.out.up (below_up HB.out HT.out)) HN5.out).mono ?_
     rintro e w4 ⟨a6, c6, rfl, hn9, hb9⟩
     replace HN5 := Lib.hid (HN5.out.up hb9)
     replace HT := Lib.hid (below_up HT.out hb9)
     replace HZS := sz HZS (show wr.heap.size ≤ w4.heap.size from HT.out.size)
     clear hb9
     have HN6 := Lib.hid hn9
     clear hn9
     refine hK _ _ ⟨⟨⟨w4, HT.out⟩, rfl⟩, ?_⟩
     clear hK K
     repeat (refine tree_q rfl rfl ?_; go_big_quiet_step (fail); refine wpQuiet_nil ?_)
     refine tree_a rfl (fun K hK => ?_)
     go_simp
     refine (rText2 OK.out _ HN6.out).mono ?_
     rintro e w5 ⟨rfl, hb9⟩
     replace HN5 := Lib.hid (HN5.out.up hb9)
     replace HN6 := Lib.hid (HN6.out.up hb9)
     replace HT := Lib.hid (below_up HT.out hb9)
     replace HZS := sz HZS (show wr.heap.size ≤ w5.heap.size from HT.out.size)
     clear hb9
     refine hK _ _ ⟨⟨⟨w5, HT.out⟩, rfl⟩, ?_⟩
     clear hK K
     repeat (refine tree_q rfl rfl ?_; go_big_quiet_step (fail); refine wpQuiet_nil ?_)
     refine tree_end ?_
     clear hov_bg hl_bg hov_bc hl_bc hov_b1 hov_b2 hov_bx bg_
     replace Hbg := Lib.hid (Hbg.out.up HT.out)
     clear bc_
     replace Hbc := Lib.hid (Hbc.out.up HT.out)
     replace BL := hbu BL HT.out
     replace BR := hbu BR HT.out
     replace BI := hbu BI HT.out
     replace HB := hbu HB HT.out
     replace HZS := sz HZS HT.out.size
     clear HT
     have bg_ := Hbg.out.c3
     have bc_ := Hbc.out.c2
     cases q
     ·obtain rfl : b = false := by rw [← HBB.out]; exact HNO2.out (HTO.out HQ.out)
      go_wp2_with fail
      go_ret
      exact ⟨rfl, HB.out⟩
     ·go_wp2_with fail
      go_roundw
      case rel => exact ⟨t + 1, by omega, by go_num, BI, HTN.out HQ.out⟩
      case measure => simp [intOf]; omega
    ·have htm' : t = bs.length := by omega
     have HHT := Lib.hid (HSN2.out (zalls_end htm'.symm HAI.out))
     go_wp2_with fail
     go_roundw
     case rel => exact ⟨j + 1, by omega, by go_num, BL, HHT⟩
     case measure => simp [intOf]; omega
  ·have hjn' : j = n := by omega
   subst hjn'
   obtain rfl : b = true := by rw [← HBB.out]; exact zalls_end HN.out HAL.out
   go_wp2_with fail
   go_ret
   exact ⟨rfl, HB.out⟩
end
end Go.Proofs.YtdlnnkbigeiilaaGreat
namespace Go.Proofs.YtdlnnkbigeiilaaGreat
open Go.RowKit
def RowsOff (v : Value) (N : Nat) (w : World) (ro : List RowA) : Prop := ∀ r ∈ ro, RowA.At w r ∧ (∀ x, r.a = some x → N ≤ x.block ∧ x.block < w.heap.size ∧ v.ownBlock ≠ some x.block) ∧ r.Ok
theorem RowsOff.up {v : Value} {N : Nat} {w w1 : World} {ro : List RowA} (h : RowsOff v N w ro) (hb : Below w.heap.size w w1) : RowsOff v N w1 ro := fun r hr =>
 let ⟨h1, h2, h3⟩ := h r hr
 ⟨RowA.At.up h1 hb, fun x hx => ⟨(h2 x hx).1, Nat.lt_of_lt_of_le (h2 x hx).2.1 hb.size, (h2 x hx).2.2⟩, h3⟩
theorem RowsOff.push {v : Value} {N g n c : Nat} {w w1 : World} {ro : List RowA} {r : RowA} (h : RowsOff v N w ro) (hr : RowsOff v N w [r]) (hk : Kept (fun q => Value.ownBlock v = some q) w w1) (hf : Value.ownBlock v = some g ∨ w.heap.size ≤ g) : RowsOff (.slice (some ⟨g, 0, none⟩) n c) N w1 (ro ++ [r]) := fun s hs => by
 obtain ⟨h1, h2, h3⟩ : RowA.At w s ∧ (∀ x, s.a = some x → N ≤ x.block ∧ x.block < w.heap.size ∧ v.ownBlock ≠ some x.block) ∧ s.Ok := by
  rcases List.mem_append.1 hs with h9 | h9
  ·exact h s h9
  ·exact hr s h9
 refine ⟨Sl.kept h1 hk (fun x hx e => (h2 x hx).2.2 e), fun x hx => ⟨(h2 x hx).1, Nat.lt_of_lt_of_le (h2 x hx).2.1 hk.size, ?_⟩, h3⟩
 intro e
 have e9 : g = x.block := Option.some.inj e
 rcases hf with hf | hf
 ·exact (h2 x hx).2.2 (by rw [hf, e9])
 ·have := (h2 x hx).2.1
  omega
theorem RowsOff.one {v : Value} {N M t c k : Nat} {w : World} {g : Option Addr} {L : List ByteArray} (h : RowO M w 9 1 (.slice g t c) t (L.map Value.string)) (hN : N ≤ M) (hv : ∀ q, v.ownBlock = some q → q < M) (_hk : L.length = k) : RowsOff v N w [⟨g, c, L⟩] := fun s hs => by
 obtain rfl := List.mem_singleton.1 hs
 refine ⟨h.sl, fun x hx => ?_, RowO.rowOk h⟩
 have hx : g = some x := hx
 obtain ⟨b, e⟩ : ∃ b, g = some ⟨b, 0, none⟩ := by
  rcases h.2 with ⟨hv, _⟩ | ⟨g0, cap, cur, hv, _⟩
  ·simp only [Value.slice.injEq] at hv
   rw [hv.1] at hx
   cases hx
  ·simp only [Value.slice.injEq] at hv
   exact ⟨g0, hv.1⟩
 subst e
 cases hx
 have h9 := h.lt b rfl
 refine ⟨Nat.le_trans hN h9.1, h9.2, fun e => ?_⟩
 have := hv _ e
 have h8 : M ≤ b := h9.1
 have : b < M := this
 omega
def rvalB (G : GP) (y : Nat) (l : List ClaimA) (xs : List ByteArray) (i t : Nat) : Nat := lowN G (numOf ((l.getD i claim0).bases.getD t ⟨#[]⟩) ^ numOf (xs.getD i ⟨#[]⟩)) * lowN G (numOf ((l.getD i claim0).images.getD t ⟨#[]⟩) ^ y)
theorem rvalB_eq (G : GP) (y : Nat) {l : List ClaimA} {xs : List ByteArray} {i t : Nat} (hi : i < l.length) (hx : i < xs.length) (ht : t < l[i].bases.length) (hti : t < l[i].images.length) : rvalB G y l xs i t = lowN G (numOf l[i].bases[t] ^ numOf xs[i]) * lowN G (numOf l[i].images[t] ^ y) := by
 unfold rvalB
 simp [List.getD, hi, hx, ht, hti]
section
variable {G : GP} {aq ap : Option Addr} {cq cp : Nat}
theorem rOf0 (w : World) : Calls Tryz.prog 57 #[.int .i64 0] w fun e w' => NumR w e w' 0 := refOf_any 0 (by decide) w
theorem rBackOf (ok : G.Ok) (ch : ByteArray) (y : Nat) (hy : subQ G 0 (numOf ch) = y) (hcs : ch.size ≤ 32) (hcq : numOf ch ≤ G.q.m) (l : List ClaimA) (xs : List ByteArray) (sh : RSh G l xs) (n : Nat) (hn : l.length = n) (al ax : Option Addr) (cl cx : Nat) (w : World) (hG : RG w G aq ap) (hC : ClaimsAt w al l) (hX : Sl w w.heap.size ax (xs.map Value.string)) :
  Calls Tryz.prog 62 #[.agg #[.int .i64 (G.size : Int), .slice aq (dl G.q.m) cq, .slice ap (dl G.p.m) cp], .slice al n cl, .string ch, .slice ax n cx] w (RowsR (eachA G (rvalB G y l xs) (lens l) n) w) := by
 have OK := Lib.hid ok
 have HG := Lib.hid hG
 have HC := Lib.hid hC
 have HX := Lib.hid hX
 have HN := Lib.hid hn
 have HSH := Lib.hid sh
 have HCS := Lib.hid hcs
 have HCQ := Lib.hid hcq
 have HYE := Lib.hid hy
 have HXN := Lib.hid (show xs.length = n by rw [sh.xl, hn])
 have hn64 : n ≤ 64 := by rw [← hn]; exact sh.n64
 have HLG := Lib.hid (show ∀ i (hi : i < l.length), (lens l).getD i 0 = l[i].bases.length from fun i hi => by unfold lens; simp [List.getD, hi])
 clear ok hG hC hX hn sh hcs hcq hy
 go_enter Tryz.func62, Tryz.ntmps62
 go_wp2_with fail
 obtain ⟨w1, hq1, hb9, hz9, Hbg⟩ := new1 w 86 [.int .i64 (G.size : Int), .slice aq (dl G.q.m) cq, .slice ap (dl G.p.m) cp]
 rw [hq1]
 clear hq1
 have HB := Lib.hid hb9
 have HZS := hz9
 clear hb9 hz9
 have bg_ := Hbg.out.c3
 go_wp2_with fail
 have HT := Lib.hid (show Below w1.heap.size w1 w1.drew from (Below.refl _ _).drew)
 have hl_bg := Hbg.out.lt
 refine wp_region_tree (fun wq9 => ∃ E : Over w1, wq9 = E.w) ((.qs [0, 2] (.a 1 (.a 3 (.a 4 (.qs [5] .done)))))) (by kernel_rfl) (by kernel_rfl) (fun _ _ d _ _ h => by cases d <;> exact h) ⟨⟨_, HT.out⟩, rfl⟩ ?_
 have hov_bg := fun (E : Over w1) o => E.cell (b := w.heap.size) o hl_bg
 simp only [Tree.qs]
 repeat (refine tree_q rfl rfl ?_; go_big_quiet_step (fail); refine wpQuiet_nil ?_)
 refine tree_a rfl (fun K hK => ?_)
 go_simp
 refine (rOf0 _).mono ?_
 rintro e w2 ⟨a1, c1, rfl, hn9, hb9⟩
 replace HT := Lib.hid (below_up HT.out hb9)
 replace HZS := sz HZS (show w1.heap.size ≤ w2.heap.size from HT.out.size)
 clear hb9
 have HN1 := Lib.hid hn9
 clear hn9
 refine hK _ _ ⟨⟨⟨w2, HT.out⟩, rfl⟩, ?_⟩
 clear hK K
 repeat (refine tree_q rfl rfl ?_; go_big_quiet_step (fail); refine wpQuiet_nil ?_)
 refine tree_a rfl (fun K hK => ?_)
 go_simp
 refine (refRead_any ch (Nat.le_trans HCS.out (by decide)) _).mono ?_
 rintro e w3 ⟨a2, c2, rfl, hn9, hb9⟩
 replace HN1 := Lib.hid (HN1.out.up hb9)
 replace HT := Lib.hid (below_up HT.out hb9)
 replace HZS := sz HZS (show w1.heap.size ≤ w3.heap.size from HT.out.size)
 clear hb9
 have HN2 := Lib.hid hn9
 clear hn9
 refine hK _ _ ⟨⟨⟨w3, HT.out⟩, rfl⟩, ?_⟩
 clear hK K
 repeat (refine tree_q rfl rfl ?_; go_big_quiet_step (fail); refine wpQuiet_nil ?_)
 refine tree_a rfl (fun K hK => ?_)
 go_simp
 refine (rSubQ OK.out (show 0 < DD ^ 16 by decide) HCQ.out _ (HG.out.up (below_up HB.out HT.out)) HN1.out HN2.out).mono ?_
 rintro e w4 ⟨a3, c3, rfl, hn9, hb9⟩
 replace HN1 := Lib.hid (HN1.out.up hb9)
 replace HN2 := Lib.hid (HN2.out.up hb9)
 replace HT := Lib.hid (below_up HT.out hb9)
 replace HZS := sz HZS (show w1.heap.size ≤ w4.heap.size from HT.out.size)
 clear hb9
 have HN3 := Lib.hid hn9
 clear hn9
 refine hK _ _ ⟨⟨⟨w4, HT.out⟩, rfl⟩, ?_⟩
 clear hK K
 repeat (refine tree_q rfl rfl ?_; go_big_quiet_step (fail); refine wpQuiet_nil ?_)
 refine tree_end ?_
 clear hov_bg hl_bg bg_
 replace Hbg := Lib.hid (Hbg.out.up HT.out)
 replace HB := hbu HB HT.out
 replace HZS := sz HZS HT.out.size
 clear HT
 have bg_ := Hbg.out.c3
 have BL := Lib.hid (Below.refl w4.heap.size w4)
 have HY := HN3
 clear HN3
 have HYD := Lib.hid (Nat.le_trans (dl_of_lt _ 16 (q_16 OK.out (subQ_lt OK.out 0 (numOf ch)))) (by decide) : dl (subQ G 0 (numOf ch)) ≤ 65536)
 rw [HYE.out] at HY HYD ⊢
 clear HYE
 go_wp2_with fail
 go_loopw [22, 10] (fun i v wr => ∃ (j : Nat) (g : Option Addr) (c9 : Nat) (ro : List RowA), j ≤ n ∧ i = .int .i64 j ∧ v = .slice g j c9 ∧ Hid (ro.map RowA.l = eachA G (rvalB G y l xs) (lens l) j) ∧ Hid (Below w4.heap.size w4 wr) ∧ Hid (RowO w4.heap.size wr 23 1 (.slice g j c9) j (ro.flatMap RowA.cells)) ∧ Hid (RowsOff (.slice g j c9) w4.heap.size wr ro)) (fun i _ _ => n - (intOf i).toNat)
 case atStart => exact ⟨0, none, 0, [], Nat.zero_le _, rfl, rfl, rfl, BL, RowO.nil, fun _ h => by cases h⟩
 case round =>
  obtain ⟨j, g, c9, ro, hj, rfl, rfl, HRM, HL9, Hr, HRN⟩ := hrel
  have hb9 := HL9.out
  clear HL9 bg_
  replace Hbg := Lib.hid (Hbg.out.up hb9)
  replace HN1 := Lib.hid (HN1.out.up hb9)
  replace HN2 := Lib.hid (HN2.out.up hb9)
  replace BL := hbu BL hb9
  replace HB := hbu HB hb9
  replace HZS := sz HZS hb9.size
  clear hb9
  have bg_ := Hbg.out.c3
  by_cases hjn : j < n
  ·have hjl : j < l.length := by rw [HN.out]; exact hjn
   have hjx : j < xs.length := by rw [HXN.out]; exact hjn
   obtain ⟨bl, ol, rfl, hbl0, hc⟩ := (HC.out.s.up HB.out).elem ClaimA.cells_len (by omega) j hjl
   have hc_0 := hc 0 _ rfl
   rw [Nat.add_zero] at hc_0
   have hc_1 := hc 1 _ rfl
   clear hc
   obtain ⟨bx, ox, rfl, hbx, hcx⟩ := (HX.out.up HB.out).at j (by simpa using hjx)
   rw [List.getElem_map] at hcx
   have HAT := Lib.hid ((HC.out.up HB.out).one j hjl)
   have HSJ := Lib.hid (HSH.out.len _ (List.getElem_mem hjl))
   have HBJ := Lib.hid (HSH.out.bs _ (List.getElem_mem hjl))
   have HIJ := Lib.hid (HSH.out.ims _ (List.getElem_mem hjl))
   have HXJ := Lib.hid (HSH.out.xs _ (List.getElem_mem hjx))
   have HMM := Lib.hid (HLG.out j hjl)
   have HVE := Lib.hid (fun t (ht : t < l[j].bases.length) (hti : t < l[j].images.length) => rvalB_eq G y hjl hjx ht hti)
   generalize l[j] = c at *
   generalize xs[j] = x at *
   have HAB := Lib.hid HAT.out.b
   have HAJ := Lib.hid HAT.out.i
   clear HAT
   generalize c.bases = bs at *
   generalize c.images = ims at *
   generalize c.ab = ab at *
   generalize c.ai = ai at *
   generalize c.cb = cb at *
   generalize c.ci = ci at *
   have hm8 := HSJ.out.1
   have HCX := Lib.hid hcx
   clear hcx
   have BR := Lib.hid (Below.refl wr.heap.size wr)
   have o5_bg_ := bg_; clear bg_
   obtain ⟨w5, hq5, hb9, hz9, Hbc⟩ := new1 wr 50 [.slice ab bs.length cb, .slice ai ims.length ci]
   replace Hbg := Lib.hid (Hbg.out.up hb9)
   replace Hr := Lib.hid (Hr.out.up hb9)
   replace HN1 := Lib.hid (HN1.out.up hb9)
   replace HN2 := Lib.hid (HN2.out.up hb9)
   replace BL := hbu BL hb9
   replace BR := hbu BR hb9
   replace HB := hbu HB hb9
   replace HZS := sz HZS hz9.out
   clear hb9 hz9
   have bg_ := Hbg.out.c3
   have bc_ := Hbc.out.c2
   have hro := Hr.out.lt
   obtain ⟨wo, rfl⟩ : ∃ wo : World, wo = wr := ⟨_, rfl⟩
   have BI := Lib.hid (Below.refl w5.heap.size w5)
   go_wp2_with fail
   clear hq5 o5_bg_
   go_loopw [14, 13] (fun i v wr => ∃ (t : Nat) (g9 : Option Addr) (cz : Nat), t ≤ bs.length ∧ i = .int .i64 t ∧ v = .slice g9 t cz ∧ Hid (Below w5.heap.size w5 wr) ∧ Hid (RowO w5.heap.size wr 9 1 (.slice g9 t cz) t ((eachL G (rvalB G y l xs) j t).map Value.string))) (fun i _ _ => bs.length - (intOf i).toNat)
   case atStart => exact ⟨0, none, 0, Nat.zero_le _, rfl, rfl, BI, RowO.nil⟩
   case round =>
    obtain ⟨t, g9, cz, ht, rfl, rfl, HL9, Hq⟩ := hrel
    have hb9 := HL9.out
    clear HL9 bg_
    replace Hbg := Lib.hid (Hbg.out.up hb9)
    clear bc_
    replace Hbc := Lib.hid (Hbc.out.up hb9)
    replace Hr := Lib.hid (Hr.out.up hb9)
    replace HN1 := Lib.hid (HN1.out.up hb9)
    replace HN2 := Lib.hid (HN2.out.up hb9)
    replace BL := hbu BL hb9
    replace BR := hbu BR hb9
    replace BI := hbu BI hb9
    replace HB := hbu HB hb9
    replace HZS := sz HZS hb9.size
    clear hb9
    have bg_ := Hbg.out.c3
    have bc_ := Hbc.out.c2
    by_cases htm : t < bs.length
    ·have hti : t < ims.length := by rw [HSJ.out.2]; exact htm
     obtain ⟨b1, o1, rfl, hb10, hb1, hc1⟩ := HAB.out.atUp BR.out t (by simpa using htm)
     obtain ⟨b2, o2, rfl, hb20, hb2, hc2⟩ := HAJ.out.atUp BR.out t (by simpa using hti)
     have HB10 := Lib.hid hb10
     have HB20 := Lib.hid hb20
     have HBX0 := Lib.hid hbx
     replace HZS := sz HZS HB10.out
     replace HZS := sz HZS HB20.out
     replace HZS := sz HZS HBX0.out
     clear hb10 hb20
     rw [List.getElem_map] at hc1 hc2
     have HBT := Lib.hid (HBJ.out _ (List.getElem_mem htm))
     have HIT := Lib.hid (HIJ.out _ (List.getElem_mem hti))
     have HVT := Lib.hid (HVE.out t htm hti)
     have hcx := (BR.out.cell (p := ⟨bx, ox + j, none⟩) hbx).trans HCX.out
     have hbx' := Nat.lt_of_lt_of_le hbx BR.out.size
     generalize bs[t] = z at *
     generalize ims[t] = m at *
     clear hc_0 hc_1
     go_wp2_with fail
     have HT := Lib.hid (show Below wr.heap.size wr wr.drew from (Below.refl _ _).drew)
     have hl_bg := Hbg.out.lt
     have hl_bc := Hbc.out.lt
     refine wp_region_tree (fun wq9 => ∃ E : But wr (Value.ownBlock (.slice g9 t cz)), wq9 = E.w) ((.qs [0, 1, 2, 3, 4, 5, 6, 7, 8, 9, 10, 11, 14, 15, 16, 17, 18, 19, 20, 23, 24] (.a 12 (.a 13 (.a 21 (.a 22 (.a 25 (.a 26 (.a 27 (.qs [28] .done)))))))))) (by kernel_rfl) (by kernel_rfl) (fun _ _ d _ _ h => by cases d <;> exact h) ⟨⟨_, ((below_grown HT.out).but _)⟩, rfl⟩ ?_
     have hov_bg := fun (E : But wr (Value.ownBlock (.slice g9 t cz))) o => E.cell (b := w.heap.size) o hl_bg (by intro e9; have a1 := Hq.out.lt _ e9; have g0 := HZS.out; omega)
     have hov_bc := fun (E : But wr (Value.ownBlock (.slice g9 t cz))) o => E.cell (b := wo.heap.size) o hl_bc (by intro e9; have a1 := Hq.out.lt _ e9; have g0 := HZS.out; omega)
     have hov_b1 := fun (E : But wr (Value.ownBlock (.slice g9 t cz))) o => E.cell (b := b1) o hb1 (by intro e9; have a1 := Hq.out.lt _ e9; have g0 := HZS.out; omega)
     have hov_b2 := fun (E : But wr (Value.ownBlock (.slice g9 t cz))) o => E.cell (b := b2) o hb2 (by intro e9; have a1 := Hq.out.lt _ e9; have g0 := HZS.out; omega)
     have hov_bx := fun (E : But wr (Value.ownBlock (.slice g9 t cz))) o => E.cell (b := bx) o hbx' (by intro e9; have a1 := Hq.out.lt _ e9; have g0 := HZS.out; omega)
     simp only [Tree.qs]
     repeat (refine tree_q rfl rfl ?_; go_big_quiet_step (fail); refine wpQuiet_nil ?_)
     refine tree_a rfl (fun K hK => ?_)
     go_simp
     refine (refRead_any x (Nat.le_trans HXJ.out (by decide)) _).mono ?_
     rintro e w6 ⟨a5, c5, rfl, hn9, hb9⟩
     replace HT := Lib.hid (below_up HT.out hb9)
     replace HZS := sz HZS (show wr.heap.size ≤ w6.heap.size from HT.out.size)
     clear hb9
     have HN5 := Lib.hid hn9
     clear hn9
     refine hK _ _ ⟨⟨⟨w6, ((below_grown HT.out).but _)⟩, rfl⟩, ?_⟩
     clear hK K
     repeat (refine tree_q rfl rfl ?_; go_big_quiet_step (fail); refine wpQuiet_nil ?_)
     refine tree_a rfl (fun K hK => ?_)
     go_simp
     refine (rPower5 OK.out z HBT.out (Nat.le_trans (dl_of_lt _ 16 (numOf_16 x HXJ.out)) (by decide)) _ (HG.out.up (below_up HB.out HT.out)) HN5.out).mono ?_
     rintro e w7 ⟨a6, c6, rfl, hn9, hb9⟩
     replace HN5 := Lib.hid (HN5.out.up hb9)
     replace HT := Lib.hid (below_up HT.out hb9)
     replace HZS := sz HZS (show wr.heap.size ≤ w7.heap.size from HT.out.size)
     clear hb9
     have HN6 := Lib.hid hn9
     clear hn9
     refine hK _ _ ⟨⟨⟨w7, ((below_grown HT.out).but _)⟩, rfl⟩, ?_⟩
     clear hK K
     repeat (refine tree_q rfl rfl ?_; go_big_quiet_step (fail); refine wpQuiet_nil ?_)
     refine tree_a rfl (fun K hK => ?_)
     go_simp
     refine (rPower5 OK.out m HIT.out HYD.out _ (HG.out.up (below_up HB.out HT.out)) (HY.out.up (below_up BL.out HT.out))).mono ?_
     rintro e w8 ⟨a7, c7, rfl, hn9, hb9⟩
     replace HN5 := Lib.hid (HN5.out.up hb9)
     replace HN6 := Lib.hid (HN6.out.up hb9)
     replace HT := Lib.hid (below_up HT.out hb9)
     replace HZS := sz HZS (show wr.heap.size ≤ w8.heap.size from HT.out.size)
     clear hb9
     have HN7 := Lib.hid hn9
     clear hn9
     refine hK _ _ ⟨⟨⟨w8, ((below_grown HT.out).but _)⟩, rfl⟩, ?_⟩
     clear hK K
     repeat (refine tree_q rfl rfl ?_; go_big_quiet_step (fail); refine wpQuiet_nil ?_)
     refine tree_a rfl (fun K hK => ?_)
     go_simp
     refine (rProd OK.out (lowN_16 OK.out _) (lowN_16 OK.out _) _ (HG.out.up (below_up HB.out HT.out)) HN6.out HN7.out).mono ?_
     rintro e w9 ⟨a8, c8, rfl, hn9, hb9⟩
     replace HN5 := Lib.hid (HN5.out.up hb9)
     replace HN6 := Lib.hid (HN6.out.up hb9)
     replace HN7 := Lib.hid (HN7.out.up hb9)
     replace HT := Lib.hid (below_up HT.out hb9)
     replace HZS := sz HZS (show wr.heap.size ≤ w9.heap.size from HT.out.size)
     clear hb9
     have HN8 := Lib.hid hn9
     clear hn9
     refine hK _ _ ⟨⟨⟨w9, ((below_grown HT.out).but _)⟩, rfl⟩, ?_⟩
     clear hK K
     repeat (refine tree_q rfl rfl ?_; go_big_quiet_step (fail); refine wpQuiet_nil ?_)
     refine tree_a rfl (fun K hK => ?_)
     go_simp
     refine (rText2 OK.out _ HN8.out).mono ?_
     rintro e w10 ⟨rfl, hb9⟩
     replace HN5 := Lib.hid (HN5.out.up hb9)
     replace HN6 := Lib.hid (HN6.out.up hb9)
     replace HN7 := Lib.hid (HN7.out.up hb9)
     replace HN8 := Lib.hid (HN8.out.up hb9)
     replace HT := Lib.hid (below_up HT.out hb9)
     replace HZS := sz HZS (show wr.heap.size ≤ w10.heap.size from HT.out.size)
     clear hb9
     refine hK _ _ ⟨⟨⟨w10, ((below_grown HT.out).but _)⟩, rfl⟩, ?_⟩
     clear hK K
     repeat (refine tree_q rfl rfl ?_; go_big_quiet_step (fail); refine wpQuiet_nil ?_)
     clear hov_bg hl_bg hov_bc hl_bc hov_b1 hov_b2 hov_bx
     refine tree_a rfl (fun K hK => ?_)
     go_simp
     refine hK _ _ ⟨⟨⟨_, (below_grown (HT.out.alloc HT.out.size _)).but _⟩, rfl⟩, ?_⟩
     clear hK K
     obtain ⟨i9, hi9, hz90, hz91, hz92⟩ := info_parts infoStr
     have HG1 := Lib.hid ((below_grown HT.out).but (Value.ownBlock (.slice g9 t cz)))
     clear bg_
     replace Hbg := Lib.hid (Hbg.out.up HT.out)
     clear bc_
     replace Hbc := Lib.hid (Hbc.out.up HT.out)
     replace Hr := Lib.hid (Hr.out.up HT.out)
     replace Hq := Lib.hid (Hq.out.up HT.out)
     replace HN1 := Lib.hid (HN1.out.up HT.out)
     replace HN2 := Lib.hid (HN2.out.up HT.out)
     replace BL := hbu BL HT.out
     replace BR := hbu BR HT.out
     replace BI := hbu BI HT.out
     replace HB := hbu HB HT.out
     replace HZS := sz HZS HT.out.size
     refine tree_a rfl (fun K hK => ?_)
     refine step_pushR (w5.heap.size) w10 (by have g0 := HZS.out; omega) rfl _ _ 23 rfl 9 i9 _ 1 16 Tryz.underlying23 hi9 hz90 hz91 hz92 rfl (by omega) ((.slice g9 t cz)) (t) (((eachL G (rvalB G y l xs) j t).map Value.string)) rfl Hq.out _ _ _ rfl rfl rfl (by simp [Value.oneCell']) (by omega) (by unfold maxLen; omega) ?_
     intro g11 c11 w11 hown9 hg9
     have HGR := Lib.hid (HG1.out.trans hg9)
     have hb9 := Below.grown HB.out hg9 (by have g0 := HZS.out; omega) (fun q hq => Nat.le_trans (show w.heap.size ≤ w5.heap.size by have g0 := HZS.out; omega) (Hq.out.lt q hq).1)
     replace Hbg := Lib.hid (Hbg.out.grown hg9 (fun e9 => by have a1 := Hq.out.lt _ e9; have g0 := HZS.out; omega))
     replace Hbc := Lib.hid (Hbc.out.grown hg9 (fun e9 => by have a1 := Hq.out.lt _ e9; have g0 := HZS.out; omega))
     clear HN1 HN2 HN5 HN6 HN7 HN8
     replace BL := Lib.hid (Below.grown BL.out hg9 (by have g0 := HZS.out; omega) (fun q hq => Nat.le_trans (show w4.heap.size ≤ w5.heap.size by have g0 := HZS.out; omega) (Hq.out.lt q hq).1))
     replace BR := Lib.hid (Below.grown BR.out hg9 (by have g0 := HZS.out; omega) (fun q hq => Nat.le_trans (show wo.heap.size ≤ w5.heap.size by have g0 := HZS.out; omega) (Hq.out.lt q hq).1))
     replace BI := Lib.hid (Below.grown BI.out hg9 (by have g0 := HZS.out; omega) (fun q hq => Nat.le_trans (show w5.heap.size ≤ w5.heap.size by have g0 := HZS.out; omega) (Hq.out.lt q hq).1))
     replace HZS := sz HZS hg9.size
     clear Hq HB HT HG1
     have Hq := Lib.hid hown9
     have HB := Lib.hid hb9
     clear hb9 hown9 hg9 hi9 hz90 hz91 hz92
     refine hK _ _ ⟨⟨⟨w11, HGR.out⟩, rfl⟩, ?_⟩
     clear hK K HGR
     have bg_ := Hbg.out.c3
     have bc_ := Hbc.out.c2
     try simp only [Act.put, List.setIfInBounds_toArray, List.set_cons_succ, List.set_cons_zero]
     repeat (refine tree_q rfl rfl ?_; go_big_quiet_step (fail); refine wpQuiet_nil ?_)
     refine tree_end ?_
     go_wp2_with fail
     go_roundw
     case rel => exact ⟨t + 1, _, _, by omega, by go_num, rfl, BI, Hq.out.eq (by rw [eachL_snoc, HVT.out]) rfl⟩
     case measure => simp [intOf]; omega
    ·have htm' : t = bs.length := by omega
     subst htm'
     have HOFF := Lib.hid (HRN.out.up BR.out)
     have HONE := Lib.hid (RowsOff.one (v := .slice g j c9) (N := w4.heap.size) (k := bs.length) Hq.out (by have a1 := HZS.out; have a2 := HZS.out; omega) (fun q9 h9 => (hro q9 h9).2) (eachL_len G _ j _))
     go_upto_region 11 with fail
     clear bc_ Hbc
     have HKP := Lib.hid (Kept.refl (fun q9 => Value.ownBlock (.slice g j c9) = some q9) wr)
     obtain ⟨i9, hi9, hz90, hz91, hz92⟩ := info_parts infoStrs
     go_wp2_with (at_builtin; refine wpList_pushF (w4.heap.size) wr (by have g0 := HZS.out; omega) rfl _ _ 28 rfl 23 i9 _ 1 24 Tryz.underlying28 hi9 hz90 hz91 hz92 rfl (by omega) ((.slice g j c9)) (j) ((ro.flatMap RowA.cells)) rfl Hr.out _ _ _ rfl rfl rfl (by simp [Value.oneCell']) (by omega) (by unfold maxLen; omega) ?_)
     intro g6 c6 w6 hown9 hg9 hf9
     clear bg_
     have hb9 := Below.grown HB.out hg9 (by have g0 := HZS.out; omega) (fun q hq => Nat.le_trans (show w.heap.size ≤ w4.heap.size by have g0 := HZS.out; omega) (Hr.out.lt q hq).1)
     replace Hbg := Lib.hid (Hbg.out.grown hg9 (fun e9 => by have a1 := Hr.out.lt _ e9; have g0 := HZS.out; omega))
     clear HN1 HN2
     replace BL := Lib.hid (Below.grown BL.out hg9 (by have g0 := HZS.out; omega) (fun q hq => Nat.le_trans (show w4.heap.size ≤ w4.heap.size by have g0 := HZS.out; omega) (Hr.out.lt q hq).1))
     replace HKP := Lib.hid (Kept.grown HKP.out hg9 (fun q hq => Or.inr hq))
     replace HZS := sz HZS hg9.size
     clear Hr HB
     have Hr := Lib.hid hown9
     have HB := Lib.hid hb9
     clear hb9 hown9 hg9 hi9 hz90 hz91 hz92
     have bg_ := Hbg.out.c3
     have HRP := Lib.hid (fun (n9 c9 : Nat) => RowsOff.push (n := n9) (c := c9) HOFF.out HONE.out HKP.out hf9)
     go_wp2_with fail
     go_roundw
     case rel => exact ⟨j + 1, _, _, _, by omega, by go_num, rfl, Lib.hid (by rw [List.map_append, HRM.out, eachA_snoc, HMM.out]; rfl), BL, Hr.out.eq (by rw [List.flatMap_append]; simp [RowA.cells, eachL_len]) rfl, HRP.out _ _⟩
     case measure => simp [intOf]; omega
  ·have hjn' : j = n := by omega
   subst hjn'
   go_wp2_with fail
   go_ret
   exact ⟨HB.out, g, c9, ro, by rw [eachA_len]; rfl, HRM.out, ⟨Hr.out.sl, fun r hr => (HRN.out r hr).1⟩, fun r hr => (HRN.out r hr).2.2⟩
end
end Go.Proofs.YtdlnnkbigeiilaaGreat
namespace Go.Proofs.YtdlnnkbigeiilaaGreat
open Go.RowKit
theorem rsh_of {G : GP} (ok : G.Ok) {l : List ClaimA} {xs : List ByteArray} (h1 : wrongE G l = 0) (h2 : scE G l.length xs = 0) : RSh G l xs := by
 obtain ⟨hs, he⟩ := wrong_ok h1
 have hs := shape_ok hs
 have hx : xs.length = l.length ∧ xs.all (isSc G.q.m G.size) = true := by
  unfold scE at h2
  by_cases h : xs.length = l.length
  ·rw [if_pos h] at h2
   by_cases g : xs.all (isSc G.q.m G.size) = true
   ·exact ⟨h, g⟩
   ·rw [if_neg g] at h2; cases h2
  ·rw [if_neg h] at h2; cases h2
 have hc : ∀ c ∈ l, c.bases.all (isEl G.q.m G.size) = true ∧ c.images.all (isEl G.q.m G.size) = true := fun c hc => by
  have h9 : (c.bases.all (isEl G.q.m G.size) && c.images.all (isEl G.q.m G.size)) = true := List.all_eq_true.1 he c hc
  exact (Bool.and_eq_true _ _).mp h9
 exact ⟨hs.2.1, fun c h => (hs.2.2 c h).2, fun c h s g => el_len ok (List.all_eq_true.1 (hc c h).1 s g), fun c h s g => el_len ok (List.all_eq_true.1 (hc c h).2 s g), hx.1, fun s g => sc_len ok (List.all_eq_true.1 hx.2 s g)⟩
theorem sc_lens {G : GP} {l : List ClaimA} {xs : List ByteArray} (h2 : scE G l.length xs = 0) : xs.length = l.length := by
 unfold scE at h2
 by_cases h : xs.length = l.length
 ·exact h
 ·rw [if_neg h] at h2; cases h2
section
variable {G : GP} {aq ap : Option Addr} {cq cp : Nat}
theorem rWrongSc_e (ok : G.Ok) (n : Nat) (l : List ByteArray) (z : Nat) (hz : scE G n l = z) (al : Option Addr) (cl : Nat) (hlen : l.length ≤ 8796093022207) (w : World) (hG : RG w G aq ap) (hS : Sl w w.heap.size al (l.map Value.string)) :
  Calls Tryz.prog 59 #[.agg #[.int .i64 (G.size : Int), .slice aq (dl G.q.m) cq, .slice ap (dl G.p.m) cp], .int .i64 (n : Int), .slice al l.length cl] w (Gives (.int .i64 (z : Int)) w) := by
 subst hz
 exact rWrongSc ok n l al cl hlen w hG hS
theorem rWrongSc_n (ok : G.Ok) (n : Nat) (l : List ByteArray) (hn : l.length = n) (z : Nat) (hz : scE G n l = z) (al : Option Addr) (cl : Nat) (hlen : l.length ≤ 8796093022207) (w : World) (hG : RG w G aq ap) (hS : Sl w w.heap.size al (l.map Value.string)) :
  Calls Tryz.prog 59 #[.agg #[.int .i64 (G.size : Int), .slice aq (dl G.q.m) cq, .slice ap (dl G.p.m) cp], .int .i64 (n : Int), .slice al n cl] w (Gives (.int .i64 (z : Int)) w) := by
 have h := rWrongSc_e (aq := aq) (ap := ap) (cq := cq) (cp := cp) ok n l z hz al cl hlen w hG hS
 rwa [hn] at h
end
def zeroT (G : GP) : ByteArray := textS 0 G.size
theorem zeroT_size (G : GP) : (zeroT G).size = G.size := textS_size 0 G.size
theorem zeroT_num (G : GP) : numOf (zeroT G) = 0 := by unfold zeroT; rw [numOf_textS, Nat.zero_mod]
section
variable {G : GP} {aq ap : Option Addr} {cq cp : Nat}
theorem rText0 (ok : G.Ok) {an : Option Addr} {cn : Nat} (w : World) (hN : NumAt w an 0) :
  Calls Tryz.prog 49 #[.slice an (dl 0) cn, .int .i64 (G.size : Int)] w fun e w' => e = .returned (.string (zeroT G)) ∧ Below w.heap.size w w' := rText ok (by decide) w hN
theorem rFirstOf (ok : G.Ok) (y : Nat) (hy : subQ G 0 0 = y) (l : List ClaimA) (xs : List ByteArray) (sh : RSh G l xs) (n : Nat) (hn : l.length = n) (al ax : Option Addr) (cl cx : Nat) (w : World) (hG : RG w G aq ap) (hC : ClaimsAt w al l) (hX : Sl w w.heap.size ax (xs.map Value.string)) :
  Calls Tryz.prog 74 #[.agg #[.int .i64 (G.size : Int), .slice aq (dl G.q.m) cq, .slice ap (dl G.p.m) cp], .slice al n cl, .slice ax n cx] w (RowsR (eachA G (rvalB G y l xs) (lens l) n) w) := by
 have OK := Lib.hid ok
 have HG := Lib.hid hG
 have HC := Lib.hid hC
 have HX := Lib.hid hX
 have HN := Lib.hid hn
 have HSH := Lib.hid sh
 have HY := Lib.hid (show subQ G 0 (numOf (zeroT G)) = y by rw [zeroT_num, hy])
 have HZ1 := Lib.hid (show (zeroT G).size ≤ 32 by rw [zeroT_size]; exact ok.size_le)
 have HZ2 := Lib.hid (show numOf (zeroT G) ≤ G.q.m by rw [zeroT_num]; exact Nat.zero_le _)
 clear ok hG hC hX hn sh hy
 go_enter Tryz.func74, Tryz.ntmps74
 go_wp2_with fail
 obtain ⟨w1, hq1, hb9, hz9, Hbg⟩ := new1 w 86 [.int .i64 (G.size : Int), .slice aq (dl G.q.m) cq, .slice ap (dl G.p.m) cp]
 rw [hq1]
 clear hq1
 have HB := Lib.hid hb9
 have HZS := hz9
 clear hb9 hz9
 have bg_ := Hbg.out.c3
 go_wp2_with fail
 have HT := Lib.hid (show Below w1.heap.size w1 w1.drew from (Below.refl _ _).drew)
 have hl_bg := Hbg.out.lt
 refine wp_region_tree (fun wq9 => ∃ E : Over w1, wq9 = E.w) ((.qs [0, 1, 3, 4, 6] (.a 2 (.a 5 (.a 7 (.qs [8] .done)))))) (by kernel_rfl) (by kernel_rfl) (fun _ _ d _ _ h => by cases d <;> exact h) ⟨⟨_, HT.out⟩, rfl⟩ ?_
 have hov_bg := fun (E : Over w1) o => E.cell (b := w.heap.size) o hl_bg
 simp only [Tree.qs]
 repeat (refine tree_q rfl rfl ?_; go_big_quiet_step (fail); refine wpQuiet_nil ?_)
 refine tree_a rfl (fun K hK => ?_)
 go_simp
 refine (rOf0 _).mono ?_
 rintro e w2 ⟨a1, c1, rfl, hn9, hb9⟩
 replace HT := Lib.hid (below_up HT.out hb9)
 replace HZS := sz HZS (show w1.heap.size ≤ w2.heap.size from HT.out.size)
 clear hb9
 have HN1 := Lib.hid hn9
 clear hn9
 refine hK _ _ ⟨⟨⟨w2, HT.out⟩, rfl⟩, ?_⟩
 clear hK K
 repeat (refine tree_q rfl rfl ?_; go_big_quiet_step (fail); refine wpQuiet_nil ?_)
 refine tree_a rfl (fun K hK => ?_)
 go_simp
 refine (rText0 OK.out _ HN1.out).mono ?_
 rintro e w3 ⟨rfl, hb9⟩
 replace HN1 := Lib.hid (HN1.out.up hb9)
 replace HT := Lib.hid (below_up HT.out hb9)
 replace HZS := sz HZS (show w1.heap.size ≤ w3.heap.size from HT.out.size)
 clear hb9
 refine hK _ _ ⟨⟨⟨w3, HT.out⟩, rfl⟩, ?_⟩
 clear hK K
 repeat (refine tree_q rfl rfl ?_; go_big_quiet_step (fail); refine wpQuiet_nil ?_)
 refine tree_a rfl (fun K hK => ?_)
 go_simp
 refine (rBackOf OK.out (zeroT G) y HY.out HZ1.out HZ2.out l xs HSH.out n HN.out al ax cl cx _ (HG.out.up (below_up HB.out HT.out)) (HC.out.up (below_up HB.out HT.out)) (HX.out.up (below_up HB.out HT.out))).mono ?_
 rintro e w4 ⟨hb9, a9, c9, ro, rfl, hm9, hr9, hz9⟩
 replace HN1 := Lib.hid (HN1.out.up hb9)
 replace HT := Lib.hid (below_up HT.out hb9)
 replace HZS := sz HZS (show w1.heap.size ≤ w4.heap.size from HT.out.size)
 clear hb9
 have HMR := Lib.hid hm9
 clear hm9
 have HRR := Lib.hid hr9
 clear hr9
 have HZR := Lib.hid hz9
 clear hz9
 refine hK _ _ ⟨⟨⟨w4, HT.out⟩, rfl⟩, ?_⟩
 clear hK K
 repeat (refine tree_q rfl rfl ?_; go_big_quiet_step (fail); refine wpQuiet_nil ?_)
 refine tree_end ?_
 clear hov_bg hl_bg bg_
 replace Hbg := Lib.hid (Hbg.out.up HT.out)
 replace HB := hbu HB HT.out
 replace HZS := sz HZS HT.out.size
 clear HT
 have bg_ := Hbg.out.c3
 go_wp2_with fail
 go_ret
 exact ⟨HB.out, a9, c9, ro, rfl, HMR.out, HRR.out, HZR.out⟩
end
theorem rBack_none (k : Int) (hk : ¬ (1 ≤ k ∧ k ≤ 3)) (p q : Value) (ch : ByteArray) (w : World) : Calls Tryz.prog 43 #[.int .i64 k, p, .string ch, q] w (RowsE 1 [] w) := by
 go_enter Tryz.func43, Tryz.ntmps43
 go_wp2_with fail
 refine (refKind_none k hk w).mono ?_
 rintro e w1 ⟨rfl, hb9⟩
 have HB := Lib.hid hb9
 have HZS := Lib.hid hb9.size
 clear hb9
 obtain ⟨w2, hq2, hb9, hz9, Hbg⟩ := new1 w1 86 [.int .i64 0, .slice none 0 0, .slice none 0 0]
 replace HB := hbu HB hb9
 replace HZS := sz HZS hz9.out
 clear hb9 hz9
 have bg_ := Hbg.out.c3
 have f3_bg := Hbg.out.frozen
 have o3_bg_ := bg_; clear bg_
 obtain ⟨w3, hq3, hg9, hz9, hx9⟩ := put3 Hbg 0 (.int .i64 0) 1 (.slice none 0 0) 2 (.slice none 0 0) [.int .i64 0, .slice none 0 0, .slice none 0 0] rfl
 replace HB := hbg HB hg9 (by have g0 := HZS.out; omega)
 replace HZS := sz HZS hz9.out
 replace Hbg := hx9
 clear hx9 hg9 hz9
 have bg_ := Hbg.out.c3
 go_wp2_with fail
 clear hq3 o3_bg_ f3_bg hq2
 go_ret2
 exact rowsE_none _ HB.out
theorem rBack_some (k : Nat) (h1 : 1 ≤ k) (h3 : k ≤ 3) (l : List ClaimA) (n : Nat) (hn : l.length = n) (xs : List ByteArray) (hm : xs.length ≤ 8796093022207) (ch : ByteArray) (bc : Bool) (hbc : isSc (grp k).q.m (grp k).size ch = bc) (y : Nat) (hy : subQ (grp k) 0 (numOf ch) = y) (er : Int) (L : List (List ByteArray)) (hw : wrongE (grp k) l ≠ 0 → er = (wrongE (grp k) l : Int) ∧ L = []) (hsc : wrongE (grp k) l = 0 → scE (grp k) n xs ≠ 0 → er = (scE (grp k) n xs : Int) ∧ L = []) (h6 : wrongE (grp k) l = 0 → scE (grp k) n xs = 0 → bc = false → er = 6 ∧ L = []) (hf : wrongE (grp k) l = 0 → scE (grp k) n xs = 0 → bc = true → er = 0 ∧ L = eachA (grp k) (rvalB (grp k) y l xs) (lens l) n) (al ax : Option Addr) (cl cx : Nat) (w : World) (hC : ClaimsAt w al l) (hS : Sl w w.heap.size ax (xs.map Value.string)) :
  Calls Tryz.prog 43 #[.int .i64 (k : Int), .slice al n cl, .string ch, .slice ax xs.length cx] w (RowsE er L w) := by
 have OK := Lib.hid (grp_ok k h1 h3)
 have hs0 := size_n0 k h1 h3
 have HC := Lib.hid hC
 have HS := Lib.hid hS
 have HN := Lib.hid hn
 have HY := Lib.hid hy
 obtain ⟨z1, hz1⟩ : ∃ z, wrongE (grp k) l = z := ⟨_, rfl⟩
 obtain ⟨z2, hz2⟩ : ∃ z, scE (grp k) n xs = z := ⟨_, rfl⟩
 rw [hz1] at hw hsc h6 hf
 rw [hz2] at hsc h6 hf
 have HW := Lib.hid hw
 have HSC := Lib.hid hsc
 have HF := Lib.hid hf
 have H6 := Lib.hid h6
 have HBC := Lib.hid hbc
 have HZ1 := Lib.hid hz1
 have HZ2 := Lib.hid hz2
 clear hC hS hn hy hz1 hz2 hw hsc hf h6 hbc
 by_cases g1 : z1 = 0
 case neg =>
  obtain ⟨rfl, rfl⟩ := HW.out g1
  have hd : ((z1 : Int) == 0) = false := by simp; omega
  clear g1
  go_enter Tryz.func43, Tryz.ntmps43
  go_wp2_with fail
  refine (refKind_some k h1 h3 w).mono ?_
  rintro e w1 ⟨aq, cq, ap, cp, rfl, hq9, hp9, hb9⟩
  have HB := Lib.hid hb9
  have HZS := Lib.hid hb9.size
  have HRG := Lib.hid (RG.mk (G := grp k) hq9 hp9)
  clear hq9 hp9 hb9
  have HK := Lib.hid (Below.refl w1.heap.size w1)
  obtain ⟨w2, hq2, hb9, hz9, Hbg⟩ := new1 w1 86 [.int .i64 ((grp k).size : Int), .slice aq (dl (grp k).q.m) cq, .slice ap (dl (grp k).p.m) cp]
  replace HK := hbu HK hb9
  replace HB := hbu HB hb9
  replace HZS := sz HZS hz9.out
  clear hb9 hz9
  have bg_ := Hbg.out.c3
  go_wp2_with fail
  clear hq2
  refine (rWrong OK.out l n HN.out z1 HZ1.out al cl w2 (HRG.out.up HK.out) (HC.out.up HB.out)).mono ?_
  rintro e w3 ⟨rfl, hb9⟩
  clear bg_
  replace Hbg := Lib.hid (Hbg.out.up hb9)
  replace HK := hbu HK hb9
  replace HB := hbu HB hb9
  replace HZS := sz HZS hb9.size
  clear hb9
  have bg_ := Hbg.out.c3
  go_wp2_with fail
  go_ret2
  exact rowsE_none _ HB.out
 subst g1
 by_cases g2 : z2 = 0
 case neg =>
  obtain ⟨rfl, rfl⟩ := HSC.out rfl g2
  have hd : ((z2 : Int) == 0) = false := by simp; omega
  clear g2
  go_enter Tryz.func43, Tryz.ntmps43
  go_wp2_with fail
  refine (refKind_some k h1 h3 w).mono ?_
  rintro e w1 ⟨aq, cq, ap, cp, rfl, hq9, hp9, hb9⟩
  have HB := Lib.hid hb9
  have HZS := Lib.hid hb9.size
  have HRG := Lib.hid (RG.mk (G := grp k) hq9 hp9)
  clear hq9 hp9 hb9
  have HK := Lib.hid (Below.refl w1.heap.size w1)
  obtain ⟨w2, hq2, hb9, hz9, Hbg⟩ := new1 w1 86 [.int .i64 ((grp k).size : Int), .slice aq (dl (grp k).q.m) cq, .slice ap (dl (grp k).p.m) cp]
  replace HK := hbu HK hb9
  replace HB := hbu HB hb9
  replace HZS := sz HZS hz9.out
  clear hb9 hz9
  have bg_ := Hbg.out.c3
  go_wp2_with fail
  clear hq2
  refine (rWrong OK.out l n HN.out 0 HZ1.out al cl w2 (HRG.out.up HK.out) (HC.out.up HB.out)).mono ?_
  rintro e w3 ⟨rfl, hb9⟩
  clear bg_
  replace Hbg := Lib.hid (Hbg.out.up hb9)
  replace HK := hbu HK hb9
  replace HB := hbu HB hb9
  replace HZS := sz HZS hb9.size
  clear hb9
  have bg_ := Hbg.out.c3
  go_wp2_with fail
  refine (rWrongSc_e OK.out n xs z2 HZ2.out ax cx hm w3 (HRG.out.up HK.out) (HS.out.up HB.out)).mono ?_
  rintro e w4 ⟨rfl, hb9⟩
  clear bg_
  replace Hbg := Lib.hid (Hbg.out.up hb9)
  replace HK := hbu HK hb9
  replace HB := hbu HB hb9
  replace HZS := sz HZS hb9.size
  clear hb9
  have bg_ := Hbg.out.c3
  go_wp2_with fail
  go_ret2
  exact rowsE_none _ HB.out
 subst g2
 have HSH := Lib.hid (rsh_of OK.out HZ1.out (by rw [HN.out]; exact HZ2.out))
 have hxl : xs.length = n := by rw [HSH.out.xl, HN.out]
 have HXL := Lib.hid hxl
 rw [hxl]
 clear HW HSC hxl
 cases bc
 case false =>
  obtain ⟨rfl, rfl⟩ := H6.out rfl rfl rfl
  go_enter Tryz.func43, Tryz.ntmps43
  go_wp2_with fail
  refine (refKind_some k h1 h3 w).mono ?_
  rintro e w1 ⟨aq, cq, ap, cp, rfl, hq9, hp9, hb9⟩
  have HB := Lib.hid hb9
  have HZS := Lib.hid hb9.size
  have HRG := Lib.hid (RG.mk (G := grp k) hq9 hp9)
  clear hq9 hp9 hb9
  have HK := Lib.hid (Below.refl w1.heap.size w1)
  obtain ⟨w2, hq2, hb9, hz9, Hbg⟩ := new1 w1 86 [.int .i64 ((grp k).size : Int), .slice aq (dl (grp k).q.m) cq, .slice ap (dl (grp k).p.m) cp]
  replace HK := hbu HK hb9
  replace HB := hbu HB hb9
  replace HZS := sz HZS hz9.out
  clear hb9 hz9
  have bg_ := Hbg.out.c3
  go_wp2_with fail
  clear hq2
  refine (rWrong OK.out l n HN.out 0 HZ1.out al cl w2 (HRG.out.up HK.out) (HC.out.up HB.out)).mono ?_
  rintro e w3 ⟨rfl, hb9⟩
  clear bg_
  replace Hbg := Lib.hid (Hbg.out.up hb9)
  replace HK := hbu HK hb9
  replace HB := hbu HB hb9
  replace HZS := sz HZS hb9.size
  clear hb9
  have bg_ := Hbg.out.c3
  go_wp2_with fail
  refine (rWrongSc_n OK.out n xs HXL.out 0 HZ2.out ax cx hm w3 (HRG.out.up HK.out) (HS.out.up HB.out)).mono ?_
  rintro e w4 ⟨rfl, hb9⟩
  clear bg_
  replace Hbg := Lib.hid (Hbg.out.up hb9)
  replace HK := hbu HK hb9
  replace HB := hbu HB hb9
  replace HZS := sz HZS hb9.size
  clear hb9
  have bg_ := Hbg.out.c3
  go_wp2_with fail
  refine (rIsSc_b OK.out ch false HBC.out w4 (HRG.out.up HK.out)).mono ?_
  rintro e w5 ⟨rfl, hb9⟩
  clear bg_
  replace Hbg := Lib.hid (Hbg.out.up hb9)
  replace HK := hbu HK hb9
  replace HB := hbu HB hb9
  replace HZS := sz HZS hb9.size
  clear hb9
  have bg_ := Hbg.out.c3
  go_wp2_with fail
  go_ret2
  exact rowsE_none _ HB.out
 obtain ⟨rfl, rfl⟩ := HF.out rfl rfl rfl
 have HC1 := Lib.hid (sc_len OK.out HBC.out)
 have HC2 := Lib.hid (isSc_le HBC.out)
 clear HF H6
 go_enter Tryz.func43, Tryz.ntmps43
 go_wp2_with fail
 refine (refKind_some k h1 h3 w).mono ?_
 rintro e w1 ⟨aq, cq, ap, cp, rfl, hq9, hp9, hb9⟩
 have HB := Lib.hid hb9
 have HZS := Lib.hid hb9.size
 have HRG := Lib.hid (RG.mk (G := grp k) hq9 hp9)
 clear hq9 hp9 hb9
 have HK := Lib.hid (Below.refl w1.heap.size w1)
 obtain ⟨w2, hq2, hb9, hz9, Hbg⟩ := new1 w1 86 [.int .i64 ((grp k).size : Int), .slice aq (dl (grp k).q.m) cq, .slice ap (dl (grp k).p.m) cp]
 replace HK := hbu HK hb9
 replace HB := hbu HB hb9
 replace HZS := sz HZS hz9.out
 clear hb9 hz9
 have bg_ := Hbg.out.c3
 go_wp2_with fail
 clear hq2
 refine (rWrong OK.out l n HN.out 0 HZ1.out al cl w2 (HRG.out.up HK.out) (HC.out.up HB.out)).mono ?_
 rintro e w3 ⟨rfl, hb9⟩
 clear bg_
 replace Hbg := Lib.hid (Hbg.out.up hb9)
 replace HK := hbu HK hb9
 replace HB := hbu HB hb9
 replace HZS := sz HZS hb9.size
 clear hb9
 have bg_ := Hbg.out.c3
 go_wp2_with fail
 refine (rWrongSc_n OK.out n xs HXL.out 0 HZ2.out ax cx hm w3 (HRG.out.up HK.out) (HS.out.up HB.out)).mono ?_
 rintro e w4 ⟨rfl, hb9⟩
 clear bg_
 replace Hbg := Lib.hid (Hbg.out.up hb9)
 replace HK := hbu HK hb9
 replace HB := hbu HB hb9
 replace HZS := sz HZS hb9.size
 clear hb9
 have bg_ := Hbg.out.c3
 go_wp2_with fail
 refine (rIsSc_b OK.out ch true HBC.out w4 (HRG.out.up HK.out)).mono ?_
 rintro e w5 ⟨rfl, hb9⟩
 clear bg_
 replace Hbg := Lib.hid (Hbg.out.up hb9)
 replace HK := hbu HK hb9
 replace HB := hbu HB hb9
 replace HZS := sz HZS hb9.size
 clear hb9
 have bg_ := Hbg.out.c3
 go_wp2_with fail
 refine (rBackOf OK.out ch y HY.out HC1.out HC2.out l xs HSH.out n HN.out al ax cl cx w5 (HRG.out.up HK.out) (HC.out.up HB.out) (HS.out.up HB.out)).mono ?_
 rintro e w6 ⟨hb9, a9, c9, ro, rfl, hm9, hr9, hz9⟩
 clear bg_
 replace Hbg := Lib.hid (Hbg.out.up hb9)
 replace HK := hbu HK hb9
 replace HB := hbu HB hb9
 replace HZS := sz HZS hb9.size
 have HMR := Lib.hid hm9
 clear hm9
 have HRR := Lib.hid hr9
 clear hr9
 have HZR := Lib.hid hz9
 clear hz9 hb9
 have bg_ := Hbg.out.c3
 go_wp2_with fail
 go_ret2
 exact ⟨HB.out, a9, c9, ro, rfl, HMR.out, HRR.out, HZR.out⟩
def rfirstK (k : Int) (l : List ClaimA) (xs : List ByteArray) : List (List ByteArray) := if openK k l xs = 0 then eachA (grp k.toNat) (rvalB (grp k.toNat) (subQ (grp k.toNat) 0 0) l xs) (lens l) l.length else []
def rbackK (k : Int) (l : List ClaimA) (ch : ByteArray) (xs : List ByteArray) : List (List ByteArray) := if backE k l ch xs = 0 then eachA (grp k.toNat) (rvalB (grp k.toNat) (subQ (grp k.toNat) 0 (numOf ch)) l xs) (lens l) l.length else []
theorem openK_some {j : Nat} (h1 : 1 ≤ j) (h3 : j ≤ 3) (l : List ClaimA) (xs : List ByteArray) : openK (j : Int) l xs = openE (grp j) l xs := by
 unfold openK
 rw [if_pos (by omega)]
 rfl
theorem openE_w {G : GP} {l : List ClaimA} {xs : List ByteArray} (h : wrongE G l ≠ 0) : openE G l xs = wrongE G l := by unfold openE; rw [if_pos h]
theorem openE_s {G : GP} {l : List ClaimA} {xs : List ByteArray} (h : wrongE G l = 0) : openE G l xs = scE G l.length xs := by unfold openE; rw [if_neg (by rw [h]; simp)]
theorem rBack_any (k : Int) (l : List ClaimA) (al : Option Addr) (cl : Nat) (ch : ByteArray) (xs : List ByteArray) (ax : Option Addr) (cx : Nat) (hn : xs.length ≤ 8796093022207) (w : World) (hC : ClaimsAt w al l) (hS : Sl w w.heap.size ax (xs.map Value.string)) :
  Calls Tryz.prog 43 #[.int .i64 k, .slice al l.length cl, .string ch, .slice ax xs.length cx] w (RowsE (backE k l ch xs : Int) (rbackK k l ch xs) w) := by
 by_cases hk : 1 ≤ k ∧ k ≤ 3
 ·obtain ⟨j, rfl⟩ : ∃ j : Nat, k = j := ⟨k.toNat, by omega⟩
  have h1 : 1 ≤ j := by omega
  have h3 : j ≤ 3 := by omega
  refine rBack_some j h1 h3 l _ rfl xs hn ch _ rfl _ rfl _ _ ?_ ?_ ?_ ?_ al ax cl cx w hC hS
  ·intro h
   have e : backE (j : Int) l ch xs = wrongE (grp j) l := by
    unfold backE
    rw [openK_some h1 h3, openE_w h, if_pos h]
   unfold rbackK
   rw [e, if_neg h]
   exact ⟨rfl, rfl⟩
  ·intro h g
   have e : backE (j : Int) l ch xs = scE (grp j) l.length xs := by
    unfold backE
    rw [openK_some h1 h3, openE_s h, if_pos g]
   unfold rbackK
   rw [e, if_neg g]
   exact ⟨rfl, rfl⟩
  ·intro h g g6
   have e : backE (j : Int) l ch xs = 6 := by
    unfold backE
    rw [openK_some h1 h3, openE_s h, g, if_neg (by decide), Int.toNat_natCast, g6, if_neg (by decide)]
   unfold rbackK
   rw [e, if_neg (by decide)]
   exact ⟨rfl, rfl⟩
  ·intro h g g6
   have e : backE (j : Int) l ch xs = 0 := by
    unfold backE
    rw [openK_some h1 h3, openE_s h, g, if_neg (by decide), Int.toNat_natCast, g6, if_pos rfl]
   unfold rbackK
   rw [e, if_pos rfl]
   exact ⟨rfl, rfl⟩
 ·unfold rbackK backE openK
  rw [if_neg hk, if_pos (by decide), if_neg (by decide)]
  exact rBack_none k hk _ _ ch w
end Go.Proofs.YtdlnnkbigeiilaaGreat
namespace Go.Proofs.YtdlnnkbigeiilaaGreat
open Go.RowKit
theorem isSc_lt' {G : GP} {s : ByteArray} (h : isSc G.q.m G.size s = true) : numOf s % G.q.m = numOf s ∧ numOf s < G.q.m := by
 unfold isSc at h
 simp only [Bool.and_eq_true, decide_eq_true_eq] at h
 exact ⟨Nat.mod_eq_of_lt h.2, h.2⟩
theorem T_eq {k : Nat} (h1 : 1 ≤ k) (h3 : k ≤ 3) {x y : Nat} : textS (lowN (grp k) x) (grp k).size = textS (lowN (grp k) y) (grp k).size ↔ lowN (grp k) x = lowN (grp k) y :=
 ⟨fun h => T_inj (grp_ok k h1 h3) (grp_fits k h1 h3) (lowN_le (grp_ok k h1 h3) x) (lowN_le (grp_ok k h1 h3) y) h, fun h => by rw [h]⟩
end Go.Proofs.YtdlnnkbigeiilaaGreat
namespace Go.Proofs.YtdlnnkbigeiilaaGreat
open Go.RowKit
theorem el_le {q size : Nat} {s : ByteArray} (h : isEl q size s = true) : numOf s ≤ q := by
 unfold isEl at h
 simp only [Bool.and_eq_true, decide_eq_true_eq] at h
 exact h.2
theorem el_text {G : GP} (ok : G.Ok) {m : ByteArray} (h : isEl G.q.m G.size m = true) : m = textS (lowN G (numOf m)) G.size := by
 rw [lowN_fix ok (el_le h), ← isEl_size h, text_numOf]
structure AllOk (G : GP) (l : List ClaimA) (xs : List ByteArray) : Prop where
 len : ∀ c ∈ l, c.images.length = c.bases.length
 bs : ∀ c ∈ l, ∀ s ∈ c.bases, isEl G.q.m G.size s = true
 ims : ∀ c ∈ l, ∀ s ∈ c.images, isEl G.q.m G.size s = true
 xl : xs.length = l.length
 xs : ∀ s ∈ xs, isSc G.q.m G.size s = true
theorem allOk {k : Int} {l : List ClaimA} {xs : List ByteArray} (h : openK k l xs = 0) : (1 ≤ k ∧ k ≤ 3) ∧ AllOk (grp k.toNat) l xs := by
 obtain ⟨hk, hs, he, hxl, hxa⟩ := openK_ok h
 have hs := shape_ok hs
 have hc : ∀ c ∈ l, c.bases.all (isEl (grp k.toNat).q.m (grp k.toNat).size) = true ∧ c.images.all (isEl (grp k.toNat).q.m (grp k.toNat).size) = true := fun c hc => by
  have h9 : (c.bases.all (isEl (grp k.toNat).q.m (grp k.toNat).size) && c.images.all (isEl (grp k.toNat).q.m (grp k.toNat).size)) = true := List.all_eq_true.1 he c hc
  exact (Bool.and_eq_true _ _).mp h9
 exact ⟨hk, fun c h => (hs.2.2 c h).2.2, fun c h s g => List.all_eq_true.1 (hc c h).1 s g, fun c h s g => List.all_eq_true.1 (hc c h).2 s g, hxl, fun s g => List.all_eq_true.1 hxa s g⟩
theorem eachA_congr {G : GP} {v v' : Nat → Nat → Nat} {ms : List Nat} {n : Nat} (h : ∀ i t, i < n → t < ms.getD i 0 → lowN G (v i t) = lowN G (v' i t)) : eachA G v ms n = eachA G v' ms n := by
 unfold eachA eachL
 apply List.map_congr_left
 intro i hi
 apply List.map_congr_left
 intro t ht
 rw [h i t (List.mem_range.1 hi) (List.mem_range.1 ht)]
theorem backE_ok {k : Int} {l : List ClaimA} {ch : ByteArray} {xs : List ByteArray} (h : backE k l ch xs = 0) : openK k l xs = 0 ∧ isSc (grp k.toNat).q.m (grp k.toNat).size ch = true := by
 unfold backE at h
 by_cases g : openK k l xs = 0
 ·rw [if_neg (by simpa using g)] at h
  refine ⟨g, ?_⟩
  by_cases f : isSc (grp k.toNat).q.m (grp k.toNat).size ch = true
  ·exact f
  ·rw [if_neg f] at h; cases h
 ·rw [if_pos g] at h
  exact absurd h g
end Go.Proofs.YtdlnnkbigeiilaaGreat
namespace Go.Proofs.YtdlnnkbigeiilaaGreat
open Go.RowKit
theorem zipWith_congr' {α β γ : Type} {f g : α → β → γ} {l : List α} {m : List β} (h : ∀ i (hl : i < l.length) (hm : i < m.length), f l[i] m[i] = g l[i] m[i]) : List.zipWith f l m = List.zipWith g l m := by
 apply List.ext_getElem
 ·simp
 ·intro i h1 h2
  rw [List.getElem_zipWith, List.getElem_zipWith]
  exact h i _ _
theorem hold2_eq {k : Nat} (h1 : 1 ≤ k) (h3 : k ≤ 3) {x b m : ByteArray} (hx : isSc (grp k).q.m (grp k).size x = true) (hm : isEl (grp k).q.m (grp k).size m = true) : rhold2 (grp k) x b m = hold2 (grp k) x b m := by
 unfold rhold2 hold2
 rw [(isSc_lt' hx).1, decide_eq_decide]
 have e := el_text (grp_ok k h1 h3) hm
 constructor
 ·intro h
  exact (T_eq h1 h3).1 (h.trans e)
 ·intro h
  exact ((T_eq h1 h3).2 h).trans e.symm
theorem holdP_eq {k : Nat} (h1 : 1 ≤ k) (h3 : k ≤ 3) {l : List ClaimA} {xs : List ByteArray} (h : AllOk (grp k) l xs) : rholdP (grp k) l xs = holdP (grp k) l xs := by
 unfold rholdP holdP
 rw [zipWith_congr' (f := rhold1 (grp k)) (g := hold1 (grp k))]
 intro i hl hx
 unfold rhold1 hold1
 rw [zipWith_congr' (f := rhold2 (grp k) xs[i]) (g := hold2 (grp k) xs[i])]
 intro t hb hm
 exact hold2_eq h1 h3 (h.xs _ (List.getElem_mem hx)) (h.ims _ (List.getElem_mem hl) _ (List.getElem_mem hm))
theorem valB_low {G : GP} (ok : G.Ok) {l : List ClaimA} {xs : List ByteArray} (h : AllOk G l xs) (y z : Nat) (hy : y = z % G.q.m) (i t : Nat) (hi : i < l.length) (_ht : t < (lens l).getD i 0) : lowN G (rvalB G y l xs i t) = lowN G (valB G z l xs i t) := by
 have hx : i < xs.length := by rw [h.xl]; exact hi
 unfold rvalB valB valF
 rw [lowN_mul ok, ← hy]
 have e : xs.getD i ⟨#[]⟩ = xs[i] := by simp [List.getD, hx]
 rw [e, (isSc_lt' (h.xs _ (List.getElem_mem hx))).1]
theorem valF_low {G : GP} (ok : G.Ok) {l : List ClaimA} {xs : List ByteArray} (h : AllOk G l xs) (i t : Nat) (hi : i < l.length) (_ht : t < (lens l).getD i 0) : lowN G (rvalB G (subQ G 0 0) l xs i t) = lowN G (valF G l xs i t) := by
 rw [valB_low ok h (subQ G 0 0) 0 (by unfold subQ; simp) i t hi _ht]
 unfold valB
 rw [Nat.zero_mod, Nat.pow_zero, Nat.mul_one]
theorem rfirstK_eq (k : Int) (l : List ClaimA) (xs : List ByteArray) : rfirstK k l xs = firstK k l xs := by
 unfold rfirstK firstK
 by_cases h : openK k l xs = 0
 ·rw [if_pos h, if_pos h]
  obtain ⟨hk, ha⟩ := allOk h
  exact eachA_congr fun i t hi ht => valF_low (grp_ok _ (by omega) (by omega)) ha i t hi ht
 ·rw [if_neg h, if_neg h]
theorem rbackK_eq (k : Int) (l : List ClaimA) (ch : ByteArray) (xs : List ByteArray) : rbackK k l ch xs = backK k l ch xs := by
 unfold rbackK backK
 by_cases h : backE k l ch xs = 0
 ·rw [if_pos h, if_pos h]
  obtain ⟨hk, ha⟩ := allOk (backE_ok h).1
  exact eachA_congr fun i t hi ht => valB_low (grp_ok _ (by omega) (by omega)) ha _ _ (by unfold subQ; rw [Nat.zero_add]) i t hi ht
 ·rw [if_neg h, if_neg h]
end Go.Proofs.YtdlnnkbigeiilaaGreat
namespace Go.Proofs.YtdlnnkbigeiilaaGreat
open Go.RowKit
theorem ver_text {G : GP} (ok : G.Ok) {N : Nat} {ch : ByteArray} (h : isSc G.q.m G.size ch = true) : decide (textS (N % G.q.m) G.size = ch) = decide (mont G.q.m N = mont G.q.m (numOf ch)) := by
 have hs : ch.size = G.size ∧ numOf ch < G.q.m := by
  unfold isSc at h
  simp only [Bool.and_eq_true, decide_eq_true_eq] at h
  exact h
 have hlt : N % G.q.m < G.q.m := Nat.mod_lt _ ok.q.pos
 have e : textS (N % G.q.m) G.size = ch ↔ mont G.q.m N = mont G.q.m (numOf ch) := by
  constructor
  ·intro h1
   rw [← h1, numOf_textS, Nat.mod_eq_of_lt (Nat.lt_of_lt_of_le hlt ok.fits), mont_mod]
  ·intro h1
   rw [← mont_mod G.q.m N] at h1
   rw [mont_inj ok.q.low hlt hs.2 h1, ← hs.1, text_numOf]
 exact decide_eq_decide.2 e
def rverK (k : Int) (label : ByteArray) (l : List ClaimA) (ch : ByteArray) (xs : List ByteArray) : Bool :=
 decide (backE k l ch xs = 0) && decide (textS (chN (verT k label l (rbackK k l ch xs)) challengeB % (grp k.toNat).q.m) (grp k.toNat).size = ch)
theorem rverK_eq (k : Int) (label : ByteArray) (l : List ClaimA) (ch : ByteArray) (xs : List ByteArray) : rverK k label l ch xs = verK k label l ch xs := by
 unfold rverK verK
 rw [rbackK_eq]
 by_cases h : backE k l ch xs = 0
 ·obtain ⟨h1, h2⟩ := backE_ok h
  obtain ⟨hk, _⟩ := openK_ok h1
  have e1 : backK k l ch xs = verR k l ch xs := by unfold backK verR; rw [if_pos h]
  rw [e1, ver_text (grp_ok k.toNat (by omega) (by omega)) h2, h, h1, h2]
  generalize decide (mont (grp k.toNat).q.m (chN (verT k label l (verR k l ch xs)) challengeB) = mont (grp k.toNat).q.m (numOf ch)) = b
  cases b <;> rfl
 ·rw [decide_eq_false h]
  unfold backE at h
  by_cases g : openK k l xs = 0
  ·rw [if_neg (by simpa using g)] at h
   by_cases g2 : isSc (grp k.toNat).q.m (grp k.toNat).size ch = true
   ·rw [if_pos g2] at h; exact absurd rfl h
   ·rw [Bool.not_eq_true] at g2
    rw [g2, Bool.false_and, Bool.false_and, Bool.and_false]
  ·rw [decide_eq_false g, Bool.false_and, Bool.false_and]
end Go.Proofs.YtdlnnkbigeiilaaGreat
namespace Go.Proofs.YtdlnnkbigeiilaaGreat
open Go.RowKit
theorem rVerify_any (k : Int) (label : ByteArray) (hlb : label.size < 140737488355328) (l : List ClaimA) (al : Option Addr) (cl : Nat) (ch : ByteArray) (xs : List ByteArray) (ax : Option Addr) (cx : Nat) (hn : xs.length ≤ 8796093022207) (w : World) (hC : ClaimsAt w al l) (hS : Sl w w.heap.size ax (xs.map Value.string)) :
  Calls Tryz.prog 11 #[.int .i64 k, .string label, .slice al l.length cl, .agg #[.string ch, .slice ax xs.length cx]] w fun e w' => e = .returned (.bool (rverK k label l ch xs)) ∧ Below w.heap.size w w' := by
 have HC := Lib.hid hC
 have HO := Lib.hid (fun w1 (hb : Below w.heap.size w w1) => rBack_any k l al cl ch xs ax cx hn w1 (hC.up hb) (hS.up hb))
 obtain ⟨V, hV⟩ : ∃ b, rverK k label l ch xs = b := ⟨_, rfl⟩
 rw [hV]
 obtain ⟨z, hz⟩ : ∃ z, backE k l ch xs = z := ⟨_, rfl⟩
 obtain ⟨L, hL⟩ : ∃ L, rbackK k l ch xs = L := ⟨_, rfl⟩
 have HV := Lib.hid (show V = (decide (z = 0) && decide (textS (chN (verT k label l L) challengeB % (grp k.toNat).q.m) (grp k.toNat).size = ch)) by rw [← hV]; unfold rverK; rw [hz, hL])
 rw [hz, hL] at HO
 have HLE := Lib.hid (show z = 0 → L = verR k l ch xs from fun h => by rw [← hL, rbackK_eq]; unfold backK verR; rw [hz, if_pos h])
 clear hC hS hV hL
 by_cases h0 : z = 0
 ·subst h0
  unfold verT at HV
  obtain ⟨hz1, hz2⟩ := backE_ok hz
  obtain ⟨hk, hsh, hel, hxl, hxa⟩ := openK_ok hz1
  have HK9 := Lib.hid hk
  have hk1 : 1 ≤ k.toNat := by omega
  have hk3 : k.toNat ≤ 3 := by omega
  have hl64 := (shape_ok hsh).2.1
  have HKD := Lib.hid (fun w => (show Calls Tryz.prog 44 #[.int .i64 k] w fun e w' => KindR w e w' (grp k.toNat) from by have h := refKind_some k.toNat hk1 hk3 w; rwa [show ((k.toNat : Nat) : Int) = k by omega] at h))
  have HSY := Lib.hid (show ∀ c ∈ l, SayOk c from fun c hm => by
   have h9 := (shape_ok hsh).2.2 c hm
   have h8 := List.all_eq_true.1 hel c hm
   unfold cElems at h8
   rw [Bool.and_eq_true] at h8
   have hs := (grp_ok k.toNat hk1 hk3).size_le
   have hsm : ∀ s, isEl (grp k.toNat).q.m (grp k.toNat).size s = true → s.size ≤ 32 := fun s h => by
    unfold isEl at h
    simp only [Bool.and_eq_true, decide_eq_true_eq] at h
    omega
   exact ⟨h9.2.1, by omega, fun x hx => hsm x (List.all_eq_true.1 h8.1 x hx), fun x hx => hsm x (List.all_eq_true.1 h8.2 x hx)⟩)
  have HF1 := Lib.hid (fun w => rbegin_any k (by omega) claimsB label (by decide) hlb w)
  have HF2 := Lib.hid (fun al cl w hC => rsayCl_any (beginT claimsB label k) l l.length rfl hl64 (say1_size _ _ _) HSY.out al cl w hC)
  have HF3 := Lib.hid (fun (ro : List RowA) (hm : ro.map RowA.l = L) (al : Option Addr) (cl : Nat) (w : World) (hC : RowsAt w al ro) => (show Calls Tryz.prog 46 #[.agg #[.string (sayCl (beginT claimsB label k) l)], .slice al L.length cl] w fun e w' => e = .returned (.agg #[.string (sayFi (sayCl (beginT claimsB label k) l) L)]) ∧ Below w.heap.size w w' from by
   have hlr : ro.length = L.length := by rw [← hm, List.length_map]
   have h := rsayFi_any (sayCl (beginT claimsB label k) l) ro ro.length rfl (by rw [hlr, HLE.out rfl]; unfold verR; rw [eachA_len]; exact hl64) (sayCl_size _ _ (say1_size _ _ _)) (eachA_small (grp_ok k.toNat hk1 hk3).size_le (lens_small fun c hc => ((shape_ok hsh).2.2 c hc).2.1) (hm.trans (HLE.out rfl))) al cl w hC
   rw [hlr, hm] at h
   exact h))
  have HF4 := Lib.hid (fun pv aq cq w hQ => rChallenge_any (grp k.toNat).size (grp k.toNat).q.m pv (grp_ok k.toNat hk1 hk3).q.pos aq cq (sayFi (sayCl (beginT claimsB label k) l) L) challengeB (by rw [sayFi_size _ _ (sayCl_size _ _ (show (beginT claimsB label k).size = 32 from say1_size _ _ _))]; decide) (by decide) w hQ)
  have HTX := Lib.hid (fun aa cc w h => refText_any (chN (sayFi (sayCl (beginT claimsB label k) l) L) challengeB % (grp k.toNat).q.m) (grp k.toNat).size aa cc (small_dl _ (Nat.lt_of_lt_of_le (Nat.mod_lt _ (grp_ok k.toNat hk1 hk3).q.pos) (Nat.le_of_lt (grp_ok k.toNat hk1 hk3).q.lt4))) (Nat.le_trans (grp_ok k.toNat hk1 hk3).size_le (by decide)) w h)
  generalize chN (sayFi (sayCl (beginT claimsB label k) l) L) challengeB % (grp k.toNat).q.m = nn at *
  generalize chT (sayFi (sayCl (beginT claimsB label k) l) L) challengeB = t4 at *
  generalize sayFi (sayCl (beginT claimsB label k) l) L = t3 at *
  generalize sayCl (beginT claimsB label k) l = t2 at *
  generalize beginT claimsB label k = t1 at *
  obtain ⟨be, hbe⟩ : ∃ b, decide (textS nn (grp k.toNat).size = ch) = b := ⟨_, rfl⟩
  have HBE := Lib.hid (show ((textS nn (grp k.toNat).size).toList == ch.toList) = be by
   rw [← hbe]
   by_cases e9 : textS nn (grp k.toNat).size = ch
   ·rw [e9]; simp
   ·rw [toList_bne e9, decide_eq_false e9])
  rw [hbe] at HV
  obtain rfl : V = be := by rw [HV.out]; rfl
  clear hbe hk hsh hel hxl hxa hz1 hz2
  go_enter Tryz.func11, Tryz.ntmps11
  go_wp2_with fail
  obtain ⟨w1, hq1, hb9, hz9, Hbp⟩ := new1 w 25 [.string ch, .slice ax xs.length cx]
  rw [hq1]
  clear hq1
  have HB := Lib.hid hb9
  have HZS := hz9
  clear hb9 hz9
  have bp_ := Hbp.out.c2
  go_wp2_with fail
  refine (HO.out _ HB.out).mono ?_
  rintro e w2 ⟨hb9, a9, c9, ro, rfl, hm9, hr9, _⟩
  clear bp_
  replace Hbp := Lib.hid (Hbp.out.up hb9)
  replace HB := hbu HB hb9
  replace HZS := sz HZS hb9.size
  have HMR := Lib.hid hm9
  clear hm9
  have HRR := Lib.hid hr9
  clear hr9 hb9
  have bp_ := Hbp.out.c2
  have BS := Lib.hid (Below.refl w2.heap.size w2)
  go_wp2_with fail
  refine (HKD.out w2).mono ?_
  rintro e w3 ⟨aq, cq, ap, cp, rfl, hq9, hp9, hb9⟩
  clear bp_
  replace Hbp := Lib.hid (Hbp.out.up hb9)
  replace BS := hbu BS hb9
  replace HB := hbu HB hb9
  replace HZS := sz HZS hb9.size
  have HQ := Lib.hid hq9
  clear hq9 hb9
  have bp_ := Hbp.out.c2
  have BQ := Lib.hid (Below.refl w3.heap.size w3)
  have o4_bp_ := bp_; clear bp_
  obtain ⟨w4, hq4, hb9, hz9, Hg⟩ := new1 w3 86 [.int .i64 ((grp k.toNat).size : Int), .slice aq (dl (grp k.toNat).q.m) cq, .slice ap (dl (grp k.toNat).p.m) cp]
  replace Hbp := Lib.hid (Hbp.out.up hb9)
  replace BS := hbu BS hb9
  replace BQ := hbu BQ hb9
  replace HB := hbu HB hb9
  replace HZS := sz HZS hz9.out
  clear hb9 hz9
  have bp_ := Hbp.out.c2
  have g_ := Hg.out.c3
  go_wp2_with fail
  clear hq4 o4_bp_
  go_cut [13, 12] from 28 to 39 (fun v9 u9 wq9 => ∃ (b9 : Nat) (a9 : Option Addr) (c9 : Nat), v9 = .pointer (some ⟨b9, 0, none⟩) ∧ u9 = .slice a9 (dl nn) c9 ∧ Hid (NumAt wq9 a9 nn) ∧ Hid (Below w4.heap.size w4 wq9))
  case first =>
   have HT := Lib.hid (show Below w4.heap.size w4 w4.drew from (Below.refl _ _).drew)
   have hl_bp := Hbp.out.lt
   have hl_g := Hg.out.lt
   refine wp_region_tree (fun wq9 => ∃ E : Over w4, wq9 = E.w) ((.qs [0, 1, 2, 4, 6] (.two 3 (.two 5 (.two 7 (.two 8 (.qs [9, 10, 11] (.a 12 (.qs [13] (.a 14 .done)))) 12 (.a 8 (.qs [9, 10, 11, 13] (.a 14 .done)))) 12 (.a 7 (.a 8 (.qs [9, 10, 11, 13] (.a 14 .done))))) 12 (.a 5 (.a 7 (.a 8 (.qs [9, 10, 11, 13] (.a 14 .done)))))) 12 (.a 3 (.a 5 (.a 7 (.a 8 (.qs [9, 10, 11, 13] (.a 14 .done))))))))) (by kernel_rfl) (by kernel_rfl) (fun _ _ d _ _ h => by cases d <;> exact h) ⟨⟨_, HT.out⟩, rfl⟩ ?_
   have hov_bp := fun (E : Over w4) o => E.cell (b := w.heap.size) o hl_bp
   have hov_g := fun (E : Over w4) o => E.cell (b := w3.heap.size) o hl_g
   obtain ⟨wd, hwd⟩ : ∃ W9 : World, w4.drew = W9 := ⟨_, rfl⟩
   rw [hwd] at HT ⊢
   clear hwd
   simp only [Tree.qs]
   repeat (refine tree_q rfl rfl ?_; go_big_quiet_step (fail); refine wpQuiet_nil ?_)
   refine tree_two rfl rfl ?ta1 ?ta2
   case ta1 =>
    intro K hK
    go_simp
    refine (HF1.out _).mono ?_
    rintro e wz3 ⟨rfl, hb9⟩
    replace HT := Lib.hid (below_up HT.out hb9)
    clear hb9
    refine hK _ _ ⟨⟨⟨wz3, HT.out⟩, rfl⟩, ?_⟩
    clear hK K
    refine tree_two rfl rfl ?ta4 ?ta5
    case ta4 =>
     intro K hK
     go_simp
     refine (HF2.out al cl _ (HC.out.up (below_up HB.out HT.out))).mono ?_
     rintro e wz6 ⟨rfl, hb9⟩
     replace HT := Lib.hid (below_up HT.out hb9)
     clear hb9
     refine hK _ _ ⟨⟨⟨wz6, HT.out⟩, rfl⟩, ?_⟩
     clear hK K
     refine tree_two rfl rfl ?ta7 ?ta8
     case ta7 =>
      intro K hK
      go_simp
      refine (HF3.out ro HMR.out a9 c9 _ (HRR.out.up (below_up BS.out HT.out))).mono ?_
      rintro e wz9 ⟨rfl, hb9⟩
      replace HT := Lib.hid (below_up HT.out hb9)
      clear hb9
      refine hK _ _ ⟨⟨⟨wz9, HT.out⟩, rfl⟩, ?_⟩
      clear hK K
      refine tree_two rfl rfl ?ta10 ?ta11
      case ta10 =>
       intro K hK
       go_simp
       refine (HF4.out _ aq cq _ (HQ.out.up (below_up BQ.out HT.out))).mono ?_
       rintro e wz12 ⟨a5, c5, rfl, hn9, hb9⟩
       replace HT := Lib.hid (below_up HT.out hb9)
       have HN5 := Lib.hid hn9
       clear hn9 hb9
       refine hK _ _ ⟨⟨⟨wz12, HT.out⟩, rfl⟩, ?_⟩
       clear hK K
       repeat (refine tree_q rfl rfl ?_; go_big_quiet_step (fail); refine wpQuiet_nil ?_)
       refine tree_a rfl (fun K hK => ?_)
       go_simp
       have hb9 : Below wz12.heap.size wz12 (wz12.alloc (Obj.cells #[.string ⟨#[]⟩] 89)) := (Below.refl _ _).alloc (Nat.le_refl _) _
       have hx9 : Bx (wz12.alloc (Obj.cells #[.string ⟨#[]⟩] 89)) wz12.heap.size 89 [.string ⟨#[]⟩] := Bx.new _ _ _ _ rfl
       obtain ⟨wz13, hq9⟩ : ∃ W9 : World, (wz12.alloc (Obj.cells #[.string ⟨#[]⟩] 89)) = W9 := ⟨_, rfl⟩
       rw [hq9] at hb9 hx9
       try rw [hq9]
       clear hq9
       replace HN5 := Lib.hid (HN5.out.up hb9)
       have HAr := Lib.hid HT.out.size
       replace HT := Lib.hid (below_up HT.out hb9)
       have Hr := Lib.hid hx9
       clear hb9 hx9
       refine hK _ _ ⟨⟨⟨wz13, HT.out⟩, rfl⟩, ?_⟩
       clear hK K
       repeat (refine tree_q rfl rfl ?_; go_big_quiet_step (fail); refine wpQuiet_nil ?_)
       refine tree_a rfl (fun K hK => ?_)
       have fz_0 := Hr.out.frozen 0
       have cz_0 := Hr.out.cell (i := 0) rfl
       go_simp
       replace HN5 := Lib.hid (numSet HN5.out Hr.out 0 (.string t4))
       have hx9 := (Hr.out.set 0 (.string t4))
       have hb9 : Below w4.heap.size w4 (wz13.setCell ⟨wz12.heap.size, 0, none⟩ (.string t4)) := (HT.out.setCell (show w4.heap.size ≤ wz12.heap.size from HAr.out) _)
       clear Hr HT fz_0 cz_0
       obtain ⟨wz14, hq9⟩ : ∃ W9 : World, (wz13.setCell ⟨wz12.heap.size, 0, none⟩ (.string t4)) = W9 := ⟨_, rfl⟩
       rw [hq9] at hx9 hb9 HN5
       try rw [hq9]
       clear hq9
       have HT := Lib.hid hb9
       have Hr := Lib.hid hx9
       clear hb9 hx9
       refine hK _ _ ⟨⟨⟨wz14, HT.out⟩, rfl⟩, ?_⟩
       clear hK K
       repeat (refine tree_q rfl rfl ?_; go_big_quiet_step (fail); refine wpQuiet_nil ?_)
       refine tree_end ?_
       go_wp2_with fail
       go_meet
       case rel => exact ⟨_, _, _, rfl, rfl, HN5, HT⟩
      case ta11 =>
       intro K hK
       go_simp
       have hb9 : Below wz9.heap.size wz9 (wz9.alloc (Obj.cells #[.string ⟨#[]⟩] 89)) := (Below.refl _ _).alloc (Nat.le_refl _) _
       have hx9 : Bx (wz9.alloc (Obj.cells #[.string ⟨#[]⟩] 89)) wz9.heap.size 89 [.string ⟨#[]⟩] := Bx.new _ _ _ _ rfl
       obtain ⟨wz15, hq9⟩ : ∃ W9 : World, (wz9.alloc (Obj.cells #[.string ⟨#[]⟩] 89)) = W9 := ⟨_, rfl⟩
       rw [hq9] at hb9 hx9
       try rw [hq9]
       clear hq9
       have HAr := Lib.hid HT.out.size
       replace HT := Lib.hid (below_up HT.out hb9)
       have Hr := Lib.hid hx9
       clear hb9 hx9
       refine hK _ _ ⟨⟨⟨wz15, HT.out⟩, rfl⟩, ?_⟩
       clear hK K
       refine tree_a rfl (fun K hK => ?_)
       go_simp
       refine (HF4.out _ aq cq _ (HQ.out.up (below_up BQ.out HT.out))).mono ?_
       rintro e wz16 ⟨a5, c5, rfl, hn9, hb9⟩
       replace Hr := Lib.hid (Hr.out.up hb9)
       replace HT := Lib.hid (below_up HT.out hb9)
       have HN5 := Lib.hid hn9
       clear hn9 hb9
       refine hK _ _ ⟨⟨⟨wz16, HT.out⟩, rfl⟩, ?_⟩
       clear hK K
       repeat (refine tree_q rfl rfl ?_; go_big_quiet_step (fail); refine wpQuiet_nil ?_)
       refine tree_a rfl (fun K hK => ?_)
       have fz_0 := Hr.out.frozen 0
       have cz_0 := Hr.out.cell (i := 0) rfl
       go_simp
       replace HN5 := Lib.hid (numSet HN5.out Hr.out 0 (.string t4))
       have hx9 := (Hr.out.set 0 (.string t4))
       have hb9 : Below w4.heap.size w4 (wz16.setCell ⟨wz9.heap.size, 0, none⟩ (.string t4)) := (HT.out.setCell (show w4.heap.size ≤ wz9.heap.size from HAr.out) _)
       clear Hr HT fz_0 cz_0
       obtain ⟨wz17, hq9⟩ : ∃ W9 : World, (wz16.setCell ⟨wz9.heap.size, 0, none⟩ (.string t4)) = W9 := ⟨_, rfl⟩
       rw [hq9] at hx9 hb9 HN5
       try rw [hq9]
       clear hq9
       have HT := Lib.hid hb9
       have Hr := Lib.hid hx9
       clear hb9 hx9
       refine hK _ _ ⟨⟨⟨wz17, HT.out⟩, rfl⟩, ?_⟩
       clear hK K
       repeat (refine tree_q rfl rfl ?_; go_big_quiet_step (fail); refine wpQuiet_nil ?_)
       refine tree_end ?_
       go_wp2_with fail
       go_meet
       case rel => exact ⟨_, _, _, rfl, rfl, HN5, HT⟩
     case ta8 =>
      intro K hK
      go_simp
      have hb9 : Below wz6.heap.size wz6 (wz6.alloc (Obj.cells #[.string ⟨#[]⟩] 89)) := (Below.refl _ _).alloc (Nat.le_refl _) _
      have hx9 : Bx (wz6.alloc (Obj.cells #[.string ⟨#[]⟩] 89)) wz6.heap.size 89 [.string ⟨#[]⟩] := Bx.new _ _ _ _ rfl
      obtain ⟨wz18, hq9⟩ : ∃ W9 : World, (wz6.alloc (Obj.cells #[.string ⟨#[]⟩] 89)) = W9 := ⟨_, rfl⟩
      rw [hq9] at hb9 hx9
      try rw [hq9]
      clear hq9
      have HAr := Lib.hid HT.out.size
      replace HT := Lib.hid (below_up HT.out hb9)
      have Hr := Lib.hid hx9
      clear hb9 hx9
      refine hK _ _ ⟨⟨⟨wz18, HT.out⟩, rfl⟩, ?_⟩
      clear hK K
      refine tree_a rfl (fun K hK => ?_)
      go_simp
      refine (HF3.out ro HMR.out a9 c9 _ (HRR.out.up (below_up BS.out HT.out))).mono ?_
      rintro e wz19 ⟨rfl, hb9⟩
      replace Hr := Lib.hid (Hr.out.up hb9)
      replace HT := Lib.hid (below_up HT.out hb9)
      clear hb9
      refine hK _ _ ⟨⟨⟨wz19, HT.out⟩, rfl⟩, ?_⟩
      clear hK K
      refine tree_a rfl (fun K hK => ?_)
      go_simp
      refine (HF4.out _ aq cq _ (HQ.out.up (below_up BQ.out HT.out))).mono ?_
      rintro e wz20 ⟨a5, c5, rfl, hn9, hb9⟩
      replace Hr := Lib.hid (Hr.out.up hb9)
      replace HT := Lib.hid (below_up HT.out hb9)
      have HN5 := Lib.hid hn9
      clear hn9 hb9
      refine hK _ _ ⟨⟨⟨wz20, HT.out⟩, rfl⟩, ?_⟩
      clear hK K
      repeat (refine tree_q rfl rfl ?_; go_big_quiet_step (fail); refine wpQuiet_nil ?_)
      refine tree_a rfl (fun K hK => ?_)
      have fz_0 := Hr.out.frozen 0
      have cz_0 := Hr.out.cell (i := 0) rfl
      go_simp
      replace HN5 := Lib.hid (numSet HN5.out Hr.out 0 (.string t4))
      have hx9 := (Hr.out.set 0 (.string t4))
      have hb9 : Below w4.heap.size w4 (wz20.setCell ⟨wz6.heap.size, 0, none⟩ (.string t4)) := (HT.out.setCell (show w4.heap.size ≤ wz6.heap.size from HAr.out) _)
      clear Hr HT fz_0 cz_0
      obtain ⟨wz21, hq9⟩ : ∃ W9 : World, (wz20.setCell ⟨wz6.heap.size, 0, none⟩ (.string t4)) = W9 := ⟨_, rfl⟩
      rw [hq9] at hx9 hb9 HN5
      try rw [hq9]
      clear hq9
      have HT := Lib.hid hb9
      have Hr := Lib.hid hx9
      clear hb9 hx9
      refine hK _ _ ⟨⟨⟨wz21, HT.out⟩, rfl⟩, ?_⟩
      clear hK K
      repeat (refine tree_q rfl rfl ?_; go_big_quiet_step (fail); refine wpQuiet_nil ?_)
      refine tree_end ?_
      go_wp2_with fail
      go_meet
      case rel => exact ⟨_, _, _, rfl, rfl, HN5, HT⟩
    case ta5 =>
     intro K hK
     go_simp
     have hb9 : Below wz3.heap.size wz3 (wz3.alloc (Obj.cells #[.string ⟨#[]⟩] 89)) := (Below.refl _ _).alloc (Nat.le_refl _) _
     have hx9 : Bx (wz3.alloc (Obj.cells #[.string ⟨#[]⟩] 89)) wz3.heap.size 89 [.string ⟨#[]⟩] := Bx.new _ _ _ _ rfl
     obtain ⟨wz22, hq9⟩ : ∃ W9 : World, (wz3.alloc (Obj.cells #[.string ⟨#[]⟩] 89)) = W9 := ⟨_, rfl⟩
     rw [hq9] at hb9 hx9
     try rw [hq9]
     clear hq9
     have HAr := Lib.hid HT.out.size
     replace HT := Lib.hid (below_up HT.out hb9)
     have Hr := Lib.hid hx9
     clear hb9 hx9
     refine hK _ _ ⟨⟨⟨wz22, HT.out⟩, rfl⟩, ?_⟩
     clear hK K
     refine tree_a rfl (fun K hK => ?_)
     go_simp
     refine (HF2.out al cl _ (HC.out.up (below_up HB.out HT.out))).mono ?_
     rintro e wz23 ⟨rfl, hb9⟩
     replace Hr := Lib.hid (Hr.out.up hb9)
     replace HT := Lib.hid (below_up HT.out hb9)
     clear hb9
     refine hK _ _ ⟨⟨⟨wz23, HT.out⟩, rfl⟩, ?_⟩
     clear hK K
     refine tree_a rfl (fun K hK => ?_)
     go_simp
     refine (HF3.out ro HMR.out a9 c9 _ (HRR.out.up (below_up BS.out HT.out))).mono ?_
     rintro e wz24 ⟨rfl, hb9⟩
     replace Hr := Lib.hid (Hr.out.up hb9)
     replace HT := Lib.hid (below_up HT.out hb9)
     clear hb9
     refine hK _ _ ⟨⟨⟨wz24, HT.out⟩, rfl⟩, ?_⟩
     clear hK K
     refine tree_a rfl (fun K hK => ?_)
     go_simp
     refine (HF4.out _ aq cq _ (HQ.out.up (below_up BQ.out HT.out))).mono ?_
     rintro e wz25 ⟨a5, c5, rfl, hn9, hb9⟩
     replace Hr := Lib.hid (Hr.out.up hb9)
     replace HT := Lib.hid (below_up HT.out hb9)
     have HN5 := Lib.hid hn9
     clear hn9 hb9
     refine hK _ _ ⟨⟨⟨wz25, HT.out⟩, rfl⟩, ?_⟩
     clear hK K
     repeat (refine tree_q rfl rfl ?_; go_big_quiet_step (fail); refine wpQuiet_nil ?_)
     refine tree_a rfl (fun K hK => ?_)
     have fz_0 := Hr.out.frozen 0
     have cz_0 := Hr.out.cell (i := 0) rfl
     go_simp
     replace HN5 := Lib.hid (numSet HN5.out Hr.out 0 (.string t4))
     have hx9 := (Hr.out.set 0 (.string t4))
     have hb9 : Below w4.heap.size w4 (wz25.setCell ⟨wz3.heap.size, 0, none⟩ (.string t4)) := (HT.out.setCell (show w4.heap.size ≤ wz3.heap.size from HAr.out) _)
     clear Hr HT fz_0 cz_0
     obtain ⟨wz26, hq9⟩ : ∃ W9 : World, (wz25.setCell ⟨wz3.heap.size, 0, none⟩ (.string t4)) = W9 := ⟨_, rfl⟩
     rw [hq9] at hx9 hb9 HN5
     try rw [hq9]
     clear hq9
     have HT := Lib.hid hb9
     have Hr := Lib.hid hx9
     clear hb9 hx9
     refine hK _ _ ⟨⟨⟨wz26, HT.out⟩, rfl⟩, ?_⟩
     clear hK K
     repeat (refine tree_q rfl rfl ?_; go_big_quiet_step (fail); refine wpQuiet_nil ?_)
     refine tree_end ?_
     go_wp2_with fail
     go_meet
     case rel => exact ⟨_, _, _, rfl, rfl, HN5, HT⟩
   case ta2 =>
    intro K hK
    go_simp
    have hb9 : Below wd.heap.size wd (wd.alloc (Obj.cells #[.string ⟨#[]⟩] 89)) := (Below.refl _ _).alloc (Nat.le_refl _) _
    have hx9 : Bx (wd.alloc (Obj.cells #[.string ⟨#[]⟩] 89)) wd.heap.size 89 [.string ⟨#[]⟩] := Bx.new _ _ _ _ rfl
    obtain ⟨wz27, hq9⟩ : ∃ W9 : World, (wd.alloc (Obj.cells #[.string ⟨#[]⟩] 89)) = W9 := ⟨_, rfl⟩
    rw [hq9] at hb9 hx9
    try rw [hq9]
    clear hq9
    have HAr := Lib.hid HT.out.size
    replace HT := Lib.hid (below_up HT.out hb9)
    have Hr := Lib.hid hx9
    clear hb9 hx9
    refine hK _ _ ⟨⟨⟨wz27, HT.out⟩, rfl⟩, ?_⟩
    clear hK K
    refine tree_a rfl (fun K hK => ?_)
    go_simp
    refine (HF1.out _).mono ?_
    rintro e wz28 ⟨rfl, hb9⟩
    replace Hr := Lib.hid (Hr.out.up hb9)
    replace HT := Lib.hid (below_up HT.out hb9)
    clear hb9
    refine hK _ _ ⟨⟨⟨wz28, HT.out⟩, rfl⟩, ?_⟩
    clear hK K
    refine tree_a rfl (fun K hK => ?_)
    go_simp
    refine (HF2.out al cl _ (HC.out.up (below_up HB.out HT.out))).mono ?_
    rintro e wz29 ⟨rfl, hb9⟩
    replace Hr := Lib.hid (Hr.out.up hb9)
    replace HT := Lib.hid (below_up HT.out hb9)
    clear hb9
    refine hK _ _ ⟨⟨⟨wz29, HT.out⟩, rfl⟩, ?_⟩
    clear hK K
    refine tree_a rfl (fun K hK => ?_)
    go_simp
    refine (HF3.out ro HMR.out a9 c9 _ (HRR.out.up (below_up BS.out HT.out))).mono ?_
    rintro e wz30 ⟨rfl, hb9⟩
    replace Hr := Lib.hid (Hr.out.up hb9)
    replace HT := Lib.hid (below_up HT.out hb9)
    clear hb9
    refine hK _ _ ⟨⟨⟨wz30, HT.out⟩, rfl⟩, ?_⟩
    clear hK K
    refine tree_a rfl (fun K hK => ?_)
    go_simp
    refine (HF4.out _ aq cq _ (HQ.out.up (below_up BQ.out HT.out))).mono ?_
    rintro e wz31 ⟨a5, c5, rfl, hn9, hb9⟩
    replace Hr := Lib.hid (Hr.out.up hb9)
    replace HT := Lib.hid (below_up HT.out hb9)
    have HN5 := Lib.hid hn9
    clear hn9 hb9
    refine hK _ _ ⟨⟨⟨wz31, HT.out⟩, rfl⟩, ?_⟩
    clear hK K
    repeat (refine tree_q rfl rfl ?_; go_big_quiet_step (fail); refine wpQuiet_nil ?_)
    refine tree_a rfl (fun K hK => ?_)
    have fz_0 := Hr.out.frozen 0
    have cz_0 := Hr.out.cell (i := 0) rfl
    go_simp
    replace HN5 := Lib.hid (numSet HN5.out Hr.out 0 (.string t4))
    have hx9 := (Hr.out.set 0 (.string t4))
    have hb9 : Below w4.heap.size w4 (wz31.setCell ⟨wd.heap.size, 0, none⟩ (.string t4)) := (HT.out.setCell (show w4.heap.size ≤ wd.heap.size from HAr.out) _)
    clear Hr HT fz_0 cz_0
    obtain ⟨wz32, hq9⟩ : ∃ W9 : World, (wz31.setCell ⟨wd.heap.size, 0, none⟩ (.string t4)) = W9 := ⟨_, rfl⟩
    rw [hq9] at hx9 hb9 HN5
    try rw [hq9]
    clear hq9
    have HT := Lib.hid hb9
    have Hr := Lib.hid hx9
    clear hb9 hx9
    refine hK _ _ ⟨⟨⟨wz32, HT.out⟩, rfl⟩, ?_⟩
    clear hK K
    repeat (refine tree_q rfl rfl ?_; go_big_quiet_step (fail); refine wpQuiet_nil ?_)
    refine tree_end ?_
    go_wp2_with fail
    go_meet
    case rel => exact ⟨_, _, _, rfl, rfl, HN5, HT⟩
  case rest =>
   obtain ⟨b9, a5, c5, rfl, rfl, HN5, hb9⟩ := hcut
   replace hb9 := hb9.out
   clear bp_
   replace Hbp := Lib.hid (Hbp.out.up hb9)
   clear g_
   replace Hg := Lib.hid (Hg.out.up hb9)
   replace BS := hbu BS hb9
   replace BQ := hbu BQ hb9
   replace HB := hbu HB hb9
   replace HZS := sz HZS hb9.size
   clear hb9
   have bp_ := Hbp.out.c2
   have g_ := Hg.out.c3
   go_wp2_with fail
   have hl_bp := Hbp.out.lt
   have hl_g := Hg.out.lt
   refine wp_region_over (by kernel_rfl) (by kernel_rfl) ?_
   have hov_bp := fun (E : Over wc) o => E.cell (b := w.heap.size) o hl_bp
   have hov_g := fun (E : Over wc) o => E.cell (b := w3.heap.size) o hl_g
   repeat (go_big_quiet_step (first | (go_at_call 49; exact calls_over (HTX.out a5 c5 _ (HN5.out.up (Over.h _))))))
   all_goals (try unfold elV limbV)
   repeat (go_big_quiet_step (first | (go_at_call 49; exact calls_over (HTX.out a5 c5 _ (HN5.out.up (Over.h _))))))
   all_goals (try unfold elV limbV)
   repeat (go_big_quiet_step (first | (go_at_call 49; exact calls_over (HTX.out a5 c5 _ (HN5.out.up (Over.h _))))))
   all_goals (try unfold ciphV)
   refine wpQuiet_nil ?_
   rintro _ ⟨E, rfl⟩
   clear hov_bp hl_bp hov_g hl_g bp_
   replace Hbp := Lib.hid (Hbp.out.up E.h)
   clear g_
   replace Hg := Lib.hid (Hg.out.up E.h)
   replace HN5 := Lib.hid (HN5.out.up E.h)
   replace BS := hbu BS E.h
   replace BQ := hbu BQ E.h
   replace HB := hbu HB E.h
   replace HZS := sz HZS E.h.size
   obtain ⟨w5, hq9⟩ : ∃ W9 : World, E.w = W9 := ⟨_, rfl⟩
   rw [hq9] at Hbp Hg HN5 BS BQ HB HZS ⊢
   clear hq9 E
   have bp_ := Hbp.out.c2
   have g_ := Hg.out.c3
   go_wp2_with fail
   rw [HBE.out]
   go_ret
   exact ⟨rfl, HB.out⟩
 ·obtain rfl : V = false := by rw [HV.out, decide_eq_false h0]; rfl
  have hd : ((z : Int) != 0) = true := by simp; omega
  clear h0 hz
  go_enter Tryz.func11, Tryz.ntmps11
  go_wp2_with fail
  obtain ⟨w1, hq1, hb9, hz9, Hbp⟩ := new1 w 25 [.string ch, .slice ax xs.length cx]
  rw [hq1]
  clear hq1
  have HB := Lib.hid hb9
  have HZS := hz9
  clear hb9 hz9
  have bp_ := Hbp.out.c2
  go_wp2_with fail
  refine (HO.out _ HB.out).mono ?_
  rintro e w2 ⟨hb9, a9, c9, ro, rfl, hm9, hr9, _⟩
  clear bp_
  replace Hbp := Lib.hid (Hbp.out.up hb9)
  replace HB := hbu HB hb9
  replace HZS := sz HZS hb9.size
  clear hb9
  have bp_ := Hbp.out.c2
  go_wp2_with fail
  go_ret
  exact ⟨rfl, HB.out⟩
end Go.Proofs.YtdlnnkbigeiilaaGreat
namespace Go.Proofs.YtdlnnkbigeiilaaGreat
open Go.RowKit
theorem RowO.down0 {N n size : Nat} {w : World} {e : TypeId} {v : Value} {xs : List Value} (h : RowO N w e size v n xs) : RowO 0 w e size v n xs := by
 refine ⟨h.1, ?_⟩
 rcases h.2 with h1 | ⟨g, cap, cur, h1, h2, h3⟩
 ·exact Or.inl h1
 ·exact Or.inr ⟨g, cap, cur, h1, Nat.zero_le _, h3⟩
theorem RowO.neB {N n size b : Nat} {w : World} {e t : TypeId} {v : Value} {xs cs : List Value} (h : RowO N w e size v n xs) (hb : Bx w b t cs) (hte : t ≠ e) : v.ownBlock ≠ some b := by
 intro e9
 rcases h.2 with ⟨rfl, _⟩ | ⟨g, cap, cur, rfl, _, hg, _⟩
 ·cases e9
 ·have e8 : g = b := Option.some.inj (show some g = some b from e9)
  rw [e8, show w.heap[b]? = _ from hb] at hg
  simp only [Option.some.injEq, Obj.cells.injEq] at hg
  exact hte hg.2.1
theorem nonce_snoc (G : GP) (s : ByteArray) (j : Nat) : (nonceL G s (j + 1)).map Value.string = (nonceL G s j).map Value.string ++ [.string (textS (chN (askT s j) nonceB % G.q.m) G.size)] := by
 rw [nonceL_succ, List.map_append]; rfl
theorem rNonces_any {G : GP} {aq ap : Option Addr} {cq cp : Nat} (ok : G.Ok) (n : Nat) (hn : n ≤ 64) (s : ByteArray) (hs : s.size = 32) (w : World) (hG : RG w G aq ap) :
  Calls Tryz.prog 72 #[.agg #[.int .i64 (G.size : Int), .slice aq (dl G.q.m) cq, .slice ap (dl G.p.m) cp], .agg #[.string s], .int .i64 (n : Int)] w fun e w' => ∃ a c, e = .returned (.tuple #[.slice a n c, .agg #[.string (askT s n)]]) ∧ RowO 0 w' 9 1 (.slice a n c) n ((nonceL G s n).map Value.string) ∧ Below w.heap.size w w' := by
 have OK := Lib.hid ok
 have HCH := Lib.hid (fun t (ht : t.size = 32) w hq => rChallenge_any G.size G.q.m (.slice ap (dl G.p.m) cp) ok.q.pos aq cq t nonceB (by omega) (by decide) w hq)
 have HTX := Lib.hid (fun j a c w h => rText (G := G) ok (n := chN (askT s j) nonceB % G.q.m) (an := a) (cn := c) (Nat.lt_of_lt_of_le (Nat.mod_lt _ ok.q.pos) (Nat.le_of_lt ok.q.lt4)) w h)
 have HSU := Lib.hid (nonce_snoc G s)
 have HAZ := Lib.hid (fun j => askT_size hs j)
 have HAS := Lib.hid (show ∀ j, askT s (j + 1) = chT (askT s j) nonceB from fun _ => rfl)
 have H0 := Lib.hid (show askT s 0 = s ∧ (nonceL G s 0).map Value.string = [] from ⟨rfl, rfl⟩)
 generalize askT s = AT at *
 generalize nonceL G s = NL at *
 generalize chN = CN at *
 generalize chT = CT at *
 have HG := Lib.hid hG
 clear hG hs ok
 obtain rfl : s = AT 0 := H0.out.1.symm
 go_enter Tryz.func72, Tryz.ntmps72
 go_wp2_with fail
 obtain ⟨w1, hq1, hb9, hz9, Hbg, Hbt, Hro⟩ := new3 w 86 [.int .i64 (G.size : Int), .slice aq (dl G.q.m) cq, .slice ap (dl G.p.m) cp] 89 [.string (AT 0)] 89 [.string ⟨#[]⟩]
 rw [hq1]
 clear hq1
 have HB := Lib.hid hb9
 have HZS := hz9
 clear hb9 hz9
 have bg_ := Hbg.out.c3
 have bt_ := Hbt.out.c1
 have ro_ := Hro.out.c1
 have BL := Lib.hid (Below.refl w1.heap.size w1)
 have HWZ := Lib.hid HB.out.size
 have HWL := Lib.hid Hro.out.lt
 go_wp2_with fail
 go_loopw [9, 8] (fun i v wr => ∃ (j : Nat) (g : Option Addr) (c9 : Nat), j ≤ n ∧ i = .int .i64 (j : Int) ∧ v = .slice g j c9 ∧ Hid (Bx wr w.heap.size 86 [.int .i64 (G.size : Int), .slice aq (dl G.q.m) cq, .slice ap (dl G.p.m) cp]) ∧ Hid (Bx wr (w.heap.size + 1) 89 [.string (AT j)]) ∧ Hid (Bx wr (w.heap.size + 2) 89 [.string ⟨#[]⟩]) ∧ Hid (Below w.heap.size w wr) ∧ Hid (RowO w1.heap.size wr 9 1 (.slice g j c9) j ((NL j).map Value.string))) (fun i _ _ => n - (intOf i).toNat)
 case atStart => exact ⟨0, none, 0, Nat.zero_le _, rfl, rfl, Hbg, Hbt, Hro, HB, by rw [H0.out.2]; exact RowO.nil⟩
 case round =>
  clear Hbg Hbt Hro HB BL bg_ bt_ ro_
  obtain ⟨j, g, c9, hj, rfl, rfl, Hbg, Hbt, Hro, HB, Hr⟩ := hrel
  have HRL := Lib.hid Hro.out.lt
  replace HZS := sz HZS HWZ.out
  replace HZS := sz HZS HWL.out
  replace HZS := sz HZS HRL.out
  have bg_ := Hbg.out.c3
  have bt_ := Hbt.out.c1
  have ro_ := Hro.out.c1
  by_cases hjn : j < n
  ·have HNP := Lib.hid (fun q e => (Hr.out.lt q e).2)
   go_wp2_with fail
   refine (HCH.out (AT j) (HAZ.out j) wr ((HG.out.up HB.out)).q).mono ?_
   rintro e w2 ⟨a5, c5, rfl, hn9, hb9⟩
   clear bg_
   replace Hbg := Lib.hid (Hbg.out.up hb9)
   clear bt_
   replace Hbt := Lib.hid (Hbt.out.up hb9)
   clear ro_
   replace Hro := Lib.hid (Hro.out.up hb9)
   replace Hr := Lib.hid (Hr.out.up hb9)
   replace HB := hbu HB hb9
   replace HZS := sz HZS hb9.size
   have HN5 := Lib.hid hn9
   clear hn9 hb9
   have bg_ := Hbg.out.c3
   have bt_ := Hbt.out.c1
   have ro_ := Hro.out.c1
   rw [← HAS.out]
   have o3_bg_ := bg_; clear bg_
   have o3_bt_ := bt_; clear bt_
   have o3_ro_ := ro_; clear ro_
   obtain ⟨w3, hq3, hb9, hz9, Hbu⟩ := new1 w2 89 [.string (AT (j + 1))]
   replace Hbg := Lib.hid (Hbg.out.up hb9)
   replace Hbt := Lib.hid (Hbt.out.up hb9)
   replace Hro := Lib.hid (Hro.out.up hb9)
   replace Hr := Lib.hid (Hr.out.up hb9)
   replace HN5 := Lib.hid (HN5.out.up hb9)
   replace HB := hbu HB hb9
   replace HZS := sz HZS hz9.out
   clear hb9 hz9
   have bg_ := Hbg.out.c3
   have bt_ := Hbt.out.c1
   have ro_ := Hro.out.c1
   have bu_ := Hbu.out.c1
   go_wp2_with fail
   clear hq3 o3_ro_ o3_bt_ o3_bg_
   refine (HTX.out j a5 c5 w3 HN5.out).mono ?_
   rintro e w4 ⟨rfl, hb9⟩
   clear bg_
   replace Hbg := Lib.hid (Hbg.out.up hb9)
   clear bt_
   replace Hbt := Lib.hid (Hbt.out.up hb9)
   clear ro_
   replace Hro := Lib.hid (Hro.out.up hb9)
   clear bu_
   replace Hbu := Lib.hid (Hbu.out.up hb9)
   replace Hr := Lib.hid (Hr.out.up hb9)
   replace HN5 := Lib.hid (HN5.out.up hb9)
   replace HB := hbu HB hb9
   replace HZS := sz HZS hb9.size
   clear hb9
   have bg_ := Hbg.out.c3
   have bt_ := Hbt.out.c1
   have ro_ := Hro.out.c1
   have bu_ := Hbu.out.c1
   obtain ⟨i9, hi9, hz90, hz91, hz92⟩ := info_parts infoStr
   go_wp2_with (at_builtin; refine wpList_pushR (w1.heap.size) w4 (by have g0 := HZS.out; omega) rfl _ _ 23 rfl 9 i9 _ 1 16 Tryz.underlying23 hi9 hz90 hz91 hz92 rfl (by omega) ((.slice g j c9)) (j) (((NL j).map Value.string)) rfl Hr.out _ _ _ rfl rfl rfl (by simp [Value.oneCell']) (by omega) (by unfold maxLen; omega) ?_)
   intro g5 c5 w5 hown9 hg9
   clear bg_ bt_ ro_ bu_
   have hb9 := Below.grown HB.out hg9 (by have g0 := HZS.out; omega) (fun q hq => Nat.le_trans (show w.heap.size ≤ w1.heap.size by have g0 := HZS.out; omega) (Hr.out.lt q hq).1)
   replace Hbg := Lib.hid (Hbg.out.grown hg9 (fun e9 => by have a2 := HNP.out _ e9; have a1 := Hr.out.lt _ e9; have g0 := HZS.out; omega))
   replace Hbt := Lib.hid (Hbt.out.grown hg9 (fun e9 => by have a2 := HNP.out _ e9; have a1 := Hr.out.lt _ e9; have g0 := HZS.out; omega))
   replace Hro := Lib.hid (Hro.out.grown hg9 (fun e9 => by have a2 := HNP.out _ e9; have a1 := Hr.out.lt _ e9; have g0 := HZS.out; omega))
   replace Hbu := Lib.hid (Hbu.out.grown hg9 (fun e9 => by have a2 := HNP.out _ e9; have a1 := Hr.out.lt _ e9; have g0 := HZS.out; omega))
   clear HN5
   replace HZS := sz HZS hg9.size
   clear Hr HB
   have Hr := Lib.hid hown9
   have HB := Lib.hid hb9
   clear hb9 hown9 hg9 hi9 hz90 hz91 hz92
   have bg_ := Hbg.out.c3
   have bt_ := Hbt.out.c1
   have ro_ := Hro.out.c1
   have bu_ := Hbu.out.c1
   have f6_bt := Hbt.out.frozen
   have o6_bg_ := bg_; clear bg_
   have o6_bt_ := bt_; clear bt_
   have o6_ro_ := ro_; clear ro_
   have o6_bu_ := bu_; clear bu_
   obtain ⟨w6, hq6, hg9, hz9, hx9⟩ := put1 Hbt 0 (.string (AT (j + 1))) [.string (AT (j + 1))] rfl
   replace Hbg := Lib.hid (Hbg.out.grown hg9.out (sne (by have g0 := HZS.out; omega)))
   replace Hro := Lib.hid (Hro.out.grown hg9.out (sne (by have g0 := HZS.out; omega)))
   replace Hbu := Lib.hid (Hbu.out.grown hg9.out (sne (by have g0 := HZS.out; omega)))
   replace Hr := Lib.hid (RowO.grown Hr.out hg9.out (fun q9 e8 e9 => by have a1 := Hr.out.lt _ e8; have a0 := Option.some.inj e9; have g0 := HZS.out; omega))
   replace HB := hbg HB hg9 (by have g0 := HZS.out; omega)
   replace HZS := sz HZS hz9.out
   replace Hbt := hx9
   clear hx9 hg9 hz9
   have bg_ := Hbg.out.c3
   have bt_ := Hbt.out.c1
   have ro_ := Hro.out.c1
   have bu_ := Hbu.out.c1
   go_wp2_with fail
   clear hq6 o6_bu_ o6_ro_ o6_bt_ o6_bg_ f6_bt
   go_roundw
   case rel => exact ⟨j + 1, _, _, hjn, by go_num, rfl, Hbg, Hbt, Hro, HB, Hr.out.eq (HSU.out j).symm rfl⟩
   case measure => simp [intOf]; omega
  ·have hj' : j = n := by omega
   subst hj'
   go_wp2_with fail
   have HT := Lib.hid (show Below wr.heap.size wr wr.drew from (Below.refl _ _).drew)
   have hl_bg := Hbg.out.lt
   have hl_bt := Hbt.out.lt
   have hl_ro := Hro.out.lt
   refine wp_region_treek (fun wq9 => ∃ E : Over wr, wq9 = E.w) 3 ((.qs [0] (.e 1 [] (.qs [2] (.a 3 .done))))) (by kernel_rfl) (by kernel_rfl) (fun _ _ d _ _ h => by cases d <;> exact h) ⟨⟨_, HT.out⟩, rfl⟩ ?_
   have hov_bg := fun (E : Over wr) o => E.cell (b := w.heap.size) o hl_bg
   have hov_bt := fun (E : Over wr) o => E.cell (b := (w.heap.size + 1)) o hl_bt
   have hov_ro := fun (E : Over wr) o => E.cell (b := (w.heap.size + 2)) o hl_ro
   simp only [TreeK.qs]
   repeat (first | (refine treek_q rfl rfl ?_; go_big_quiet_step (fail); refine wpQuiet_nil ?_) | (refine treek_e rfl rfl ?_; go_big_quiet_step (fail); refine wpQuiet_nil ?_))
   clear hov_bg hl_bg hov_bt hl_bt hov_ro hl_ro
   refine treek_a rfl (fun K hK => ?_)
   clear bg_
   replace Hbg := Lib.hid (Hbg.out.up HT.out)
   clear bt_
   replace Hbt := Lib.hid (Hbt.out.up HT.out)
   clear ro_
   replace Hro := Lib.hid (Hro.out.up HT.out)
   replace Hr := Lib.hid (Hr.out.up HT.out)
   replace HB := hbu HB HT.out
   replace HZS := sz HZS HT.out.size
   clear HT
   have bg_ := Hbg.out.c3
   have bt_ := Hbt.out.c1
   have ro_ := Hro.out.c1
   have f2_ro := Hro.out.frozen
   have o2_bg_ := bg_; clear bg_
   have o2_bt_ := bt_; clear bt_
   have o2_ro_ := ro_; clear ro_
   obtain ⟨w2, hq2, hg9, hz9, hx9⟩ := put1 Hro 0 (.string (AT j)) [.string (AT j)] rfl
   replace Hbg := Lib.hid (Hbg.out.grown hg9.out (sne (by have g0 := HZS.out; omega)))
   replace Hbt := Lib.hid (Hbt.out.grown hg9.out (sne (by have g0 := HZS.out; omega)))
   replace Hr := Lib.hid (RowO.grown Hr.out hg9.out (fun q9 e8 e9 => by have a1 := Hr.out.lt _ e8; have a0 := Option.some.inj e9; have g0 := HZS.out; omega))
   replace HB := hbg HB hg9 (by have g0 := HZS.out; omega)
   replace HZS := sz HZS hz9.out
   replace Hro := hx9
   clear hx9 hg9 hz9
   have bg_ := Hbg.out.c3
   have bt_ := Hbt.out.c1
   have ro_ := Hro.out.c1
   go_simp
   try rw [hq2]
   refine hK _ _ ⟨fun h9 => absurd rfl h9, ?_⟩
   clear hK K hq2 o2_ro_ o2_bt_ o2_bg_ f2_ro
   repeat (first | (refine treek_q rfl rfl ?_; go_big_quiet_step (fail); refine wpQuiet_nil ?_) | (refine treek_e rfl rfl ?_; go_big_quiet_step (fail); refine wpQuiet_nil ?_))
   refine treek_end ?_
   go_wp2_with fail
   simp [bodyPost, results, Tryz.results72, go_sem, ro_]
   exact ⟨g, c9, ⟨rfl, rfl⟩, RowO.down0 Hr.out, HB.out⟩
theorem rans_mod {G : GP} {N M : Nat} (hM : M = N % G.q.m) (a b : Nat) : addQ G a (mulQ G M b) = (a + N * b) % G.q.m := by
 subst hM
 unfold addQ mulQ
 rw [Nat.add_mod a, Nat.mod_mod, ← Nat.add_mod, Nat.add_mod a, Nat.mul_mod, Nat.mod_mod, ← Nat.mul_mod, ← Nat.add_mod]
theorem rAnswers_any {G : GP} {aq ap : Option Addr} {cq cp : Nat} (ok : G.Ok) (N M : Nat) (hM : M = N % G.q.m) (ws xs : List ByteArray) (n : Nat) (hw : ws.length = n) (hx : xs.length = n) (hn : n ≤ 64) (hws : ∀ x ∈ ws, x.size ≤ 32) (hxs : ∀ x ∈ xs, x.size ≤ 32) (an aw ax : Option Addr) (cn cw cx : Nat) (w : World) (hG : RG w G aq ap) (hN : NumAt w an M) (hW : Sl w w.heap.size aw (ws.map Value.string)) (hX : Sl w w.heap.size ax (xs.map Value.string)) :
  Calls Tryz.prog 75 #[.agg #[.int .i64 (G.size : Int), .slice aq (dl G.q.m) cq, .slice ap (dl G.p.m) cp], .slice aw n cw, .slice an (dl M) cn, .slice ax n cx] w fun e w' => ∃ a' c', e = .returned (.slice a' n c') ∧ Sl w' w'.heap.size a' ((ansL G N ws xs).map Value.string) ∧ (a' = none → c' = 0) ∧ n ≤ c' ∧ (∀ x, a' = some x → w.heap.size ≤ x.block) ∧ Below w.heap.size w w' := by
 have OK := Lib.hid ok
 have HSN := Lib.hid (fun j h1 h2 => ans_snoc G N (ws := ws) (xs := xs) (j := j) h1 h2)
 have HAL := Lib.hid (ansL_len G N hw hx)
 have HRM := Lib.hid (rans_mod hM)
 have HML := Lib.hid (show M < G.q.m from hM ▸ Nat.mod_lt _ ok.q.pos)
 generalize ansL G N ws xs = AL at *
 have HG := Lib.hid hG
 have HN := Lib.hid hN
 have HW := Lib.hid hW
 have HX := Lib.hid hX
 have HWN := Lib.hid hw
 have HXN := Lib.hid hx
 have HWZ := Lib.hid hws
 have HXZ := Lib.hid hxs
 clear hM ok hG hN hW hX hw hx hws hxs
 go_enter Tryz.func75, Tryz.ntmps75
 go_wp2_with fail
 obtain ⟨w1, hq1, hb9, hz9, Hbg⟩ := new1 w 86 [.int .i64 (G.size : Int), .slice aq (dl G.q.m) cq, .slice ap (dl G.p.m) cp]
 rw [hq1]
 clear hq1
 have HB := Lib.hid hb9
 have HZS := hz9
 clear hb9 hz9
 have bg_ := Hbg.out.c3
 have HWW := Lib.hid HB.out.size
 have BL := Lib.hid (Below.refl w1.heap.size w1)
 go_wp2_with fail
 go_loopw [14, 9] (fun i v wr => ∃ (j : Nat) (g : Option Addr) (c9 : Nat), j ≤ n ∧ i = .int .i64 (j : Int) ∧ v = .slice g j c9 ∧ Hid (Below w1.heap.size w1 wr) ∧ Hid (RowO w1.heap.size wr 9 1 (.slice g j c9) j ((AL.take j).map Value.string))) (fun i _ _ => n - (intOf i).toNat)
 case atStart => exact ⟨0, none, 0, Nat.zero_le _, rfl, rfl, BL, RowO.nil⟩
 case round =>
  obtain ⟨j, g, c9, hj, rfl, rfl, HL9, Hr⟩ := hrel
  have hb9 := HL9.out
  clear HL9 bg_
  replace Hbg := Lib.hid (Hbg.out.up hb9)
  replace BL := hbu BL hb9
  replace HB := hbu HB hb9
  replace HZS := sz HZS hb9.size
  clear hb9
  have bg_ := Hbg.out.c3
  by_cases hjn : j < n
  ·have hjw : j < ws.length := by rw [HWN.out]; exact hjn
   have hjx : j < xs.length := by rw [HXN.out]; exact hjn
   obtain ⟨bw, ow, rfl, hbw, hcw⟩ := HW.out.at j (by rw [List.length_map]; exact hjw)
   obtain ⟨bx, ox, rfl, hbx, hcx⟩ := HX.out.at j (by rw [List.length_map]; exact hjx)
   rw [List.getElem_map] at hcw hcx
   replace hcw := cell_up HB.out hbw hcw
   have hlw := HWW.out
   have HNP := Lib.hid (fun q e => (Hr.out.lt q e).2)
   have HSJ := Lib.hid (HSN.out j hjw hjx)
   have HWJ := Lib.hid (HWZ.out _ (List.getElem_mem hjw))
   have HXJ := Lib.hid (HXZ.out _ (List.getElem_mem hjx))
   generalize ws[j] = x at *
   generalize xs[j] = y at *
   go_wp2_with fail
   replace hcx := cell_up HB.out hbx hcx
   have hbx2 := Nat.lt_of_lt_of_le hbx HB.out.size
   have HT := Lib.hid (show Below wr.heap.size wr wr.drew from (Below.refl _ _).drew)
   have hl_bg := Hbg.out.lt
   refine wp_region_tree (fun wq9 => ∃ E : But wr (Value.ownBlock (.slice g j c9)), wq9 = E.w) ((.qs [0, 1, 2, 4, 5, 6, 7, 8, 9, 13, 14] (.a 3 (.a 10 (.a 11 (.a 12 (.a 15 (.a 16 (.a 17 (.qs [18] .done)))))))))) (by kernel_rfl) (by kernel_rfl) (fun _ _ d _ _ h => by cases d <;> exact h) ⟨⟨_, ((below_grown HT.out).but _)⟩, rfl⟩ ?_
   have hov_bg := fun (E : But wr (Value.ownBlock (.slice g j c9))) o => E.cell (b := w.heap.size) o hl_bg (by intro e9; have a2 := HNP.out _ e9; have a1 := Hr.out.lt _ e9; have g0 := HZS.out; omega)
   have hov_bx := fun (E : But wr (Value.ownBlock (.slice g j c9))) o => E.cell (b := bx) o hbx2 (by intro e9; have a2 := HNP.out _ e9; have a1 := Hr.out.lt _ e9; have g0 := HZS.out; omega)
   simp only [Tree.qs]
   repeat (refine tree_q rfl rfl ?_; go_big_quiet_step (fail); refine wpQuiet_nil ?_)
   refine tree_a rfl (fun K hK => ?_)
   go_simp
   refine (refRead_any x (by have := HWJ.out; omega) _).mono ?_
   rintro e w2 ⟨a1, c1, rfl, hn9, hb9⟩
   replace HT := Lib.hid (below_up HT.out hb9)
   replace HZS := sz HZS (show wr.heap.size ≤ w2.heap.size from HT.out.size)
   clear hb9
   have HN1 := Lib.hid hn9
   clear hn9
   refine hK _ _ ⟨⟨⟨w2, ((below_grown HT.out).but _)⟩, rfl⟩, ?_⟩
   clear hK K
   repeat (refine tree_q rfl rfl ?_; go_big_quiet_step (fail); refine wpQuiet_nil ?_)
   refine tree_a rfl (fun K hK => ?_)
   go_simp
   refine (refRead_any y (by have := HXJ.out; omega) _).mono ?_
   rintro e w3 ⟨a2, c2, rfl, hn9, hb9⟩
   replace HN1 := Lib.hid (HN1.out.up hb9)
   replace HT := Lib.hid (below_up HT.out hb9)
   replace HZS := sz HZS (show wr.heap.size ≤ w3.heap.size from HT.out.size)
   clear hb9
   have HN2 := Lib.hid hn9
   clear hn9
   refine hK _ _ ⟨⟨⟨w3, ((below_grown HT.out).but _)⟩, rfl⟩, ?_⟩
   clear hK K
   repeat (refine tree_q rfl rfl ?_; go_big_quiet_step (fail); refine wpQuiet_nil ?_)
   refine tree_a rfl (fun K hK => ?_)
   go_simp
   refine (rMulQ OK.out (q_16 OK.out HML.out) (numOf_16 _ HXJ.out) _ (HG.out.up (below_up HB.out HT.out)) (HN.out.up (below_up HB.out HT.out)) HN2.out).mono ?_
   rintro e w4 ⟨a3, c3, rfl, hn9, hb9⟩
   replace HN1 := Lib.hid (HN1.out.up hb9)
   replace HN2 := Lib.hid (HN2.out.up hb9)
   replace HT := Lib.hid (below_up HT.out hb9)
   replace HZS := sz HZS (show wr.heap.size ≤ w4.heap.size from HT.out.size)
   clear hb9
   have HN3 := Lib.hid hn9
   clear hn9
   refine hK _ _ ⟨⟨⟨w4, ((below_grown HT.out).but _)⟩, rfl⟩, ?_⟩
   clear hK K
   repeat (refine tree_q rfl rfl ?_; go_big_quiet_step (fail); refine wpQuiet_nil ?_)
   refine tree_a rfl (fun K hK => ?_)
   go_simp
   refine (rAddQ OK.out (numOf_16 _ HWJ.out) (q_16 OK.out (mulQ_lt OK.out _ _)) _ (HG.out.up (below_up HB.out HT.out)) HN1.out HN3.out).mono ?_
   rintro e w5 ⟨a4, c4, rfl, hn9, hb9⟩
   replace HN1 := Lib.hid (HN1.out.up hb9)
   replace HN2 := Lib.hid (HN2.out.up hb9)
   replace HN3 := Lib.hid (HN3.out.up hb9)
   replace HT := Lib.hid (below_up HT.out hb9)
   replace HZS := sz HZS (show wr.heap.size ≤ w5.heap.size from HT.out.size)
   clear hb9
   have HN4 := Lib.hid hn9
   clear hn9
   refine hK _ _ ⟨⟨⟨w5, ((below_grown HT.out).but _)⟩, rfl⟩, ?_⟩
   clear hK K
   repeat (refine tree_q rfl rfl ?_; go_big_quiet_step (fail); refine wpQuiet_nil ?_)
   refine tree_a rfl (fun K hK => ?_)
   go_simp
   refine (rTextQ OK.out (addQ_lt OK.out _ _) _ HN4.out).mono ?_
   rintro e w6 ⟨rfl, hb9⟩
   replace HN1 := Lib.hid (HN1.out.up hb9)
   replace HN2 := Lib.hid (HN2.out.up hb9)
   replace HN3 := Lib.hid (HN3.out.up hb9)
   replace HN4 := Lib.hid (HN4.out.up hb9)
   replace HT := Lib.hid (below_up HT.out hb9)
   replace HZS := sz HZS (show wr.heap.size ≤ w6.heap.size from HT.out.size)
   clear hb9
   rw [HRM.out]
   refine hK _ _ ⟨⟨⟨w6, ((below_grown HT.out).but _)⟩, rfl⟩, ?_⟩
   clear hK K
   repeat (refine tree_q rfl rfl ?_; go_big_quiet_step (fail); refine wpQuiet_nil ?_)
   clear hov_bg hl_bg hov_bx
   refine tree_a rfl (fun K hK => ?_)
   go_simp
   refine hK _ _ ⟨⟨⟨_, (below_grown (HT.out.alloc HT.out.size _)).but _⟩, rfl⟩, ?_⟩
   clear hK K
   obtain ⟨i9, hi9, hz90, hz91, hz92⟩ := info_parts infoStr
   have HG1 := Lib.hid ((below_grown HT.out).but (Value.ownBlock (.slice g j c9)))
   clear bg_
   replace Hbg := Lib.hid (Hbg.out.up HT.out)
   replace Hr := Lib.hid (Hr.out.up HT.out)
   replace BL := hbu BL HT.out
   replace HB := hbu HB HT.out
   replace HZS := sz HZS HT.out.size
   refine tree_a rfl (fun K hK => ?_)
   refine step_pushR (w1.heap.size) w6 (by have g0 := HZS.out; omega) rfl _ _ 23 rfl 9 i9 _ 1 16 Tryz.underlying23 hi9 hz90 hz91 hz92 rfl (by omega) ((.slice g j c9)) (j) (((AL.take j).map Value.string)) rfl Hr.out _ _ _ rfl rfl rfl (by simp [Value.oneCell']) (by omega) (by unfold maxLen; omega) ?_
   intro g7 c7 w7 hown9 hg9
   have HGR := Lib.hid (HG1.out.trans hg9)
   have hb9 := Below.grown HB.out hg9 (by have g0 := HZS.out; omega) (fun q hq => Nat.le_trans (show w.heap.size ≤ w1.heap.size by have g0 := HZS.out; omega) (Hr.out.lt q hq).1)
   replace Hbg := Lib.hid (Hbg.out.grown hg9 (fun e9 => by have a2 := HNP.out _ e9; have a1 := Hr.out.lt _ e9; have g0 := HZS.out; omega))
   clear HN1 HN2 HN3 HN4
   replace BL := Lib.hid (Below.grown BL.out hg9 (by have g0 := HZS.out; omega) (fun q hq => Nat.le_trans (show w1.heap.size ≤ w1.heap.size by have g0 := HZS.out; omega) (Hr.out.lt q hq).1))
   replace HZS := sz HZS hg9.size
   clear Hr HB HT HG1
   have Hr := Lib.hid hown9
   have HB := Lib.hid hb9
   clear hb9 hown9 hg9 hi9 hz90 hz91 hz92
   refine hK _ _ ⟨⟨⟨w7, HGR.out⟩, rfl⟩, ?_⟩
   clear hK K HGR
   have bg_ := Hbg.out.c3
   try simp only [Act.put, List.setIfInBounds_toArray, List.set_cons_succ, List.set_cons_zero]
   repeat (refine tree_q rfl rfl ?_; go_big_quiet_step (fail); refine wpQuiet_nil ?_)
   refine tree_end ?_
   go_wp2_with fail
   go_roundw
   case rel => exact ⟨j + 1, _, _, hjn, by go_num, rfl, BL, Hr.out.eq HSJ.out.symm rfl⟩
   case measure => simp [intOf]; omega
  ·have hj' : j = n := by omega
   subst hj'
   rw [List.take_of_length_le (by rw [HAL.out]; exact Nat.le_refl _)] at Hr
   go_wp2_with fail
   go_ret
   exact ⟨g, c9, rfl, Hr.out.sl, RowO.none0 Hr.out, RowO.room Hr.out, fun x hx => by have h1 := Hr.out.lt x.block (by rw [hx]; rfl); have h2 := HWW.out; omega, HB.out⟩
end Go.Proofs.YtdlnnkbigeiilaaGreat
