/- MixRoutes: every order can be made: Route answers gates that make it. No condition. -/
import Derived.Test.YtbjhcpchljjmhaaZMixRoutes1
import Derived.BigRegion
import Derived.BigQuiet
import Derived.Test.YtbjhcpchljjmhaaRows
import Derived.ProofKit
import Derived.SizedLaws
import Derived.Lib.SmallJoins
import Derived.Deep.Slices
import Derived.Deep.Fields

/- The document's plan of a network. Condition: lists of at most 4,096 wires. -/
namespace Go.Proofs.Ytbjhcpchljjmhaa
open Go.RowKit

def UpToPost (w : World) (n : Nat) (e : Ending) (w' : World) : Prop := ∃ u, e = .returned u ∧ Made w w' u (iota n) ∧ Below w.heap.size w w'


set_option maxHeartbeats 1000000 in
theorem refUpTo_any (n : Nat) (w : World) (hn : n ≤ 4096) : Calls Try.prog 33 #[.int .i64 n] w (UpToPost w n) := by
  obtain ⟨i0, hi, hz0, hz1, hz2⟩ := info_parts infoInt
  go_enter Try.func33, Try.ntmps33
  go_wp2
  go_loopw [3, 4] (fun u i wr => ∃ j : Nat, j ≤ n ∧ i = .int .i64 j ∧ Hid (wr.ownsRow 0 3 1 u (iota j).length ((iota j).map (Value.int .i64))) ∧ Hid (∀ q, u.ownBlock = some q → w.heap.size ≤ q) ∧ Below w.heap.size w wr) (fun _ i _ => n - (intOf i).toNat)
  case atStart => exact ⟨0, Nat.zero_le _, rfl, World.ownsRow_nil _ _ _ _, fun q h => by simp [Value.ownBlock] at h, Below.refl _ _⟩
  case round =>
    obtain ⟨j, hj, rfl, HO, HN, hbl⟩ := hrel
    by_cases hjl : j < n
    · have hil : (iota j).length ≤ 4096 := by rw [iota_length]; omega
      go_wp2_with (at_builtin; refine wpList_push wr rfl _ _ 25 rfl 3 i0 _ 1 8 Try.underlying25 hi hz0 hz1 hz2 rfl (by omega) u3 (iota j).length ((iota j).map (Value.int .i64)) rfl HO.out _ _ _ rfl rfl rfl (by simp [Value.oneCell']) (by omega) (by unfold maxLen; omega) ?_)
      intro g gc w1 hown hp
      have hb1 := hp.below hbl hbl.size HN.out
      have HN1 : Hid (∀ q, (Value.slice (some ⟨g, 0, none⟩) ((iota j).length + 1) gc).ownBlock = some q → w.heap.size ≤ q) := hp.from_ hbl.size HN.out
      have HO1 : Hid (w1.ownsRow 0 3 1 (.slice (some ⟨g, 0, none⟩) ((iota j).length + 1) gc) (iota (j + 1)).length ((iota (j + 1)).map (Value.int .i64))) := by
        rw [iota_succ, List.length_append, List.map_append]; exact hown
      clear hown hp
      go_wp2
      go_roundw
      case rel => exact ⟨j + 1, by omega, by go_num, HO1, HN1, hb1⟩
      case measure => simp [intOf]; omega
    · have hjn : j = n := by omega
      subst hjn
      go_wp2
      go_ret
      exact ⟨_, rfl, ⟨HO.out, HN.out⟩, hbl⟩

def GatesPost (w : World) (xs : List Int) (e : Ending) (w' : World) : Prop := ∃ u, e = .returned u ∧ MadeG w w' u (gatesL xs) ∧ Below w.heap.size w w'

theorem iff_take (xs : List Int) (j : Nat) (hj : j < xs.length) : xs.take (j + 1) = xs.take j ++ [xs.getD j 0] := by
  rw [List.take_succ_eq_append_getElem hj]; simp [List.getD, hj]

/-- The three lists of the first loop. -/
structure Three (w wr : World) (f u l : Value) (F U V : List Int) : Prop where
  of : wr.ownsRow 0 3 1 f F.length (F.map (Value.int .i64))
  ou : wr.ownsRow 0 3 1 u U.length (U.map (Value.int .i64))
  ol : wr.ownsRow 0 3 1 l V.length (V.map (Value.int .i64))
  fu : Apart f u
  fl : Apart f l
  ul : Apart u l
  nf : ∀ q, f.ownBlock = some q → w.heap.size ≤ q
  nu : ∀ q, u.ownBlock = some q → w.heap.size ≤ q
  nl : ∀ q, l.ownBlock = some q → w.heap.size ≤ q
  bl : Below w.heap.size w wr

section
variable {w wr w1 : World} {f u l : Value} {F U V : List Int} {x : Int} {g gc : Nat}
theorem Three.pushF (h : Three w wr f u l F U V) (hown : w1.ownsRow 0 3 1 (.slice (some ⟨g, 0, none⟩) (F.length + 1) gc) (F.length + 1) (F.map (Value.int .i64) ++ [.int .i64 x])) (hp : Pushed wr w1 f g) :
    Three w w1 (.slice (some ⟨g, 0, none⟩) (F.length + 1) gc) u l (F ++ [x]) U V :=
  ⟨by simpa using hown, hp.keep h.ou h.fu, hp.keep h.ol h.fl, hp.apart h.ou h.fu, hp.apart h.ol h.fl, h.ul, hp.from_ h.bl.size h.nf, h.nu, h.nl, hp.below h.bl h.bl.size h.nf⟩
theorem Three.pushU (h : Three w wr f u l F U V) (hown : w1.ownsRow 0 3 1 (.slice (some ⟨g, 0, none⟩) (U.length + 1) gc) (U.length + 1) (U.map (Value.int .i64) ++ [.int .i64 x])) (hp : Pushed wr w1 u g) :
    Three w w1 f (.slice (some ⟨g, 0, none⟩) (U.length + 1) gc) l F (U ++ [x]) V :=
  ⟨hp.keep h.of h.fu.symm, by simpa using hown, hp.keep h.ol h.ul, (hp.apart h.of h.fu.symm).symm, h.fl, hp.apart h.ol h.ul, h.nf, hp.from_ h.bl.size h.nu, h.nl, hp.below h.bl h.bl.size h.nu⟩
theorem Three.pushL (h : Three w wr f u l F U V) (hown : w1.ownsRow 0 3 1 (.slice (some ⟨g, 0, none⟩) (V.length + 1) gc) (V.length + 1) (V.map (Value.int .i64) ++ [.int .i64 x])) (hp : Pushed wr w1 l g) :
    Three w w1 f u (.slice (some ⟨g, 0, none⟩) (V.length + 1) gc) F U (V ++ [x]) :=
  ⟨hp.keep h.of h.fl.symm, hp.keep h.ou h.ul.symm, by simpa using hown, h.fu, (hp.apart h.of h.fl.symm).symm, (hp.apart h.ou h.ul.symm).symm, h.nf, h.nu, hp.from_ h.bl.size h.nl, hp.below h.bl h.bl.size h.nl⟩
end

/-- The three lists, and the list of gates beside them. -/
structure Four (w wr : World) (v : Value) (gs : List (Int × Int)) (f u l : Value) (F U V : List Int) : Prop where
  own : wr.ownsRow 0 33 2 v gs.length (flat gs)
  t : Three w wr f u l F U V
  vf : Apart v f
  vu : Apart v u
  vl : Apart v l
  nv : ∀ q, v.ownBlock = some q → w.heap.size ≤ q

section
variable {w wr w1 : World} {v f u l : Value} {gs : List (Int × Int)} {F U V : List Int} {x y : Int} {g gc m : Nat}
theorem Four.push {cs : List Value} {hs : List (Int × Int)} (h : Four w wr v gs f u l F U V) (hm : m = (gs ++ hs).length) (hcs : flat gs ++ cs = flat (gs ++ hs))
    (hown : w1.ownsRow 0 33 2 (.slice (some ⟨g, 0, none⟩) m gc) m (flat gs ++ cs)) (hp : Pushed wr w1 v g) :
    Four w w1 (.slice (some ⟨g, 0, none⟩) m gc) (gs ++ hs) f u l F U V := by
  subst hm
  rw [hcs] at hown
  exact ⟨hown, ⟨hp.keep h.t.of h.vf, hp.keep h.t.ou h.vu, hp.keep h.t.ol h.vl, h.t.fu, h.t.fl, h.t.ul, h.t.nf, h.t.nu, h.t.nl, hp.below h.t.bl h.t.bl.size h.nv⟩,
    hp.apart h.t.of h.vf, hp.apart h.t.ou h.vu, hp.apart h.t.ol h.vl, hp.from_ h.t.bl.size h.nv⟩
end

theorem Three.below {w wr w' : World} {f u l : Value} {F U V : List Int} (h : Three w wr f u l F U V) (hb : Below wr.heap.size wr w') : Three w w' f u l F U V :=
  ⟨h.of.kept (below_grown hb) (by cases f.ownBlock <;> simp), h.ou.kept (below_grown hb) (by cases u.ownBlock <;> simp), h.ol.kept (below_grown hb) (by cases l.ownBlock <;> simp), h.fu, h.fl, h.ul, h.nf, h.nu, h.nl, below_up h.bl hb⟩

theorem Four.below {w wr w' : World} {v f u l : Value} {gs : List (Int × Int)} {F U V : List Int} (h : Four w wr v gs f u l F U V) (hb : Below wr.heap.size wr w') : Four w w' v gs f u l F U V :=
  ⟨h.own.kept (below_grown hb) (by cases v.ownBlock <;> simp), h.t.below hb, h.vf, h.vu, h.vl, h.nv⟩

/-- What is appended at once. -/
theorem Four.join {w wr w1 : World} {v v' f u l : Value} {gs hs : List (Int × Int)} {F U V : List Int} (h : Four w wr v gs f u l F U V)
    (hown : w1.ownsRow 0 33 2 v' (gs.length + hs.length) (flat gs ++ flat hs)) (hp : Grew wr w1 v v') : Four w w1 v' (gs ++ hs) f u l F U V := by
  rw [← flat_append, ← List.length_append] at hown
  exact ⟨hown, ⟨hp.keep h.t.of h.vf, hp.keep h.t.ou h.vu, hp.keep h.t.ol h.vl, h.t.fu, h.t.fl, h.t.ul, h.t.nf, h.t.nu, h.t.nl, hp.below h.t.bl h.t.bl.size h.nv⟩,
    hp.apart h.t.of h.vf, hp.apart h.t.ou h.vu, hp.apart h.t.ol h.vl, hp.from_ h.t.bl.size h.nv⟩

theorem flat_one (gs : List (Int × Int)) : ∀ u ∈ flat gs, u.oneCell' = true := by
  intro u hu
  simp only [flat, List.mem_flatMap] at hu
  obtain ⟨g, _, hg⟩ := hu
  simp at hg
  rcases hg with rfl | rfl <;> rfl

theorem gates_parts (xs : List Int) (h : 2 < xs.length) : (gatesL xs).length = xs.length / 2 + (gatesL (upper xs)).length + (gatesL (lower xs)).length + lastRow xs.length := by
  rw [gatesL_more xs h]
  simp only [List.length_append, pairs, List.length_map, List.length_range]

theorem refGates_few (xs : List Int) (hn : xs.length < 2) (a : Option Addr) (cap : Nat) (w : World) : Calls Try.prog 32 #[.slice a xs.length cap] w (GatesPost w xs) := by
  have HG := Lib.hid (gatesL_few xs hn)
  go_enter Try.func32, Try.ntmps32
  go_wp2
  go_ret
  exact ⟨_, rfl, ⟨by rw [HG.out]; exact World.ownsRow_nil _ _ _ _, fun q h => by simp [Value.ownBlock] at h⟩, Below.refl _ _⟩

set_option maxHeartbeats 1000000 in
theorem refGates_two (xs : List Int) (hn : xs.length = 2) (a : Option Addr) (cap : Nat) (w : World) (hs : Sl w w.heap.size a (xs.map (Value.int .i64))) : Calls Try.prog 32 #[.slice a xs.length cap] w (GatesPost w xs) := by
  have hG := gatesL_two xs hn
  obtain ⟨b1, o1, rfl, hb1, hx1⟩ := hs.at 0 (by simp; omega)
  obtain ⟨b2, o2, e2, hb2, hx2⟩ := hs.at 1 (by simp; omega)
  simp only [Option.some.injEq, Addr.mk.injEq, and_true] at e2
  obtain ⟨rfl, rfl⟩ := e2
  rw [List.getElem_map] at hx1 hx2
  have e1 : xs[0] = xs.getD 0 0 := by simp [List.getD, List.getElem?_eq_getElem (show 0 < xs.length by omega)]
  have e2 : xs[1] = xs.getD 1 0 := by simp [List.getD, List.getElem?_eq_getElem (show 1 < xs.length by omega)]
  rw [e1] at hx1
  rw [e2] at hx2
  simp only [Nat.add_zero] at hx1
  have h3 : ((xs.length : Int) == 2) = true := by simp; omega
  have h4 : (0 : Int) < (xs.length : Int) := by omega
  have h5 : (1 : Int) < (xs.length : Int) := by omega
  have h6 : 0 < xs.length := by omega
  have h7 : 1 < xs.length := by omega
  have HN := Lib.hid hn
  have HG := Lib.hid hG
  clear hs hn hG e1 e2
  generalize xs.getD 0 0 = x at *
  generalize xs.getD 1 0 = y at *
  go_enter Try.func32, Try.ntmps32
  go_wp2_with fail
  refine wp_region_flat (fun w' => ∃ E : But w none, w' = E.w) [(0, true), (1, true), (2, true), (3, true), (4, true), (5, true), (6, true), (7, false), (8, true)] (by kernel_rfl) (by kernel_rfl) (fun _ _ d _ _ h => by cases d <;> exact h) (but_of (grownBy_drew (grownBy_refl _ _))) ?_
  have hov := fun (E : But w none) o => E.cell (b := b1) o hb1 (by simp)
  repeat (refine flat_q rfl rfl ?_; go_big_quiet_step (fail); refine wpQuiet_nil ?_)
  refine flat_a rfl (fun K hK => ?_)
  go_simp
  refine hK _ _ ⟨but_of (grownBy_drew (grownBy_alloc' (grownBy_refl _ _) _)), ?_⟩
  clear hK K hov
  refine flat_q rfl rfl ?_
  go_big_quiet_step (fail)
  refine wpQuiet_nil ?_
  refine flat_end ?_
  go_wp2
  go_ret
  refine ⟨_, rfl, ⟨?_, fun q h => by simp [Value.ownBlock] at h; omega⟩, ((Below.refl _ _).alloc (Nat.le_refl _) _).drew⟩
  rw [HG.out]
  have h := World.ownsRow_lit (base := 0) (e := 33) (size := 2) w.drew #[.int .i64 x, .int .i64 y] 1 (Nat.zero_le _) (by unfold maxLen; omega) rfl
  exact h

set_option maxHeartbeats 4000000 in
theorem refGates_any : ∀ (N : Nat) (xs : List Int), xs.length ≤ N → ∀ (a : Option Addr) (cap : Nat) (w : World), Sl w w.heap.size a (xs.map (Value.int .i64)) → xs.length ≤ 4096 → (gatesL xs).length ≤ 1000000 →
    Calls Try.prog 32 #[.slice a xs.length cap] w (GatesPost w xs) := by
  intro N
  induction N with
  | zero => intro xs hN a cap w _ _ _; exact refGates_few xs (by omega) a cap w
  | succ N ih =>
    intro xs hN a cap w hs hn hlen
    rcases Nat.lt_or_ge xs.length 2 with hlt | hge
    · exact refGates_few xs hlt a cap w
    · by_cases he : xs.length = 2
      · exact refGates_two xs he a cap w hs
      · have hgt : 2 < xs.length := by omega
        have h3 : ((xs.length : Int) == 2) = false := by simp; omega
        obtain ⟨i0, hi, hz0, hz1, hz2⟩ := info_parts infoInt
        have HIH := Lib.hid ih
        have HS := Lib.hid hs
        clear ih hs he
        go_enter Try.func32, Try.ntmps32
        go_wp2
        go_loopw [5, 6, 7, 32] (fun f u l i wr => ∃ j : Nat, j ≤ xs.length ∧ i = .int .i64 j ∧ Hid (Three w wr f u l (xs.take j) (upTo xs.length xs j) (lowTo xs.length xs j))) (fun _ _ _ i _ => xs.length - (intOf i).toNat)
        case atStart => exact ⟨0, Nat.zero_le _, rfl, ⟨World.ownsRow_nil _ _ _ _, World.ownsRow_nil _ _ _ _, World.ownsRow_nil _ _ _ _, Apart.nil_left _, Apart.nil_left _, Apart.nil_left _, fun q h => by simp [Value.ownBlock] at h, fun q h => by simp [Value.ownBlock] at h, fun q h => by simp [Value.ownBlock] at h, Below.refl _ _⟩⟩
        case round =>
          obtain ⟨j, hj, rfl, HT⟩ := hrel
          by_cases hjl : j < xs.length
          · obtain ⟨bb, off, rfl, hbb, hcell⟩ := (HS.out.below HT.out.bl).at j (by simpa using hjl)
            have hsz := HT.out.bl.size
            have hbr : bb < wr.heap.size := by omega
            have hx : xs.getD j 0 = xs[j] := by simp [List.getD, hjl]
            rw [List.getElem_map, ← hx] at hcell
            have hb2 := both_length xs.length xs j
            have hl0 : (xs.take j).length ≤ 4096 := by rw [List.length_take]; omega
            have hf1 := iff_take xs j hjl
            have hu1 := upTo_succ xs.length xs j
            have hl1 := lowTo_succ xs.length xs j
            clear hx
            generalize xs.getD j 0 = x at *
            generalize xs.take j = F at *
            generalize upTo xs.length xs j = U at *
            generalize lowTo xs.length xs j = V at *
            have HF1 := Lib.hid hf1
            have HU1 := Lib.hid hu1
            have HL1 := Lib.hid hl1
            have hlU : U.length ≤ 4096 := by omega
            have hlV : V.length ≤ 4096 := by omega
            clear hf1 hu1 hl1 hb2
            by_cases hlt : j < 2 * (xs.length / 2)
            · have h2 : (j : Int) < 2 * ((xs.length : Int) / 2) := by omega
              by_cases hev : j % 2 = 0
              · have h1 : ((j : Int) % 2 == 0) = true := by simp; omega
                have e1 : isUp xs.length j = true := by simp [isUp]; omega
                have HEV := Lib.hid hev
                have HE1 := Lib.hid e1
                clear hev e1
                go_wp2_with (at_builtin; refine wpList_push wr rfl _ _ 25 rfl 3 i0 _ 1 8 Try.underlying25 hi hz0 hz1 hz2 rfl (by omega) u6 U.length (U.map (Value.int .i64)) rfl HT.out.ou _ _ _ rfl rfl rfl (by simp [Value.oneCell']) (by omega) (by unfold maxLen; omega) ?_)
                intro g gc w1 hown hp
                have HT1 := Lib.hid (HT.out.pushU hown hp)
                clear hown hp
                go_wp2_with (at_builtin; refine wpList_push w1 rfl _ _ 25 rfl 3 i0 _ 1 8 Try.underlying25 hi hz0 hz1 hz2 rfl (by omega) u5 F.length (F.map (Value.int .i64)) rfl HT1.out.of _ _ _ rfl rfl rfl (by simp [Value.oneCell']) (by omega) (by unfold maxLen; omega) ?_)
                intro g2 gc2 w2 hown hp
                have HT2 := Lib.hid (HT1.out.pushF hown hp)
                clear hown hp
                go_wp2
                go_roundw
                case rel => exact ⟨j + 1, by omega, by go_num, by show Three _ _ _ _ _ _ _ _; rw [HF1.out, HU1.out, if_pos HE1.out, HL1.out, if_pos HE1.out, List.append_nil]; exact HT2.out⟩
                case measure => simp [intOf]; omega
              · have h1 : ((j : Int) % 2 == 0) = false := by simp; omega
                have e1 : isUp xs.length j = false := by simp [isUp]; omega
                have HEV := Lib.hid hev
                have HE1 := Lib.hid e1
                clear hev e1
                go_wp2_with (at_builtin; refine wpList_push wr rfl _ _ 25 rfl 3 i0 _ 1 8 Try.underlying25 hi hz0 hz1 hz2 rfl (by omega) u7 V.length (V.map (Value.int .i64)) rfl HT.out.ol _ _ _ rfl rfl rfl (by simp [Value.oneCell']) (by omega) (by unfold maxLen; omega) ?_)
                intro g gc w1 hown hp
                have HT1 := Lib.hid (HT.out.pushL hown hp)
                clear hown hp
                go_wp2_with (at_builtin; refine wpList_push w1 rfl _ _ 25 rfl 3 i0 _ 1 8 Try.underlying25 hi hz0 hz1 hz2 rfl (by omega) u5 F.length (F.map (Value.int .i64)) rfl HT1.out.of _ _ _ rfl rfl rfl (by simp [Value.oneCell']) (by omega) (by unfold maxLen; omega) ?_)
                intro g2 gc2 w2 hown hp
                have HT2 := Lib.hid (HT1.out.pushF hown hp)
                clear hown hp
                go_wp2
                go_roundw
                case rel => exact ⟨j + 1, by omega, by go_num, by show Three _ _ _ _ _ _ _ _; rw [HF1.out, HU1.out, HE1.out, if_neg Bool.false_ne_true, List.append_nil, HL1.out, HE1.out, if_neg Bool.false_ne_true]; exact HT2.out⟩
                case measure => simp [intOf]; omega
            · have h2 : 2 * ((xs.length : Int) / 2) ≤ (j : Int) := by omega
              have e1 : isUp xs.length j = false := by simp [isUp]; omega
              have HE1 := Lib.hid e1
              clear e1
              go_wp2_with (at_builtin; refine wpList_push wr rfl _ _ 25 rfl 3 i0 _ 1 8 Try.underlying25 hi hz0 hz1 hz2 rfl (by omega) u7 V.length (V.map (Value.int .i64)) rfl HT.out.ol _ _ _ rfl rfl rfl (by simp [Value.oneCell']) (by omega) (by unfold maxLen; omega) ?_)
              intro g gc w1 hown hp
              have HT1 := Lib.hid (HT.out.pushL hown hp)
              clear hown hp
              go_wp2_with (at_builtin; refine wpList_push w1 rfl _ _ 25 rfl 3 i0 _ 1 8 Try.underlying25 hi hz0 hz1 hz2 rfl (by omega) u5 F.length (F.map (Value.int .i64)) rfl HT1.out.of _ _ _ rfl rfl rfl (by simp [Value.oneCell']) (by omega) (by unfold maxLen; omega) ?_)
              intro g2 gc2 w2 hown hp
              have HT2 := Lib.hid (HT1.out.pushF hown hp)
              clear hown hp
              go_wp2
              go_roundw
              case rel => exact ⟨j + 1, by omega, by go_num, by show Three _ _ _ _ _ _ _ _; rw [HF1.out, HU1.out, HE1.out, if_neg Bool.false_ne_true, List.append_nil, HL1.out, HE1.out, if_neg Bool.false_ne_true]; exact HT2.out⟩
              case measure => simp [intOf]; omega
          · have hjn : j = xs.length := by omega
            subst hjn
            have ht : Three w wr u5 u6 u7 xs (upper xs) (lower xs) := by
              have h := HT.out
              rw [List.take_length] at h
              exact h
            clear HT
            obtain ⟨af, cf, rfl, _⟩ := own_form ht.of
            obtain ⟨au, cu, rfl, _⟩ := own_form ht.ou
            obtain ⟨al, cl, rfl, _⟩ := own_form ht.ol
            have HT := Lib.hid ht
            clear ht
            go_wp2
            obtain ⟨wo, rfl⟩ : ∃ wo : World, wo = wr := ⟨_, rfl⟩
            obtain ⟨fg, haf⟩ : ∃ fg, af = some ⟨fg, 0, none⟩ := by
              rcases own_form HT.out.of with ⟨a, c, e, h | ⟨g, h, _⟩⟩
              · omega
              · simp only [Value.slice.injEq] at e; exact ⟨g, by rw [e.1]; exact h⟩
            subst haf
            obtain ⟨j0, hj0, hj0'⟩ : ∃ j0 : Int, j0 = 0 ∧ j0 = 0 := ⟨0, rfl, rfl⟩
            clear hj0 hj0'
            obtain ⟨ig, hig, gz0, gz1, gz2⟩ := info_parts infoGate
            obtain ⟨k, hk⟩ : ∃ k : Nat, k = xs.length / 2 := ⟨_, rfl⟩
            have hkx : k ≤ 4096 := by omega
            have hkk : ((xs.length : Int) / 2) = (k : Int) := by omega
            have HK := Lib.hid hk
            rw [hkk]
            clear hk hkk
            go_loopw [10, 11] (fun v i wq => ∃ j : Nat, j ≤ k ∧ i = .int .i64 j ∧ Hid (Four w wq v (pairs j xs) (.slice (some ⟨fg, 0, none⟩) xs.length cf) (.slice au (upper xs).length cu) (.slice al (lower xs).length cl) xs (upper xs) (lower xs))) (fun _ i _ => k - (intOf i).toNat)
            case atStart => exact ⟨0, Nat.zero_le _, rfl, ⟨World.ownsRow_nil _ _ _ _, HT.out, Apart.nil_left _, Apart.nil_left _, Apart.nil_left _, fun q h => by simp [Value.ownBlock] at h⟩⟩
            case round =>
              obtain ⟨j, hj, rfl, HF⟩ := hrel
              clear HT
              by_cases hjk : j < k
              · have hk2 := HK.out
                have hx1 := HF.out.t.of.cellAt (2 * j) (by omega)
                have hx2 := HF.out.t.of.cellAt (2 * j + 1) (by omega)
                have e1 : (xs.map (Value.int .i64))[2 * j]? = some (.int .i64 (xs.getD (2 * j) 0)) := by simp [List.getD, List.getElem?_eq_getElem (show 2 * j < xs.length by omega)]
                have e2 : (xs.map (Value.int .i64))[2 * j + 1]? = some (.int .i64 (xs.getD (2 * j + 1) 0)) := by simp [List.getD, List.getElem?_eq_getElem (show 2 * j + 1 < xs.length by omega)]
                rw [e1] at hx1
                rw [e2] at hx2
                have hp := pairs_succ j xs
                have hlp : (pairs j xs).length ≤ 4096 := by simp [pairs]; omega
                have b1 : 2 * j < xs.length := by omega
                have b2 : 2 * j + 1 < xs.length := by omega
                have b3 : (2 : Int) * (j : Int) < (xs.length : Int) := by omega
                have b4 : (2 : Int) * (j : Int) + 1 < (xs.length : Int) := by omega
                have HP := Lib.hid hp
                clear hp e1 e2 hk2
                generalize xs.getD (2 * j) 0 = x at *
                generalize xs.getD (2 * j + 1) 0 = y at *
                generalize hPJ : pairs j xs = G at *
                have HPJ := Lib.hid hPJ
                clear hPJ
                have hji : (j : Int) < (k : Int) := by omega
                go_wp2_with fail
                refine wp_region_flat (fun w' => ∃ E : But wr u10.ownBlock, w' = E.w) [(0, true), (1, true), (2, true), (3, true), (4, true), (5, true), (6, true), (7, true), (8, true), (9, true), (10, true), (11, true), (12, true), (13, false), (14, false), (15, true)] (by kernel_rfl) (by kernel_rfl) (fun _ _ d _ _ h => by cases d <;> exact h) (but_of (grownBy_drew (grownBy_refl _ _))) ?_
                have hfg : fg < wr.heap.size := (HF.out.t.of.lt fg (by simp [Value.ownBlock])).2
                have hov := fun (E : But wr u10.ownBlock) o => E.cell (b := fg) o hfg (fun e => HF.out.vf fg e (by simp [Value.ownBlock]))
                repeat (refine flat_q rfl rfl ?_; go_big_quiet_step (fail); refine wpQuiet_nil ?_)
                refine flat_a rfl (fun K hK => ?_)
                go_simp
                refine hK _ _ ⟨but_of (grownBy_drew (grownBy_alloc' (grownBy_refl _ _) _)), ?_⟩
                clear hK K
                refine flat_a rfl (fun K hK => ?_)
                refine step_push wr.drew rfl _ _ 29 rfl 33 ig _ 2 16 Try.underlying29 hig gz0 gz1 gz2 rfl (by omega) u10 G.length (flat G) rfl HF.out.own _ _ _ rfl rfl rfl (by simp [Value.oneCell']) (by omega) (by unfold maxLen; omega) ?_
                intro g gc w1 hown hp
                have hp' : Pushed wr w1 u10 g := hp.of_drew
                have HF1 := Lib.hid (HF.out.push (hs := [(x, y)]) (by simp) (by simp [flat]) hown hp')
                refine hK _ _ ⟨but_of hp'.grown, ?_⟩
                clear hK K hown hp hp' hov
                simp only [Act.put, List.setIfInBounds_toArray, List.set_cons_zero, List.set_cons_succ]
                refine flat_q rfl rfl ?_
                go_big_quiet_step (fail)
                refine wpQuiet_nil ?_
                refine flat_end ?_
                rw [← HP.out] at HF1
                go_wp2
                go_roundw
                case rel => first | exact ⟨j + 1, by omega, by go_num, HF1⟩ | ((repeat apply Exists.intro); exact ⟨⟨j + 1, by omega, by go_num, HF1⟩, rfl⟩)
                case measure => simp [intOf]; omega
              · have hjn : j = k := by omega
                subst hjn
                go_wp2_with fail
                refine (HIH.out (upper xs) (by have := upper_length xs; omega) au cu wr (Sl.of_own HF.out.t.ou) (by have := upper_length xs; omega) (by have := gates_parts xs hgt; omega)).mono ?_
                rintro e w3 ⟨mu, rfl, hmu, hb3⟩
                have HF3 := Lib.hid (HF.out.below hb3)
                have HMU := Lib.hid hmu
                clear hmu hb3
                have hle3 : (pairs j xs).length ≤ 4096 := by simp [pairs]; omega
                have hle4 : (gatesL (upper xs)).length ≤ 1000000 := by have := gates_parts xs hgt; omega
                go_wp2_with (at_builtin; refine wpList_join w3 rfl _ _ 29 rfl 33 ig _ 2 16 Try.underlying29 hig gz0 gz1 gz2 rfl (by omega) u10 (pairs j xs).length (flat (pairs j xs)) rfl HF3.out.own mu (gatesL (upper xs)).length (flat (gatesL (upper xs))) rfl HMU.out.own (flat_one _) (by omega) (by unfold maxLen; omega) ?_)
                intro v4 w4 hown hp
                have HF4 := Lib.hid (HF3.out.join hown hp)
                clear hown hp HF3 HMU HF
                go_wp2_with fail
                refine (HIH.out (lower xs) (by have := lower_length xs; omega) al cl w4 (Sl.of_own HF4.out.t.ol) (by have := lower_length xs; omega) (by have := gates_parts xs hgt; omega)).mono ?_
                rintro e w5 ⟨mu, rfl, hmu, hb5⟩
                have HF5 := Lib.hid (HF4.out.below hb5)
                have HMU := Lib.hid hmu
                clear hmu hb5 HF4
                have hle5 : (pairs j xs ++ gatesL (upper xs)).length ≤ 1004096 := by rw [List.length_append]; omega
                have hle6 : (gatesL (lower xs)).length ≤ 1000000 := by have := gates_parts xs hgt; omega
                generalize hG5 : pairs j xs ++ gatesL (upper xs) = G5 at *
                have HG5 := Lib.hid hG5
                clear hG5
                go_wp2_with (at_builtin; refine wpList_join w5 rfl _ _ 29 rfl 33 ig _ 2 16 Try.underlying29 hig gz0 gz1 gz2 rfl (by omega) v4 G5.length (flat G5) rfl HF5.out.own mu (gatesL (lower xs)).length (flat (gatesL (lower xs))) rfl HMU.out.own (flat_one _) (by omega) (by unfold maxLen; omega) ?_)
                intro v6 w6 hown hp
                have HF6 := Lib.hid (HF5.out.join hown hp)
                clear hown hp HF5 HMU
                have hle7 : (G5 ++ gatesL (lower xs)).length ≤ 3000000 := by rw [List.length_append]; omega
                generalize hG7 : G5 ++ gatesL (lower xs) = G7 at *
                have HG7 := Lib.hid hG7
                clear hG7
                obtain ⟨m, hm⟩ : ∃ m : Nat, m = lastRow xs.length := ⟨_, rfl⟩
                have hm2 := hm
                unfold lastRow at hm2
                have hmx : m ≤ 4096 := by omega
                have hk2 := HK.out
                have HM := Lib.hid hm
                by_cases hev : xs.length % 2 = 0
                · have e1 : ((xs.length : Int) % 2 == 0) = true := by simp; omega
                  have e3 : ((j : Int) - 1) = (m : Int) := by omega
                  clear hm hm2 hk2 hev
                  go_wp2_with fail
                  clear e3
                  have hm2x : 2 * m ≤ xs.length := by have := HM.out; unfold lastRow at this; omega
                  go_loopw [10, 13] (fun v i wq => ∃ q : Nat, q ≤ m ∧ i = .int .i64 q ∧ Hid (Four w wq v (G7 ++ pairs q xs) (.slice (some ⟨fg, 0, none⟩) xs.length cf) (.slice au (upper xs).length cu) (.slice al (lower xs).length cl) xs (upper xs) (lower xs))) (fun _ i _ => m - (intOf i).toNat)
                  case atStart =>
                    refine ⟨0, Nat.zero_le _, rfl, ?_⟩
                    have h := HF6.out
                    show Four _ _ _ _ _ _ _ _ _ _
                    simpa [pairs] using h
                  case round =>
                    obtain ⟨q, hq, rfl, HF⟩ := hrel
                    clear HF6
                    by_cases hqm : q < m
                    · have hx1 := HF.out.t.of.cellAt (2 * q) (by omega)
                      have hx2 := HF.out.t.of.cellAt (2 * q + 1) (by omega)
                      have e1' : (xs.map (Value.int .i64))[2 * q]? = some (.int .i64 (xs.getD (2 * q) 0)) := by simp [List.getD, List.getElem?_eq_getElem (show 2 * q < xs.length by omega)]
                      have e2' : (xs.map (Value.int .i64))[2 * q + 1]? = some (.int .i64 (xs.getD (2 * q + 1) 0)) := by simp [List.getD, List.getElem?_eq_getElem (show 2 * q + 1 < xs.length by omega)]
                      rw [e1'] at hx1
                      rw [e2'] at hx2
                      have hp := pairs_succ q xs
                      have hlp : (G7 ++ pairs q xs).length ≤ 3004096 := by rw [List.length_append]; simp [pairs]; omega
                      have b1 : 2 * q < xs.length := by omega
                      have b2 : 2 * q + 1 < xs.length := by omega
                      have b3 : (2 : Int) * (q : Int) < (xs.length : Int) := by omega
                      have b4 : (2 : Int) * (q : Int) + 1 < (xs.length : Int) := by omega
                      have hp2 : G7 ++ pairs (q + 1) xs = (G7 ++ pairs q xs) ++ [(xs.getD (2 * q) 0, xs.getD (2 * q + 1) 0)] := by rw [hp, List.append_assoc]
                      have HP := Lib.hid hp2
                      clear hp hp2 e1' e2'
                      generalize xs.getD (2 * q) 0 = x at *
                      generalize xs.getD (2 * q + 1) 0 = y at *
                      generalize hPJ : G7 ++ pairs q xs = G at *
                      clear hPJ
                      have hji : (q : Int) < (m : Int) := by omega
                      go_wp2_with fail
                      refine wp_region_flat (fun w' => ∃ E : But wr u10.ownBlock, w' = E.w) [(0, true), (1, true), (2, true), (3, true), (4, true), (5, true), (6, true), (7, true), (8, true), (9, true), (10, true), (11, true), (12, true), (13, false), (14, false), (15, true)] (by kernel_rfl) (by kernel_rfl) (fun _ _ d _ _ h => by cases d <;> exact h) (but_of (grownBy_drew (grownBy_refl _ _))) ?_
                      have hfg : fg < wr.heap.size := (HF.out.t.of.lt fg (by simp [Value.ownBlock])).2
                      have hov := fun (E : But wr u10.ownBlock) o => E.cell (b := fg) o hfg (fun e => HF.out.vf fg e (by simp [Value.ownBlock]))
                      repeat (refine flat_q rfl rfl ?_; go_big_quiet_step (fail); refine wpQuiet_nil ?_)
                      refine flat_a rfl (fun K hK => ?_)
                      go_simp
                      refine hK _ _ ⟨but_of (grownBy_drew (grownBy_alloc' (grownBy_refl _ _) _)), ?_⟩
                      clear hK K
                      refine flat_a rfl (fun K hK => ?_)
                      refine step_push wr.drew rfl _ _ 29 rfl 33 ig _ 2 16 Try.underlying29 hig gz0 gz1 gz2 rfl (by omega) u10 G.length (flat G) rfl HF.out.own _ _ _ rfl rfl rfl (by simp [Value.oneCell']) (by omega) (by unfold maxLen; omega) ?_
                      intro g gc w1 hown hp
                      have hp' : Pushed wr w1 u10 g := hp.of_drew
                      have HF1 := Lib.hid (HF.out.push (hs := [(x, y)]) (by simp) (by simp [flat]) hown hp')
                      refine hK _ _ ⟨but_of hp'.grown, ?_⟩
                      clear hK K hown hp hp' hov
                      simp only [Act.put, List.setIfInBounds_toArray, List.set_cons_zero, List.set_cons_succ]
                      refine flat_q rfl rfl ?_
                      go_big_quiet_step (fail)
                      refine wpQuiet_nil ?_
                      refine flat_end ?_
                      rw [← HP.out] at HF1
                      go_wp2
                      go_roundw
                      case rel => first | exact ⟨q + 1, by omega, by go_num, HF1⟩ | ((repeat apply Exists.intro); exact ⟨⟨q + 1, by omega, by go_num, HF1⟩, rfl⟩)
                      case measure => simp [intOf]; omega
                    · have hqn : q = m := by omega
                      subst hqn
                      go_wp2
                      go_ret
                      refine ⟨_, rfl, ⟨?_, HF.out.nv⟩, HF.out.t.bl⟩
                      have h := HF.out.own
                      rw [← HG7.out, ← HG5.out] at h
                      rw [gatesL_more xs hgt, ← HM.out, ← HK.out]
                      exact h
                · have e1 : ((xs.length : Int) % 2 == 0) = false := by simp; omega
                  have e3 : m = j := by omega
                  have e2 : 2 * m < xs.length := by omega
                  clear hm hm2 hk2 hev
                  subst e3
                  go_wp2_with fail
                  have hm2x : 2 * m ≤ xs.length := by have := HM.out; unfold lastRow at this; omega
                  go_loopw [10, 13] (fun v i wq => ∃ q : Nat, q ≤ m ∧ i = .int .i64 q ∧ Hid (Four w wq v (G7 ++ pairs q xs) (.slice (some ⟨fg, 0, none⟩) xs.length cf) (.slice au (upper xs).length cu) (.slice al (lower xs).length cl) xs (upper xs) (lower xs))) (fun _ i _ => m - (intOf i).toNat)
                  case atStart =>
                    refine ⟨0, Nat.zero_le _, rfl, ?_⟩
                    have h := HF6.out
                    show Four _ _ _ _ _ _ _ _ _ _
                    simpa [pairs] using h
                  case round =>
                    obtain ⟨q, hq, rfl, HF⟩ := hrel
                    clear HF6
                    by_cases hqm : q < m
                    · have hx1 := HF.out.t.of.cellAt (2 * q) (by omega)
                      have hx2 := HF.out.t.of.cellAt (2 * q + 1) (by omega)
                      have e1' : (xs.map (Value.int .i64))[2 * q]? = some (.int .i64 (xs.getD (2 * q) 0)) := by simp [List.getD, List.getElem?_eq_getElem (show 2 * q < xs.length by omega)]
                      have e2' : (xs.map (Value.int .i64))[2 * q + 1]? = some (.int .i64 (xs.getD (2 * q + 1) 0)) := by simp [List.getD, List.getElem?_eq_getElem (show 2 * q + 1 < xs.length by omega)]
                      rw [e1'] at hx1
                      rw [e2'] at hx2
                      have hp := pairs_succ q xs
                      have hlp : (G7 ++ pairs q xs).length ≤ 3004096 := by rw [List.length_append]; simp [pairs]; omega
                      have b1 : 2 * q < xs.length := by omega
                      have b2 : 2 * q + 1 < xs.length := by omega
                      have b3 : (2 : Int) * (q : Int) < (xs.length : Int) := by omega
                      have b4 : (2 : Int) * (q : Int) + 1 < (xs.length : Int) := by omega
                      have hp2 : G7 ++ pairs (q + 1) xs = (G7 ++ pairs q xs) ++ [(xs.getD (2 * q) 0, xs.getD (2 * q + 1) 0)] := by rw [hp, List.append_assoc]
                      have HP := Lib.hid hp2
                      clear hp hp2 e1' e2'
                      generalize xs.getD (2 * q) 0 = x at *
                      generalize xs.getD (2 * q + 1) 0 = y at *
                      generalize hPJ : G7 ++ pairs q xs = G at *
                      clear hPJ
                      have hji : (q : Int) < (m : Int) := by omega
                      go_wp2_with fail
                      refine wp_region_flat (fun w' => ∃ E : But wr u10.ownBlock, w' = E.w) [(0, true), (1, true), (2, true), (3, true), (4, true), (5, true), (6, true), (7, true), (8, true), (9, true), (10, true), (11, true), (12, true), (13, false), (14, false), (15, true)] (by kernel_rfl) (by kernel_rfl) (fun _ _ d _ _ h => by cases d <;> exact h) (but_of (grownBy_drew (grownBy_refl _ _))) ?_
                      have hfg : fg < wr.heap.size := (HF.out.t.of.lt fg (by simp [Value.ownBlock])).2
                      have hov := fun (E : But wr u10.ownBlock) o => E.cell (b := fg) o hfg (fun e => HF.out.vf fg e (by simp [Value.ownBlock]))
                      repeat (refine flat_q rfl rfl ?_; go_big_quiet_step (fail); refine wpQuiet_nil ?_)
                      refine flat_a rfl (fun K hK => ?_)
                      go_simp
                      refine hK _ _ ⟨but_of (grownBy_drew (grownBy_alloc' (grownBy_refl _ _) _)), ?_⟩
                      clear hK K
                      refine flat_a rfl (fun K hK => ?_)
                      refine step_push wr.drew rfl _ _ 29 rfl 33 ig _ 2 16 Try.underlying29 hig gz0 gz1 gz2 rfl (by omega) u10 G.length (flat G) rfl HF.out.own _ _ _ rfl rfl rfl (by simp [Value.oneCell']) (by omega) (by unfold maxLen; omega) ?_
                      intro g gc w1 hown hp
                      have hp' : Pushed wr w1 u10 g := hp.of_drew
                      have HF1 := Lib.hid (HF.out.push (hs := [(x, y)]) (by simp) (by simp [flat]) hown hp')
                      refine hK _ _ ⟨but_of hp'.grown, ?_⟩
                      clear hK K hown hp hp' hov
                      simp only [Act.put, List.setIfInBounds_toArray, List.set_cons_zero, List.set_cons_succ]
                      refine flat_q rfl rfl ?_
                      go_big_quiet_step (fail)
                      refine wpQuiet_nil ?_
                      refine flat_end ?_
                      rw [← HP.out] at HF1
                      go_wp2
                      go_roundw
                      case rel => first | exact ⟨q + 1, by omega, by go_num, HF1⟩ | ((repeat apply Exists.intro); exact ⟨⟨q + 1, by omega, by go_num, HF1⟩, rfl⟩)
                      case measure => simp [intOf]; omega
                    · have hqn : q = m := by omega
                      subst hqn
                      go_wp2
                      go_ret
                      refine ⟨_, rfl, ⟨?_, HF.out.nv⟩, HF.out.t.bl⟩
                      have h := HF.out.own
                      rw [← HG7.out, ← HG5.out] at h
                      rw [gatesL_more xs hgt, ← HM.out, ← HK.out]
                      exact h

theorem refPlan_bad (n : Int) (w : World) (hn : ¬ (1 ≤ n ∧ n ≤ 256)) : Calls Try.prog 14 #[.int .i64 n] w fun e w' => e = .returned (.tuple #[.slice none 0 0, .int .i64 4]) ∧ w = w' := by
  by_cases h1 : n < 1
  · go_enter Try.func14, Try.ntmps14
    go_wp2
    go_ret2
    exact ⟨rfl, rfl⟩
  · have h2 : 256 < n := by omega
    clear hn
    go_enter Try.func14, Try.ntmps14
    go_wp2
    go_ret2
    exact ⟨rfl, rfl⟩

theorem refPlan_ok (n : Nat) (w : World) (h1 : 1 ≤ n) (h2 : n ≤ 256) : Calls Try.prog 14 #[.int .i64 n] w (PlanPost2 w n) := by
  have h3 : ¬ (n : Int) < 1 := by omega
  have h4 : ¬ (256 : Int) < (n : Int) := by omega
  have hle := gates_le n h2
  have HL := Lib.hid hle
  clear hle
  go_enter Try.func14, Try.ntmps14
  go_wp2_with fail
  refine (refUpTo_any n w (by omega)).mono ?_
  rintro e w1 ⟨u, rfl, hm, hb1⟩
  obtain ⟨au, cu, rfl, _⟩ := own_form hm.own
  have HM := Lib.hid hm
  clear hm
  go_wp2_with fail
  refine (refGates_any n (iota n) (by rw [iota_length]; exact Nat.le_refl _) au cu w1 (Sl.of_own HM.out.own) (by rw [iota_length]; omega) (by have := HL.out; omega)).mono ?_
  rintro e w2 ⟨u, rfl, hg, hb2⟩
  have fin : PlanPost2 w n (.returned (.tuple #[u, .int .i64 0])) w2 := ⟨u, rfl, ⟨hg.own, fun q hq => Nat.le_trans hb1.size (hg.new_ q hq)⟩, below_up hb1 hb2⟩
  clear hg hb1 hb2
  go_wp2_with fail
  go_ret2
  exact fin

end Go.Proofs.Ytbjhcpchljjmhaa

/- Run, the program's and the document's. No condition. -/
namespace Go.Proofs.Ytbjhcpchljjmhaa
open Go.RowKit

theorem good_at {n : Nat} {gs : List (Int × Int)} (h : GoodGates n gs) (j : Nat) (hj : j < gs.length) : ∃ p q : Nat, gs[j] = ((p : Int), (q : Int)) ∧ p < q ∧ q < n := by
  obtain ⟨h1, h2, h3⟩ := h gs[j] (List.getElem_mem hj)
  refine ⟨gs[j].1.toNat, gs[j].2.toNat, ?_, by omega, by omega⟩
  rw [Int.toNat_of_nonneg h1, Int.toNat_of_nonneg (by omega)]

theorem flat_at (gs : List (Int × Int)) : ∀ j (hj : j < gs.length), (flat gs)[j * 2]? = some (.int .i64 gs[j].1) ∧ (flat gs)[j * 2 + 1]? = some (.int .i64 gs[j].2) := by
  induction gs with
  | nil => intro j hj; simp at hj
  | cons g gs ih =>
    intro j hj
    cases j with
    | zero => simp [flat]
    | succ j =>
      have h := ih j (by simpa using hj)
      have e : flat (g :: gs) = .int .i64 g.1 :: .int .i64 g.2 :: flat gs := by simp [flat]
      rw [e, show (j + 1) * 2 = j * 2 + 2 by omega]
      simpa using h

/-- The answer of Run: the rows, or what is wrong. -/
def RunPost (w : World) (n : Int) (bs : List Bool) (e : Ending) (w' : World) : Prop :=
  ∃ u, Below w.heap.size w w' ∧
    (if 1 ≤ n ∧ n ≤ 256 then
      if bs.length = (gatesL (iota n.toNat)).length then e = .returned (.tuple #[u, .int .i64 0]) ∧ Made w w' u (runTo (gatesL (iota n.toNat)) bs (iota n.toNat) bs.length)
      else e = .returned (.tuple #[.slice none 0 0, .int .i64 2])
    else e = .returned (.tuple #[.slice none 0 0, .int .i64 4]))

set_option maxHeartbeats 1000000 in
theorem Run_bad (n : Int) (ca : Option Addr) (len ccap : Nat) (w : World) (hn : ¬ (1 ≤ n ∧ n ≤ 256)) : Calls Try.prog 15 #[.int .i64 n, .slice ca len ccap] w fun e w' => e = .returned (.tuple #[.slice none 0 0, .int .i64 4]) ∧ w = w' := by
  go_enter Try.func15, Try.ntmps15
  go_wp2_with (go_at_call 11; refine (Plan_bad n w hn).mono ?_; rintro e w1 ⟨rfl, rfl⟩)
  go_ret2
  exact ⟨rfl, rfl⟩

set_option maxHeartbeats 1000000 in
theorem Run_form (n : Nat) (ca : Option Addr) (len ccap : Nat) (w : World) (h1 : 1 ≤ n) (h2 : n ≤ 256) (hl : len ≠ (gatesL (iota n)).length) :
    Calls Try.prog 15 #[.int .i64 n, .slice ca len ccap] w fun e w' => e = .returned (.tuple #[.slice none 0 0, .int .i64 2]) ∧ Below w.heap.size w w' := by
  go_enter Try.func15, Try.ntmps15
  go_wp2_with fail
  refine (Plan_ok n w h1 h2).mono ?_
  rintro e w1 ⟨u, rfl, hm, hb1⟩
  obtain ⟨au, cu, rfl, _⟩ := own_form hm.own
  have hne : ((len : Int) != ((gatesL (iota n)).length : Int)) = true := by simp; omega
  clear hm
  go_wp2_with fail
  go_ret2
  exact ⟨rfl, hb1⟩

set_option maxHeartbeats 2000000 in
theorem Run_ok (n : Nat) (ca : Option Addr) (bs : List Bool) (ccap : Nat) (w : World) (h1 : 1 ≤ n) (h2 : n ≤ 256) (hl : bs.length = (gatesL (iota n)).length) (hs : Sl w w.heap.size ca (bs.map Value.bool)) :
    Calls Try.prog 15 #[.int .i64 n, .slice ca bs.length ccap] w (RunPost w n bs) := by
  have hle := gates_le n h2
  have hgood := plan_good n
  have HGOOD : Hid (GoodGates n (gatesL (iota n))) := hgood
  have HS := Lib.hid hs
  have fin : Hid (∀ u w', Below w.heap.size w w' → Made w w' u (runTo (gatesL (iota n)) bs (iota n) bs.length) → RunPost w n bs (.returned (.tuple #[u, .int .i64 0])) w') := by
    intro u w' hb hm
    refine ⟨u, hb, ?_⟩
    rw [if_pos ⟨by omega, by omega⟩, if_pos (by simpa using hl)]
    exact ⟨rfl, by simpa using hm⟩
  clear hgood hs
  go_enter Try.func15, Try.ntmps15
  go_wp2_with fail
  refine (Plan_ok n w h1 h2).mono ?_
  rintro e w1 ⟨u, rfl, hm, hb1⟩
  obtain ⟨au, cu, rfl, hau⟩ := own_form hm.own
  have hne : ((bs.length : Int) != ((gatesL (iota n)).length : Int)) = false := by simp [hl]
  have HM := Lib.hid hm
  have HB1 := Lib.hid hb1
  have HAU := Lib.hid hau
  have HL := Lib.hid hl
  clear hm hb1 hau hl
  go_wp2_with fail
  refine (wires_any n w1 (by omega)).mono ?_
  rintro e w2 ⟨o, rfl, hmo, hb2⟩
  obtain ⟨ao, co, rfl, hao⟩ := own_form hmo.own
  obtain ⟨ob, rfl, hob⟩ : ∃ ob, ao = some ⟨ob, 0, none⟩ ∧ ob < w2.heap.size := by
    rcases hao with h | h
    · rw [iota_length] at h; omega
    · exact h
  have HMO := Lib.hid hmo
  have HB2 := Lib.hid (below_up HB1.out hb2)
  have HGB := Lib.hid hb2
  have hobn := hmo.new_ ob (by simp [Value.ownBlock])
  have hz1 := HB1.out.size
  have hz2 := hb2.size
  clear hmo hb2 hao
  generalize hGL : gatesL (iota n) = GL at *
  have HGL := Lib.hid hGL
  clear hGL
  go_wp2_with fail
  go_loopw [30] (fun i wr => ∃ j : Nat, j ≤ GL.length ∧ i = .int .i64 j ∧ Hid (wr.ownsRow 0 3 1 (.slice (some ⟨ob, 0, none⟩) (iota n).length co) (iota n).length ((runTo GL bs (iota n) j).map (Value.int .i64))) ∧ Hid (Below w1.heap.size w1 wr)) (fun i _ => GL.length - (intOf i).toNat)
  case atStart => exact ⟨0, Nat.zero_le _, rfl, HMO.out.own, HGB.out⟩
  case round =>
    obtain ⟨j, hj, rfl, HO, HN⟩ := hrel
    clear HMO HB2 HGB
    by_cases hjl : j < GL.length
    · have hlb := HL.out
      obtain ⟨g, rfl, hg⟩ : ∃ g, au = some ⟨g, 0, none⟩ ∧ g < w1.heap.size := by
        rcases HAU.out with h | h
        · omega
        · exact h
      obtain ⟨cb, off, rfl, hcb, hcell⟩ := (HS.out.below (HB1.out.trans (HN.out.mono hz1))).at j (by simp; omega)
      have hbj : bs[j] = bs.getD j false := by simp [List.getD, List.getElem?_eq_getElem (show j < bs.length by omega)]
      rw [List.getElem_map, hbj] at hcell
      clear hbj
      obtain ⟨p, q, hpq, hlt, hqn⟩ := good_at HGOOD.out j hjl
      have hx := HM.out.own.cellAt (j * 2) (by omega)
      have hy := HM.out.own.cellAt (j * 2 + 1) (by omega)
      obtain ⟨f1, f2⟩ := flat_at GL j hjl
      rw [f1, hpq] at hx
      rw [f2, hpq] at hy
      rw [← HN.out.cell (p := ⟨g, j * 2, none⟩) hg] at hx
      rw [← HN.out.cell (p := ⟨g, j * 2 + 1, none⟩) hg] at hy
      have hzr := HN.out.size
      have hgr : g < wr.heap.size := by omega
      have hcr : cb < wr.heap.size := by omega
      have hil := iota_length n
      have hrl := runTo_length GL bs (iota n) j
      have ha := HO.out.cellAt p (by omega)
      have hb := HO.out.cellAt q (by omega)
      have hfa := HO.out.frozenAt p
      have hfb := HO.out.frozenAt q
      have hobr := (HO.out.lt ob (by simp [Value.ownBlock])).2
      have e1 : ∀ i, i < n → ((runTo GL bs (iota n) j).map (Value.int .i64))[i]? = some (.int .i64 ((runTo GL bs (iota n) j).getD i 0)) := by
        intro i hi; simp [List.getD, List.getElem?_eq_getElem (show i < (runTo GL bs (iota n) j).length by omega)]
      rw [e1 p (by omega)] at ha
      rw [e1 q hqn] at hb
      have hst : runTo GL bs (iota n) (j + 1) = if bs.getD j false then swapI (runTo GL bs (iota n) j) p q else runTo GL bs (iota n) j := by
        rw [runTo]
        have e4 : GL.getD j (0, 0) = ((p : Int), (q : Int)) := by simp [List.getD, hjl, hpq]
        rw [e4]; rfl
      have HST := Lib.hid hst
      have HIL := Lib.hid hil
      have HRL := Lib.hid hrl
      have hjb : j < bs.length := by omega
      have hiln : (iota n).length ≤ 256 := by omega
      have hpl : (p : Int) < ((iota n).length : Int) := by omega
      have hql : (q : Int) < ((iota n).length : Int) := by omega
      have hpl' : p < (iota n).length := by omega
      have hql' : q < (iota n).length := by omega
      clear f1 f2 hst e1 hil hrl hpq hlb
      simp only at hx hy
      generalize hR : runTo GL bs (iota n) j = R at *
      generalize hR1 : runTo GL bs (iota n) (j + 1) = R1 at *
      have HXY : Hid (R.getD p 0 = R.getD p 0 ∧ R.getD q 0 = R.getD q 0) := ⟨rfl, rfl⟩
      generalize hX : R.getD p 0 = x at ha
      generalize hY : R.getD q 0 = y at hb
      clear HXY
      have HXY : Hid (R.getD p 0 = x ∧ R.getD q 0 = y) := ⟨hX, hY⟩
      clear hX hY
      have HR := Lib.hid hR
      have HR1 := Lib.hid hR1
      clear hR hR1
      generalize bs.getD j false = c at hcell HST
      cases c
      · go_wp2_with fail
        go_roundw
        case rel => exact ⟨j + 1, by omega, by go_num, by show World.ownsRow _ _ _ _ _ _ _; rw [HR1.out, HST.out]; exact HO.out.alloc _, HN.out.alloc hzr _⟩
        case measure => simp [intOf]; omega
      · go_wp2_with fail
        go_region
        have HS1 : Hid (((wr.setCell ⟨ob, p, none⟩ (.int .i64 y)).setCell ⟨ob, q, none⟩ (.int .i64 x)).ownsRow 0 3 1 (.slice (some ⟨ob, 0, none⟩) (iota n).length co) (iota n).length (R1.map (Value.int .i64))) := by
          have h := ((HO.out.stored p (.int .i64 y)).1.stored q (.int .i64 x)).1
          have e : swapI R p q = (R.set p y).set q x := by rw [swapI, HXY.out.1, HXY.out.2]
          show World.ownsRow _ _ _ _ _ _ _
          rw [HST.out]
          simp only [↓reduceIte]
          rw [e, List.map_set, List.map_set]
          exact h
        have HN1 : Hid (Below w1.heap.size w1 (((wr.setCell ⟨ob, p, none⟩ (.int .i64 y)).setCell ⟨ob, q, none⟩ (.int .i64 x)).alloc (.cells #[.int .i64 p, .int .i64 q] 33))) :=
          ((HN.out.setCell hobn _).setCell hobn _).alloc (by simp [World.setCell]; omega) _
        clear ha hb hfa hfb
        go_wp2_with fail
        go_roundw
        case rel => exact ⟨j + 1, by omega, by go_num, by show World.ownsRow _ _ _ _ _ _ _; rw [HR1.out]; exact HS1.out.alloc _, HN1.out.drew⟩
        case measure => simp [intOf]; omega
    · have hjn : j = GL.length := by omega
      subst hjn
      have hfin := fin.out (.slice (some ⟨ob, 0, none⟩) (iota n).length co) wr (HB1.out.trans (HN.out.mono hz1)) ⟨by rw [runTo_length, HL.out]; exact HO.out, fun q hq => by simp [Value.ownBlock] at hq; omega⟩
      have HF : Hid (RunPost w n bs _ wr) := hfin
      clear hfin fin HO
      go_wp2_with fail
      go_ret2
      exact HF.out

set_option maxHeartbeats 1000000 in
theorem refRun_bad (n : Int) (ca : Option Addr) (len ccap : Nat) (w : World) (hn : ¬ (1 ≤ n ∧ n ≤ 256)) : Calls Try.prog 16 #[.int .i64 n, .slice ca len ccap] w fun e w' => e = .returned (.tuple #[.slice none 0 0, .int .i64 4]) ∧ w = w' := by
  go_enter Try.func16, Try.ntmps16
  go_wp2_with (go_at_call 14; refine (refPlan_bad n w hn).mono ?_; rintro e w1 ⟨rfl, rfl⟩)
  go_ret2
  exact ⟨rfl, rfl⟩

set_option maxHeartbeats 1000000 in
theorem refRun_form (n : Nat) (ca : Option Addr) (len ccap : Nat) (w : World) (h1 : 1 ≤ n) (h2 : n ≤ 256) (hl : len ≠ (gatesL (iota n)).length) :
    Calls Try.prog 16 #[.int .i64 n, .slice ca len ccap] w fun e w' => e = .returned (.tuple #[.slice none 0 0, .int .i64 2]) ∧ Below w.heap.size w w' := by
  go_enter Try.func16, Try.ntmps16
  go_wp2_with fail
  refine (refPlan_ok n w h1 h2).mono ?_
  rintro e w1 ⟨u, rfl, hm, hb1⟩
  obtain ⟨au, cu, rfl, _⟩ := own_form hm.own
  have hne : (((gatesL (iota n)).length : Int) != (len : Int)) = true := by simp; omega
  clear hm
  go_wp2_with fail
  go_ret2
  exact ⟨rfl, hb1⟩

set_option maxHeartbeats 2000000 in
theorem refRun_ok (n : Nat) (ca : Option Addr) (bs : List Bool) (ccap : Nat) (w : World) (h1 : 1 ≤ n) (h2 : n ≤ 256) (hl : bs.length = (gatesL (iota n)).length) (hs : Sl w w.heap.size ca (bs.map Value.bool)) :
    Calls Try.prog 16 #[.int .i64 n, .slice ca bs.length ccap] w (RunPost w n bs) := by
  have hle := gates_le n h2
  have hgood := plan_good n
  have HGOOD : Hid (GoodGates n (gatesL (iota n))) := hgood
  have HS := Lib.hid hs
  have fin : Hid (∀ u w', Below w.heap.size w w' → Made w w' u (runTo (gatesL (iota n)) bs (iota n) bs.length) → RunPost w n bs (.returned (.tuple #[u, .int .i64 0])) w') := by
    intro u w' hb hm
    refine ⟨u, hb, ?_⟩
    rw [if_pos ⟨by omega, by omega⟩, if_pos (by simpa using hl)]
    exact ⟨rfl, by simpa using hm⟩
  clear hgood hs
  go_enter Try.func16, Try.ntmps16
  go_wp2_with fail
  refine (refPlan_ok n w h1 h2).mono ?_
  rintro e w1 ⟨u, rfl, hm, hb1⟩
  obtain ⟨au, cu, rfl, hau⟩ := own_form hm.own
  have hne : (((gatesL (iota n)).length : Int) != (bs.length : Int)) = false := by simp [hl]
  have HM := Lib.hid hm
  have HB1 := Lib.hid hb1
  have HAU := Lib.hid hau
  have HL := Lib.hid hl
  clear hm hb1 hau hl
  go_wp2_with fail
  refine (refUpTo_any n w1 (by omega)).mono ?_
  rintro e w2 ⟨o, rfl, hmo, hb2⟩
  obtain ⟨ao, co, rfl, hao⟩ := own_form hmo.own
  obtain ⟨ob, rfl, hob⟩ : ∃ ob, ao = some ⟨ob, 0, none⟩ ∧ ob < w2.heap.size := by
    rcases hao with h | h
    · rw [iota_length] at h; omega
    · exact h
  have HMO := Lib.hid hmo
  have HB2 := Lib.hid (below_up HB1.out hb2)
  have HGB := Lib.hid hb2
  have hobn := hmo.new_ ob (by simp [Value.ownBlock])
  have hz1 := HB1.out.size
  have hz2 := hb2.size
  clear hmo hb2 hao
  generalize hGL : gatesL (iota n) = GL at *
  have HGL := Lib.hid hGL
  clear hGL
  go_wp2_with fail
  go_loopw [30] (fun i wr => ∃ j : Nat, j ≤ GL.length ∧ i = .int .i64 j ∧ Hid (wr.ownsRow 0 3 1 (.slice (some ⟨ob, 0, none⟩) (iota n).length co) (iota n).length ((runTo GL bs (iota n) j).map (Value.int .i64))) ∧ Hid (Below w1.heap.size w1 wr)) (fun i _ => GL.length - (intOf i).toNat)
  case atStart => exact ⟨0, Nat.zero_le _, rfl, HMO.out.own, HGB.out⟩
  case round =>
    obtain ⟨j, hj, rfl, HO, HN⟩ := hrel
    clear HMO HB2 HGB
    by_cases hjl : j < GL.length
    · have hlb := HL.out
      obtain ⟨g, rfl, hg⟩ : ∃ g, au = some ⟨g, 0, none⟩ ∧ g < w1.heap.size := by
        rcases HAU.out with h | h
        · omega
        · exact h
      obtain ⟨cb, off, rfl, hcb, hcell⟩ := (HS.out.below (HB1.out.trans (HN.out.mono hz1))).at j (by simp; omega)
      have hbj : bs[j] = bs.getD j false := by simp [List.getD, List.getElem?_eq_getElem (show j < bs.length by omega)]
      rw [List.getElem_map, hbj] at hcell
      clear hbj
      obtain ⟨p, q, hpq, hlt, hqn⟩ := good_at HGOOD.out j hjl
      have hx := HM.out.own.cellAt (j * 2) (by omega)
      have hy := HM.out.own.cellAt (j * 2 + 1) (by omega)
      obtain ⟨f1, f2⟩ := flat_at GL j hjl
      rw [f1, hpq] at hx
      rw [f2, hpq] at hy
      rw [← HN.out.cell (p := ⟨g, j * 2, none⟩) hg] at hx
      rw [← HN.out.cell (p := ⟨g, j * 2 + 1, none⟩) hg] at hy
      have hzr := HN.out.size
      have hgr : g < wr.heap.size := by omega
      have hcr : cb < wr.heap.size := by omega
      have hil := iota_length n
      have hrl := runTo_length GL bs (iota n) j
      have ha := HO.out.cellAt p (by omega)
      have hb := HO.out.cellAt q (by omega)
      have hfa := HO.out.frozenAt p
      have hfb := HO.out.frozenAt q
      have hobr := (HO.out.lt ob (by simp [Value.ownBlock])).2
      have e1 : ∀ i, i < n → ((runTo GL bs (iota n) j).map (Value.int .i64))[i]? = some (.int .i64 ((runTo GL bs (iota n) j).getD i 0)) := by
        intro i hi; simp [List.getD, List.getElem?_eq_getElem (show i < (runTo GL bs (iota n) j).length by omega)]
      rw [e1 p (by omega)] at ha
      rw [e1 q hqn] at hb
      have hst : runTo GL bs (iota n) (j + 1) = if bs.getD j false then swapI (runTo GL bs (iota n) j) p q else runTo GL bs (iota n) j := by
        rw [runTo]
        have e4 : GL.getD j (0, 0) = ((p : Int), (q : Int)) := by simp [List.getD, hjl, hpq]
        rw [e4]; rfl
      have HST := Lib.hid hst
      have HIL := Lib.hid hil
      have HRL := Lib.hid hrl
      have hjb : j < bs.length := by omega
      have hiln : (iota n).length ≤ 256 := by omega
      have hpl : (p : Int) < ((iota n).length : Int) := by omega
      have hql : (q : Int) < ((iota n).length : Int) := by omega
      have hpl' : p < (iota n).length := by omega
      have hql' : q < (iota n).length := by omega
      clear f1 f2 hst e1 hil hrl hpq hlb
      simp only at hx hy
      generalize hR : runTo GL bs (iota n) j = R at *
      generalize hR1 : runTo GL bs (iota n) (j + 1) = R1 at *
      have HXY : Hid (R.getD p 0 = R.getD p 0 ∧ R.getD q 0 = R.getD q 0) := ⟨rfl, rfl⟩
      generalize hX : R.getD p 0 = x at ha
      generalize hY : R.getD q 0 = y at hb
      clear HXY
      have HXY : Hid (R.getD p 0 = x ∧ R.getD q 0 = y) := ⟨hX, hY⟩
      clear hX hY
      have HR := Lib.hid hR
      have HR1 := Lib.hid hR1
      clear hR hR1
      generalize bs.getD j false = c at hcell HST
      cases c
      · go_wp2_with fail
        go_roundw
        case rel => exact ⟨j + 1, by omega, by go_num, by show World.ownsRow _ _ _ _ _ _ _; rw [HR1.out, HST.out]; exact HO.out.alloc _, HN.out.alloc hzr _⟩
        case measure => simp [intOf]; omega
      · go_wp2_with fail
        go_quiet (fail)
        have HS1 : Hid (((((wr.alloc (.cells #[.int .i64 p, .int .i64 q] 33)).drewN nq).setCell ⟨ob, p, none⟩ (.int .i64 y)).setCell ⟨ob, q, none⟩ (.int .i64 x)).ownsRow 0 3 1 (.slice (some ⟨ob, 0, none⟩) (iota n).length co) (iota n).length (R1.map (Value.int .i64))) := by
          have h0 : ((wr.alloc (.cells #[.int .i64 p, .int .i64 q] 33)).drewN nq).ownsRow 0 3 1 (.slice (some ⟨ob, 0, none⟩) (iota n).length co) (iota n).length (R.map (Value.int .i64)) := HO.out.alloc _
          have h := ((h0.stored p (.int .i64 y)).1.stored q (.int .i64 x)).1
          have e : swapI R p q = (R.set p y).set q x := by rw [swapI, HXY.out.1, HXY.out.2]
          show World.ownsRow _ _ _ _ _ _ _
          rw [HST.out]
          simp only [↓reduceIte]
          rw [e, List.map_set, List.map_set]
          exact h
        have HN1 : Hid (Below w1.heap.size w1 ((((wr.alloc (.cells #[.int .i64 p, .int .i64 q] 33)).drewN nq).setCell ⟨ob, p, none⟩ (.int .i64 y)).setCell ⟨ob, q, none⟩ (.int .i64 x))) := by
          have h := HN.out.alloc hzr (.cells #[.int .i64 p, .int .i64 q] 33)
          have h1 : Below w1.heap.size w1 ((wr.alloc (.cells #[.int .i64 p, .int .i64 q] 33)).drewN nq) := ⟨h.os, h.tape, h.output, h.size, h.block⟩
          exact (h1.setCell hobn _).setCell hobn _
        go_wp2_with fail
        go_roundw
        case rel => exact ⟨j + 1, by omega, by go_num, by show World.ownsRow _ _ _ _ _ _ _; rw [HR1.out]; exact HS1.out, HN1.out⟩
        case measure => simp [intOf]; omega
    · have hjn : j = GL.length := by omega
      subst hjn
      have hfin := fin.out (.slice (some ⟨ob, 0, none⟩) (iota n).length co) wr (HB1.out.trans (HN.out.mono hz1)) ⟨by rw [runTo_length, HL.out]; exact HO.out, fun q hq => by simp [Value.ownBlock] at hq; omega⟩
      have HF : Hid (RunPost w n bs _ wr) := hfin
      clear hfin fin HO
      go_wp2_with fail
      go_ret2
      exact HF.out

end Go.Proofs.Ytbjhcpchljjmhaa

/- route: the gates for an order. No condition. -/
namespace Go.Proofs.Ytbjhcpchljjmhaa
open Go.RowKit

theorem surj_of_inj : ∀ (n : Nat) (σ : Nat → Nat), (∀ i, i < n → σ i < n) → (∀ i j, i < n → j < n → σ i = σ j → i = j) → ∀ k, k < n → ∃ i, i < n ∧ σ i = k
  | 0, _, _, _, k, hk => by omega
  | n + 1, σ, h1, h2, k, hk => by
    have hm := h1 n (by omega)
    have ih := surj_of_inj n (fun i => if σ i = n then σ n else σ i) (fun i hi => by
        show (if σ i = n then σ n else σ i) < n
        split
        · rename_i h
          rcases Nat.lt_or_ge (σ n) n with h3 | h3
          · exact h3
          · have := h2 i n (by omega) (by omega) (by omega); omega
        · have := h1 i (by omega); omega)
      (fun i j hi hj e => by
        have e' : (if σ i = n then σ n else σ i) = (if σ j = n then σ n else σ j) := e
        by_cases c1 : σ i = n <;> by_cases c2 : σ j = n
        · exact h2 i j (by omega) (by omega) (by omega)
        · rw [if_pos c1, if_neg c2] at e'
          have := h2 n j (by omega) (by omega) e'; omega
        · rw [if_neg c1, if_pos c2] at e'
          have := h2 i n (by omega) (by omega) e'; omega
        · rw [if_neg c1, if_neg c2] at e'
          exact h2 i j (by omega) (by omega) e')
    by_cases hkm : k = σ n
    · exact ⟨n, by omega, hkm.symm⟩
    · rcases Nat.lt_or_ge k n with h3 | h3
      · obtain ⟨i, hi, he⟩ := ih k h3
        have he' : (if σ i = n then σ n else σ i) = k := he
        by_cases c1 : σ i = n
        · rw [if_pos c1] at he'; exact absurd he'.symm hkm
        · rw [if_neg c1] at he'; exact ⟨i, by omega, he'⟩
      · have hkn : k = n := by omega
        have hlt : σ n < n := by omega
        obtain ⟨i, hi, he⟩ := ih (σ n) hlt
        have he' : (if σ i = n then σ n else σ i) = σ n := he
        by_cases c1 : σ i = n
        · exact ⟨i, by omega, by omega⟩
        · rw [if_neg c1] at he'
          have := h2 i n (by omega) (by omega) he'; omega

theorem ord2_of (n : Nat) (σ : Nat → Nat) (h1 : ∀ i, i < n → σ i < n) (h2 : ∀ i j, i < n → j < n → σ i = σ j → i = j) : ∃ τ, Ord2 n σ τ := by
  have h := surj_of_inj n σ h1 h2
  refine ⟨fun k => if hk : k < n then Classical.choose (h k hk) else 0, h1, fun i hi => ?_, fun i hi => ?_, fun i hi => ?_⟩
  · simp only [dif_pos hi]
    exact (Classical.choose_spec (h i hi)).1
  · simp only [dif_pos hi]
    exact (Classical.choose_spec (h i hi)).2
  · simp only [dif_pos (h1 i hi)]
    have := Classical.choose_spec (h (σ i) (h1 i hi))
    exact h2 _ _ this.1 hi this.2

def RoutePost (n : Nat) (σ : Nat → Nat) (w : World) (e : Ending) (w' : World) : Prop := ∃ v bs, e = .returned v ∧ MadeB w w' v bs ∧ Makes n σ bs ∧ Below w.heap.size w w'

theorem MadeB.up {w w' w2 : World} {v : Value} {bs : List Bool} (h : MadeB w w' v bs) (hb : Below w'.heap.size w' w2) : MadeB w w2 v bs :=
  ⟨h.own.kept (below_grown hb) (by cases v.ownBlock <;> simp), h.new_⟩
theorem MadeO.up {w w' w2 : World} {v : Value} {k : Nat} {f : Nat → Nat} (h : MadeO w w' v k f) (hb : Below w'.heap.size w' w2) : MadeO w w2 v k f :=
  ⟨h.own.kept (below_grown hb) (by cases v.ownBlock <;> simp), h.new_⟩

/-- A list of an order, of the call's own, as an argument. -/
theorem MadeO.form {w w' : World} {v : Value} {k : Nat} {f : Nat → Nat} (h : MadeO w w' v k f) (hk : 0 < k) :
    ∃ b c, v = .slice (some ⟨b, 0, none⟩) k c ∧ b < w'.heap.size ∧ ∀ i, i < k → w'.cell? ⟨b, 0 + i, none⟩ = some (iV (f i)) := by
  obtain ⟨a, c, hv, ha⟩ := own_form h.own
  rcases ha with h0 | ⟨g, rfl, hg⟩
  · omega
  · subst hv
    refine ⟨g, c, rfl, hg, fun i hi => ?_⟩
    have := h.own.cellAt i (by omega)
    rw [Nat.zero_add, this]
    simp [ordV, hi]

theorem bitsOf_succ (k : Nat) (b : Nat → Bool) : bitsOf (k + 1) b = bitsOf k b ++ [b k] := by simp [bitsOf, List.range_succ]
theorem bitsOf_length (k : Nat) (b : Nat → Bool) : (bitsOf k b).length = k := by simp [bitsOf]

theorem makes_length {n : Nat} {σ : Nat → Nat} {bs : List Bool} (h : Makes n σ bs) : bs.length = (gatesL (iota n)).length := (h (iota n) (iota_length n)).1

set_option maxRecDepth 100000 in
set_option maxHeartbeats 1000000 in
theorem route_one (σ : Nat → Nat) (ob oo oc : Nat) (h0 : σ 0 = 0) (W : World) : Calls Try.prog 35 #[.slice (some ⟨ob, oo, none⟩) 1 oc] W (RoutePost 1 σ W) := by
  have HF : Hid (RoutePost 1 σ W (.returned (.slice none 0 0)) W) := ⟨_, [], rfl, ⟨World.ownsRow_nil _ _ _ _, fun q h => by simp [Value.ownBlock] at h⟩, makes_one σ h0, Below.refl _ _⟩
  go_enter Try.func35, Try.ntmps35
  go_wp2_with fail
  go_ret
  exact HF.out

set_option maxRecDepth 100000 in
set_option maxHeartbeats 1000000 in
theorem route_two (σ : Nat → Nat) (ob oo oc : Nat) (h0 : σ 0 < 2) (h1 : σ 1 < 2) (hne : σ 0 ≠ σ 1) (W : World) (hc : W.cell? ⟨ob, oo, none⟩ = some (iV (σ 0))) : Calls Try.prog 35 #[.slice (some ⟨ob, oo, none⟩) 2 oc] W (RoutePost 2 σ W) := by
  have HF : Hid (RoutePost 2 σ W (.returned (.slice (some ⟨W.heap.size, 0, none⟩) 1 1)) (W.alloc (.cells #[.bool (decide (σ 0 = 1))] 4))) :=
    ⟨_, [decide (σ 0 = 1)], rfl, ⟨World.ownsRow_lit (base := 0) (e := 4) (size := 1) W #[.bool (decide (σ 0 = 1))] 1 (Nat.zero_le _) (by unfold maxLen; omega) rfl, fun q h => by simp [Value.ownBlock] at h; omega⟩, makes_two σ h0 h1 hne, (Below.refl _ _).alloc (Nat.le_refl _) _⟩
  have hd : ((σ 0 : Int) == 1) = decide (σ 0 = 1) := by
    rw [Bool.eq_iff_iff]
    simp
    omega
  unfold iV at hc
  clear h0 h1 hne
  go_enter Try.func35, Try.ntmps35
  go_wp2_with fail
  go_ret
  exact HF.out

end Go.Proofs.Ytbjhcpchljjmhaa

/- route: the gates for an order, of any length. No condition. -/
namespace Go.Proofs.Ytbjhcpchljjmhaa
open Go.RowKit

/-- A list of bools of the call's own. -/
structure BitsAt (W w : World) (v : Value) (j : Nat) (b : Nat → Bool) : Prop where
  own : w.ownsRow 0 4 1 v j ((bitsOf j b).map Value.bool)
  new_ : ∀ q, v.ownBlock = some q → W.heap.size ≤ q
  b : Below W.heap.size W w

theorem BitsAt.push {W w w1 : World} {v : Value} {j : Nat} {b : Nat → Bool} (h : BitsAt W w v j b) {g c : Nat}
    (hown : w1.ownsRow 0 4 1 (.slice (some ⟨g, 0, none⟩) (j + 1) c) (j + 1) ((bitsOf j b).map Value.bool ++ [.bool (b j)])) (hp : Pushed w w1 v g) : BitsAt W w1 (.slice (some ⟨g, 0, none⟩) (j + 1) c) (j + 1) b :=
  ⟨by rw [bitsOf_succ, List.map_append]; exact hown, hp.from_ h.b.size h.new_, hp.below h.b h.b.size h.new_⟩

theorem BitsAt.made {W w : World} {v : Value} {j : Nat} {b : Nat → Bool} (h : BitsAt W w v j b) : MadeB W w v (bitsOf j b) := ⟨by rw [bitsOf_length]; exact h.own, h.new_⟩

theorem bits_nil (W w : World) (b : Nat → Bool) (hb : Below W.heap.size W w) : BitsAt W w (.slice none 0 0) 0 b := ⟨World.ownsRow_nil _ _ _ _, fun q h => by simp [Value.ownBlock] at h, hb⟩

theorem inner_ords {n : Nat} {σ τ s : Nat → Nat} (ho : Ord2 n σ τ) (hs : Sided n σ s) : (∃ t, Ord2 (n / 2) (upO σ s) t) ∧ ∃ t, Ord2 (n - n / 2) (loO n σ s) t :=
  ⟨ord2_of _ _ (upO_lt ho hs) (upO_inj ho hs), ord2_of _ _ (loO_lt ho) (loO_inj ho hs)⟩


set_option maxRecDepth 100000 in
set_option maxHeartbeats 4000000 in
theorem route_any : ∀ (N n : Nat) (σ τ : Nat → Nat) (ob oo oc : Nat), n ≤ N → n ≤ 256 → 0 < n → Ord2 n σ τ → ∀ W : World, ob < W.heap.size → (∀ i, i < n → W.cell? ⟨ob, oo + i, none⟩ = some (iV (σ i))) →
    Calls Try.prog 35 #[.slice (some ⟨ob, oo, none⟩) n oc] W (RoutePost n σ W) := by
  intro N
  induction N with
  | zero => intro n σ τ ob oo oc hN _ h0; omega
  | succ N IH =>
    intro n σ τ ob oo oc hN h256 hn0 ho W hob hc
    by_cases h1 : n = 1
    · subst h1
      exact route_one σ ob oo oc (by have := ho.s 0 (by omega); omega) W
    by_cases h2 : n = 2
    · subst h2
      exact route_two σ ob oo oc (ho.s 0 (by omega)) (ho.s 1 (by omega)) (fun e => by have := ho.inj (i := 0) (j := 1) (by omega) (by omega) e; omega) W (by have := hc 0 (by omega); simpa using this)
    have h3 : 3 ≤ n := by omega
    obtain ⟨i0, hi, hz0, hz1, hz2⟩ := info_parts infoBool
    have HIH := Lib.hid IH
    have HO := Lib.hid ho
    have HC := Lib.hid hc
    have hd1 : ((n : Int) == 1) = false := by simp; omega
    have hd2 : ((n : Int) == 2) = false := by simp; omega
    have hmo : mo n = 2 * (n / 2) := by unfold mo; omega
    have HMO := Lib.hid hmo
    clear IH ho hc h1 h2 hmo
    go_enter Try.func35, Try.ntmps35
    go_wp2_with fail
    refine (newLoops_any n σ τ ob oo oc h256 HO.out W hob HC.out).mono ?_
    rintro e w1 ⟨lb, wb, sb, rfl, hl1, hb1, hsb⟩
    have HL1 := Lib.hid hl1
    have HB1 := Lib.hid hb1
    clear hl1 hb1
    go_wp2_with fail
    refine (fill_any n σ τ lb ob oo oc wb sb h256 hn0 HO.out w1 HL1.out).mono ?_
    rintro e w2 ⟨rfl, s, hl2, hg2, hs2⟩
    have HL := Lib.hid hl2
    have HS := Lib.hid hs2
    have HB2 : Hid (Below W.heap.size W w2) := ⟨hg2.os.trans HB1.out.os, hg2.tape.trans HB1.out.tape, hg2.output.trans HB1.out.output, Nat.le_trans HB1.out.size hg2.size,
      fun k hk => (hg2.block k (Nat.lt_of_lt_of_le hk HB1.out.size) (fun e => by injection e with e; omega)).trans (HB1.out.block k hk)⟩
    clear hl2 hg2 hs2 HL1 HB1
    go_wp2_with fail
    go_loopw [5, 7] (fun v i wr => ∃ j : Nat, j ≤ n / 2 ∧ i = .int .i64 ((2 * j : Nat) : Int) ∧ Hid (BitsAt w2 wr v j (firstB s))) (fun _ i _ => mo n - (intOf i).toNat)
    case atStart => exact ⟨0, Nat.zero_le _, rfl, bits_nil _ _ _ (Below.refl _ _)⟩
    case round =>
      obtain ⟨j, hj, rfl, HBA⟩ := hrel
      have HLr := Lib.hid (HL.out.up HBA.out.b)
      have hk2 := HLr.out.l2
      have hk3 := HLr.out.l3
      unfold iV at hk3
      by_cases hjl : j < n / 2
      · have hm1 := HMO.out
        have hlt : 2 * (j : Int) < ((mo n : Nat) : Int) := by omega
        have hlt2 : 2 * j < n := by omega
        have hlt3 : 2 * j < mo n := by omega
        have hcs := HLr.out.s (2 * j) (by omega)
        have hfb : firstB s j = decide (s (2 * j) = 2) := rfl
        obtain ⟨x, hx⟩ : ∃ x, s (2 * j) = x := ⟨_, rfl⟩
        rw [hx] at hcs hfb
        unfold iV at hcs
        have hxe : ((x : Int) == 2) = decide (x = 2) := by rw [Bool.eq_iff_iff]; simp; omega
        have hnx : ((2 * j : Nat) : Int) + 2 = ((2 * (j + 1) : Nat) : Int) := by omega
        rw [← hfb] at hxe
        clear hx hm1 hfb
        go_wp2_with (at_builtin; refine wpList_push wr rfl (.tmp 35) _ 41 rfl 4 i0 _ 1 1 Try.underlying41 hi hz0 hz1 hz2 rfl (by omega) u5 j ((bitsOf j (firstB s)).map Value.bool) rfl HBA.out.own _ _ _ rfl rfl rfl (by simp [Value.oneCell']) (by omega) (by unfold maxLen; omega) ?_)
        intro g c w3 hown hp
        have HBA2 := Lib.hid (HBA.out.push (g := g) (c := c) hown hp)
        clear hown hp HBA
        go_wp2_with fail
        go_roundw
        case rel => exact ⟨j + 1, by omega, by first | rfl | rw [hnx], HBA2.out⟩
        case measure => simp [intOf]; omega
      · have hjn : j = n / 2 := by omega
        subst hjn
        have hm1 := HMO.out
        have hge : ¬ 2 * ((n / 2 : Nat) : Int) < ((mo n : Nat) : Int) := by omega
        have hge2 : ¬ 2 * (n / 2) < mo n := by omega
        have hge3 : ¬ 2 * ((n : Int) / 2) < ((mo n : Nat) : Int) := by omega
        clear hm1
        go_wp2_with fail
        obtain ⟨w3, rfl⟩ : ∃ w3 : World, w3 = wr := ⟨_, rfl⟩
        have HL3 := HLr
        clear HLr hk2 hk3 HL
        have HB3 := Lib.hid (below_up HB2.out HBA.out.b)
        go_loopw [6, 8] (fun v i wr => ∃ j : Nat, j ≤ lastRow n ∧ i = .int .i64 ((2 * j : Nat) : Int) ∧ Hid (BitsAt w3 wr v j (lastB σ s))) (fun _ i _ => 2 * lastRow n - (intOf i).toNat)
        case atStart => exact ⟨0, Nat.zero_le _, rfl, bits_nil _ _ _ (Below.refl _ _)⟩
        case round =>
          obtain ⟨j, hj, rfl, HBL⟩ := hrel
          have HLr := Lib.hid (HL3.out.up HBL.out.b)
          have hlr : lastRow n = (n - 1 + n % 2) / 2 := rfl
          have HLR := Lib.hid hlr
          by_cases hjl : j < lastRow n
          · have hlt : 2 * (j : Int) + 1 < (n : Int) - 1 + (n : Int) % 2 := by omega
            have hlt2 : 2 * j < n := by omega
            have hnx : ((2 * j : Nat) : Int) + 2 = ((2 * (j + 1) : Nat) : Int) := by omega
            have hjm : j ≤ 256 := by omega
            clear hlr
            have hk2 := HLr.out.l2
            have hcs := HLr.out.s (σ (2 * j)) (HO.out.s _ hlt2)
            have hco := HLr.out.o (2 * j) hlt2
            have hrn := HO.out.s (2 * j) hlt2
            have hfb : lastB σ s j = decide (s (σ (2 * j)) = 2) := rfl
            obtain ⟨row, hrow⟩ : ∃ row, σ (2 * j) = row := ⟨_, rfl⟩
            rw [hrow] at hcs hco hrn hfb
            obtain ⟨x, hx⟩ : ∃ x, s row = x := ⟨_, rfl⟩
            rw [hx] at hcs hfb
            unfold iV at hcs hco
            have hxe : ((x : Int) == 2) = decide (x = 2) := by rw [Bool.eq_iff_iff]; simp; omega
            rw [← hfb] at hxe
            obtain ⟨l1, l2, l3, l4⟩ := HL3.out.lt
            have hz3 := HBL.out.b.size
            have n1 : u6.ownBlock ≠ some lb := fun e => by have := HBL.out.new_ lb e; omega
            have n2 : u6.ownBlock ≠ some ob := fun e => by have := HBL.out.new_ ob e; omega
            have n4 : u6.ownBlock ≠ some sb := fun e => by have := HBL.out.new_ sb e; omega
            clear hx hfb hrow
            go_wp2_with fail
            refine wp_region_tree (fun w' => ∃ E : But wr u6.ownBlock, w' = E.w) (.qs [0, 1, 2, 3, 4, 5, 6, 7, 8, 9, 10, 11] (.a 12 (.a 13 (.q 14 .done)))) (by kernel_rfl) (by kernel_rfl) (fun _ _ d _ _ h => by cases d <;> exact h) (but_of (grownBy_drew (grownBy_refl _ _))) ?_
            have hov1 := fun (E : But wr u6.ownBlock) o => E.cell (b := lb) o (by omega) n1
            have hov2 := fun (E : But wr u6.ownBlock) o => E.cell (b := ob) o (by omega) n2
            have hov4 := fun (E : But wr u6.ownBlock) o => E.cell (b := sb) o (by omega) n4
            simp only [Tree.qs]
            repeat (refine tree_q rfl rfl ?_; go_big_quiet_step (fail); refine wpQuiet_nil ?_)
            refine tree_a rfl (fun K hK => ?_)
            go_simp
            refine hK _ _ ⟨but_of (grownBy_drew (grownBy_alloc' (grownBy_refl _ _) _)), ?_⟩
            clear hK K
            refine tree_a rfl (fun K hK => ?_)
            refine step_push wr.drew rfl _ _ 41 rfl 4 i0 _ 1 1 Try.underlying41 hi hz0 hz1 hz2 rfl (by omega) u6 j ((bitsOf j (lastB σ s)).map Value.bool) rfl HBL.out.own _ _ _ rfl rfl rfl (by simp [Value.oneCell']) (by omega) (by unfold maxLen; omega) ?_
            intro g c w4 hown hp
            have hp' : Pushed wr w4 u6 g := hp.of_drew
            have HBL2 := Lib.hid (HBL.out.push (g := g) (c := c) hown hp')
            refine hK _ _ ⟨but_of hp'.grown, ?_⟩
            clear hK K hown hp hp' hov1 hov2 hov4 HBL
            simp only [Act.put, List.setIfInBounds_toArray, List.set_cons_zero, List.set_cons_succ]
            refine tree_q rfl rfl ?_
            go_big_quiet_step (fail)
            refine wpQuiet_nil ?_
            refine tree_end ?_
            go_wp2_with fail
            go_roundw
            case rel => exact ⟨j + 1, by omega, by first | rfl | rw [hnx], HBL2.out⟩
            case measure => simp [intOf]; omega
          · have hjn : j = lastRow n := by omega
            have hge : ¬ 2 * (j : Int) + 1 < (n : Int) - 1 + (n : Int) % 2 := by omega
            have hge2 : (n : Int) - 1 + (n : Int) % 2 ≤ 2 * (j : Int) + 1 := by omega
            have hjm : j ≤ 256 := by omega
            have HJN := Lib.hid hjn
            clear hjn
            obtain ⟨a5, c5, rfl, _⟩ := own_form HBA.out.own
            obtain ⟨a6, c6, rfl, _⟩ := own_form HBL.out.own
            obtain ⟨w4, rfl⟩ : ∃ w4 : World, w4 = wr := ⟨_, rfl⟩
            have HB4 := Lib.hid (below_up HB3.out HBL.out.b)
            clear hlr
            go_wp2_with fail
            refine (inner_any n σ τ s lb ob oo oc wb sb h256 hn0 HO.out HS.out w4 HLr.out).mono ?_
            rintro e w5 ⟨u, l, rfl, hu, hl, hb5⟩
            obtain ⟨ub, uc, rfl, hub, hucell⟩ := hu.form (by omega)
            obtain ⟨vb, vc, rfl, hvb, hvcell⟩ := hl.form (by omega)
            obtain ⟨⟨t1, ho1⟩, t2, ho2⟩ := inner_ords HO.out HS.out
            have HU := Lib.hid hucell
            have HV := Lib.hid hvcell
            have HO1 := Lib.hid ho1
            have HO2 := Lib.hid ho2
            have HB5 := Lib.hid hb5
            clear hucell hvcell ho1 ho2 hb5 hu hl
            go_wp2_with fail
            refine (HIH.out (n / 2) (upO σ s) t1 ub 0 uc (by omega) (by omega) (by omega) HO1.out w5 hub HU.out).mono ?_
            rintro e w6 ⟨vU, bU, rfl, hmU, hkU, hb6⟩
            have HB6 := Lib.hid hb6
            have HMU := Lib.hid hmU
            have HKU := Lib.hid hkU
            obtain ⟨aU, cU, rfl, _⟩ := own_form hmU.own
            clear hmU hkU hb6
            go_wp2_with fail
            refine (HIH.out (n - n / 2) (loO n σ s) t2 vb 0 vc (by omega) (by omega) (by omega) HO2.out w6 (by have := HB6.out.size; omega) (fun i hi => by rw [HB6.out.cell (p := ⟨vb, 0 + i, none⟩) hvb]; exact HV.out i hi)).mono ?_
            rintro e w7 ⟨vL, bL, rfl, hmL, hkL, hb7⟩
            have HB7 := Lib.hid hb7
            have HML := Lib.hid hmL
            have HKL := Lib.hid hkL
            obtain ⟨aL, cL, rfl, _⟩ := own_form hmL.own
            clear hmL hkL hb7
            go_wp2_with fail
            have hb8 : Below w7.heap.size w7 (w7.alloc (.cells #[.slice a5 (n / 2) c5, .slice aU bU.length cU, .slice aL bL.length cL, .slice a6 j c6] 41)) := (Below.refl _ _).alloc (Nat.le_refl _) _
            have HB8 := Lib.hid hb8
            have h5 : MadeB w2 _ (.slice a5 (n / 2) c5) (bitsOf (n / 2) (firstB s)) := ((((HBA.out.made.up HBL.out.b).up HB5.out).up HB6.out).up HB7.out).up hb8
            have h6 : MadeB w3 _ (.slice a6 j c6) (bitsOf j (lastB σ s)) := (((HBL.out.made.up HB5.out).up HB6.out).up HB7.out).up hb8
            have hU := (HMU.out.up HB7.out).up hb8
            have hL := HML.out.up hb8
            have hblk : (w7.alloc (.cells #[.slice a5 (n / 2) c5, .slice aU bU.length cU, .slice aL bL.length cL, .slice a6 j c6] 41)).heap[w7.heap.size]? = some (.cells #[.slice a5 (n / 2) c5, .slice aU bU.length cU, .slice aL bL.length cL, .slice a6 j c6] 41 (0, 0)) := heap_alloc_new w7 _
            have hfour : FourB (w7.alloc (.cells #[.slice a5 (n / 2) c5, .slice aU bU.length cU, .slice aL bL.length cL, .slice a6 j c6] 41)) w7.heap.size (fun i => #[.slice a5 (n / 2) c5, .slice aU bU.length cU, .slice aL bL.length cL, .slice a6 j c6].getD i undef) [bitsOf (n / 2) (firstB s), bU, bL, bitsOf j (lastB σ s)] := by
              refine ⟨by simp, fun i hi => ?_, rfl, fun i hi => ?_⟩
              · simp only [World.cell?, hblk]
                obtain rfl | rfl | rfl | rfl : i = 0 ∨ i = 1 ∨ i = 2 ∨ i = 3 := by omega
                all_goals rfl
              · have hi4 : i < 4 := hi
                obtain rfl | rfl | rfl | rfl : i = 0 ∨ i = 1 ∨ i = 2 ∨ i = 3 := by omega
                · exact h5.own
                · exact hU.own
                · exact hL.own
                · exact h6.own
            have hmk : Makes n σ (bitsOf (n / 2) (firstB s) ++ bU ++ bL ++ bitsOf j (lastB σ s)) := by
              rw [HJN.out]
              exact makes_more h3 HO.out HS.out bU bL HKU.out HKL.out
            have hfl : [bitsOf (n / 2) (firstB s), bU, bL, bitsOf j (lastB σ s)].flatten = bitsOf (n / 2) (firstB s) ++ bU ++ bL ++ bitsOf j (lastB σ s) := by simp
            have hln := makes_length hmk
            have hgl := gates_le n h256
            have hfb := bitsOf_length (n / 2) (firstB s)
            have hcat := concat_any w7.heap.size _ _ _ hfour (by rw [hfl]; simp only [List.length_append]; omega) (by rw [hfl, hln]; omega)
            rw [hfl] at hcat
            have HCAT := Lib.hid hcat
            have HMK := Lib.hid hmk
            have HB9 := Lib.hid (below_up (below_up (below_up (below_up HB4.out HB5.out) HB6.out) HB7.out) HB8.out)
            clear hcat hmk hfl hln hgl hfb hfour hblk hL hU h6 h5 hb8
            refine HCAT.out.mono ?_
            rintro e w9 ⟨v, rfl, hm9, hb9⟩
            have HF : Hid (RoutePost n σ W (.returned v) w9) := ⟨v, _, rfl, ⟨hm9.own, fun q hq => by have := hm9.new_ q hq; have := HB9.out.size; omega⟩, HMK.out, below_up HB9.out hb9⟩
            clear hm9 hb9
            go_wp2_with fail
            go_ret
            exact HF.out

end Go.Proofs.Ytbjhcpchljjmhaa

/- Route of any list. No condition. -/
namespace Go.Proofs.Ytbjhcpchljjmhaa
open Go.RowKit

/-- Are the first j of a list rows of an order of n? -/
def okO (n : Nat) (xs : List Int) : Nat → Bool
  | 0 => true
  | j + 1 => okO n xs j && decide (0 ≤ xs.getD j 0) && decide (xs.getD j 0 < (n : Int)) && !decide (xs.getD j 0 ∈ xs.take j)

theorem okO_false {n : Nat} {xs : List Int} {j : Nat} (h : okO n xs j = false) : ∀ k, j ≤ k → okO n xs k = false
  | 0, hk => by have : j = 0 := by omega
                subst this; exact h
  | k + 1, hk => by
    rcases Nat.lt_or_ge k j with h1 | h1
    · have : j = k + 1 := by omega
      subst this; exact h
    · rw [okO, okO_false h k h1]; rfl

theorem okO_at {n : Nat} {xs : List Int} : ∀ {j : Nat}, okO n xs j = true → ∀ i, i < j → 0 ≤ xs.getD i 0 ∧ xs.getD i 0 < (n : Int) ∧ xs.getD i 0 ∉ xs.take i
  | 0, _, i, hi => by omega
  | j + 1, h, i, hi => by
    rw [okO] at h
    simp only [Bool.and_eq_true, decide_eq_true_eq, Bool.not_eq_true', decide_eq_false_iff_not] at h
    rcases Nat.lt_or_ge i j with h1 | h1
    · exact okO_at h.1.1.1 i h1
    · have : i = j := by omega
      subst this
      exact ⟨h.1.1.2, h.1.2, h.2⟩

theorem okO_ord {xs : List Int} (h : okO xs.length xs xs.length = true) : ∃ τ, Ord2 xs.length (fun i => (xs.getD i 0).toNat) τ := by
  refine ord2_of _ _ (fun i hi => ?_) (fun i j hi hj e => ?_)
  · have := okO_at h i hi
    show (xs.getD i 0).toNat < _
    omega
  · have h1 := okO_at h i hi
    have h2 := okO_at h j hj
    have e' : (xs.getD i 0).toNat = (xs.getD j 0).toNat := e
    have e2 : xs.getD i 0 = xs.getD j 0 := by omega
    have mem : ∀ a b, a < b → b < xs.length → xs.getD a 0 ∈ xs.take b := fun a b hab hb => by
      have h3 : a < (xs.take b).length := by simp; omega
      have h4 : (xs.take b)[a] = xs.getD a 0 := by simp [List.getD, show a < xs.length by omega]
      rw [← h4]
      exact List.getElem_mem h3
    rcases Nat.lt_trichotomy i j with h3 | h3 | h3
    · exact absurd (e2 ▸ mem i j h3 hj) h2.2.2
    · exact h3
    · exact absurd (e2 ▸ mem j i h3 hi) h1.2.2

/-- Which rows have been met. -/
def metL (n : Nat) (l : List Int) : List Value := (List.range n).map fun (k : Nat) => .bool (decide ((k : Int) ∈ l))
theorem metL_nil (n : Nat) : metL n [] = List.replicate n (.bool false) := by
  apply List.ext_getElem
  · simp [metL]
  · intro i h1 h2; simp [metL]
theorem metL_set (n : Nat) (l : List Int) (k : Nat) (_hk : k < n) : (metL n l).set k (.bool true) = metL n (l ++ [(k : Int)]) := by
  apply List.ext_getElem
  · simp [metL]
  · intro i h1 h2
    simp only [metL, List.getElem_set, List.getElem_map, List.getElem_range, List.mem_append, List.mem_singleton]
    by_cases e : k = i
    · subst e; simp
    · rw [if_neg e]
      have : (i : Int) ≠ (k : Int) := by omega
      simp [this]

def RouteBad (W : World) (c : Int) (e : Ending) (W' : World) : Prop := e = .returned (.tuple #[.slice none 0 0, .int .i64 c]) ∧ Below W.heap.size W W'
def RouteGood (W : World) (xs : List Int) (e : Ending) (W' : World) : Prop :=
  ∃ v bs, e = .returned (.tuple #[v, .int .i64 0]) ∧ MadeB W W' v bs ∧ Makes xs.length (fun i => (xs.getD i 0).toNat) bs ∧ Below W.heap.size W W'
def RouteAns (W : World) (xs : List Int) (e : Ending) (W' : World) : Prop :=
  (okO xs.length xs xs.length = true → RouteGood W xs e W') ∧ (okO xs.length xs xs.length = false → RouteBad W 2 e W')

set_option maxRecDepth 100000 in
set_option maxHeartbeats 400000 in
theorem Route_range (xs : List Int) (a : Option Addr) (c : Nat) (hr : ¬ (1 ≤ xs.length ∧ xs.length ≤ 256)) (W : World) :
    Calls Try.prog 18 #[.slice a xs.length c] W (RouteBad W 4) := by
  have HB : Hid (decide (1 ≤ (xs.length : Int) ∧ (xs.length : Int) ≤ 256) = false) := by show _ = _; simp; omega
  clear hr
  go_enter Try.func18, Try.ntmps18
  go_wp2_with (go_at_call 25; refine (good_any (xs.length : Int) false _ HB.out).mono ?_; rintro e w1 ⟨rfl, rfl⟩)
  go_ret2
  exact ⟨rfl, Below.refl _ _⟩

set_option maxRecDepth 100000 in
set_option maxHeartbeats 2000000 in
theorem Route_any (xs : List Int) (a : Option Addr) (c : Nat) (h1 : 1 ≤ xs.length) (h256 : xs.length ≤ 256) (W : World) (hs : Sl W W.heap.size a (xs.map (Value.int .i64))) :
    Calls Try.prog 18 #[.slice a xs.length c] W (RouteAns W xs) := by
  have HB : Hid (decide (1 ≤ (xs.length : Int) ∧ (xs.length : Int) ≤ 256) = true) := by show _ = _; simp; omega
  have HS := Lib.hid hs
  clear hs
  obtain ⟨i0, hi, hz0, hz1, hz2⟩ := info_parts infoBool
  go_enter Try.func18, Try.ntmps18
  go_wp2_with (first
    | (go_at_call 25; refine (good_any (xs.length : Int) true _ HB.out).mono ?_; rintro e w1 ⟨rfl, rfl⟩)
    | (at_make; refine wpList_make_full _ rfl _ _ 41 rfl 0 4 i0 (.bool false) 1 Try.underlying41 hi hz0 hz1 _ _ _ _ xs.length rfl rfl ?c1 ?c2 ?c3 ?c4 ?c5 ?_))
  case c1 => rfl
  case c2 => rfl
  case c3 => rw [hz2]; omega
  case c4 => unfold maxLen; omega
  case c5 => omega
  intro w1 hown hgrow
  have hb1 : Below W.heap.size W w1 := (Below.refl _ _).grown hgrow (Nat.le_refl _) (by simp)
  have hml : (madeCells #[Value.bool false] xs.length).toList = metL xs.length (xs.take 0) := by
    rw [List.take_zero, metL_nil]
    apply List.ext_getElem
    · simp [madeCells]
    · intro i h1 h2; simp [madeCells, Nat.mod_one]
  have hown0 : w1.ownsRow 0 4 1 (.slice (some ⟨W.heap.size, 0, none⟩) xs.length xs.length) xs.length (metL xs.length (xs.take 0)) := by rw [← hml]; exact hown
  have HN := Lib.hid hown0
  have HB1 := Lib.hid hb1
  clear hown hgrow hml hown0 hb1
  obtain ⟨sb, hsb⟩ : ∃ sb, W.heap.size = sb := ⟨_, rfl⟩
  rw [hsb] at HN
  have HSB : Hid (W.heap.size ≤ sb) := by show _ ≤ _; omega
  rw [hsb]
  clear hsb
  go_wp2_with fail
  go_loopw [6, 16] (fun _ i wr => ∃ j : Nat, j ≤ xs.length ∧ i = .int .i64 (j : Int) ∧ Hid (okO xs.length xs j = true) ∧ Hid (Below W.heap.size W wr) ∧ Hid (wr.ownsRow 0 4 1 (.slice (some ⟨sb, 0, none⟩) xs.length xs.length) xs.length (metL xs.length (xs.take j)))) (fun _ i _ => xs.length - (intOf i).toNat)
  case atStart => exact ⟨0, Nat.zero_le _, rfl, rfl, HB1.out, HN.out⟩
  case round =>
    clear HN HB1
    obtain ⟨j, hj, rfl, HOK, HB1, HN⟩ := hrel
    by_cases hjl : j < xs.length
    · obtain ⟨bb, off, rfl, hbb, hcell⟩ := (HS.out.below HB1.out).at j (by simpa using hjl)
      rw [List.getElem_map] at hcell
      have hg : xs.getD j 0 = xs[j] := by simp [List.getD, hjl]
      have hok : okO xs.length xs (j + 1) = (okO xs.length xs j && decide (0 ≤ xs.getD j 0) && decide (xs.getD j 0 < (xs.length : Int)) && !decide (xs.getD j 0 ∈ xs.take j)) := rfl
      have htk : xs.take (j + 1) = xs.take j ++ [xs[j]] := List.take_succ_eq_append_getElem hjl
      rw [hg, HOK.out, Bool.true_and] at hok
      have hsz := HB1.out.size
      have hbr : bb < wr.heap.size := by omega
      generalize xs[j] = x at *
      have HO := Lib.hid hok
      have HTK := Lib.hid htk
      have HG := Lib.hid hg
      clear hok htk hg
      have HBAD : Hid (okO xs.length xs (j + 1) = false → RouteAns W xs (.returned (.tuple #[.slice none 0 0, .int .i64 2])) wr) := fun h =>
        ⟨(fun h9 => by rw [okO_false h _ (by omega)] at h9; cases h9), fun _ => ⟨rfl, HB1.out⟩⟩
      by_cases hx0 : x < 0
      · have HF := Lib.hid (HBAD.out (by rw [HO.out]; simp; omega))
        clear HBAD
        go_wp2_with fail
        go_ret2
        exact HF.out
      · have hd0 : decide (x < 0) = false := decide_eq_false hx0
        by_cases hxn : x < (xs.length : Int)
        · have hd1 : decide (x ≥ (xs.length : Int)) = false := decide_eq_false (by omega)
          obtain ⟨k, rfl⟩ : ∃ k : Nat, x = k := ⟨x.toNat, by omega⟩
          have hkn : k < xs.length := by omega
          have hck := HN.out.cellAt k (by omega)
          have hfk := HN.out.frozenAt k
          have hmk : (metL xs.length (xs.take j))[k]? = some (.bool (decide ((k : Int) ∈ xs.take j))) := by simp [metL, hkn]
          rw [hmk] at hck
          have hsbl := (HN.out.lt sb (by simp [Value.ownBlock])).2
          obtain ⟨m, hm⟩ : ∃ m, decide ((k : Int) ∈ xs.take j) = m := ⟨_, rfl⟩
          rw [hm] at hck
          rw [hm] at HO
          have HMK := Lib.hid hm
          clear hmk hm
          cases m with
          | true =>
            have HF := Lib.hid (HBAD.out (by rw [HO.out]; simp))
            clear HBAD
            go_wp2_with fail
            go_ret2
            exact HF.out
          | false =>
            have HOK2 : Hid (okO xs.length xs (j + 1) = true) := by show _ = _; rw [HO.out]; simp; omega
            have HN2 : Hid ((wr.setCell ⟨sb, k, none⟩ (.bool true)).ownsRow 0 4 1 (.slice (some ⟨sb, 0, none⟩) xs.length xs.length) xs.length (metL xs.length (xs.take (j + 1)))) := by
              show World.ownsRow _ _ _ _ _ _ _
              rw [HTK.out, ← metL_set _ _ _ hkn]
              exact (HN.out.stored k (.bool true)).1
            have HB2 : Hid (Below W.heap.size W (wr.setCell ⟨sb, k, none⟩ (.bool true))) := HB1.out.setCell HSB.out _
            clear HBAD
            go_wp2_with fail
            go_roundw
            case rel => exact ⟨j + 1, by omega, by go_num, HOK2.out, HB2.out, HN2.out⟩
            case measure => simp [intOf]; omega
        · have hd1 : decide (x ≥ (xs.length : Int)) = true := decide_eq_true (by omega)
          have HF := Lib.hid (HBAD.out (by rw [HO.out]; simp [hxn]))
          clear HBAD
          go_wp2_with fail
          go_ret2
          exact HF.out
    · have hjn : j = xs.length := by omega
      subst hjn
      obtain ⟨t, ht⟩ := okO_ord HOK.out
      obtain ⟨bb, off, rfl, hbb, _⟩ := HS.out.at 0 (by simp; omega)
      have hcells : ∀ i, i < xs.length → wr.cell? ⟨bb, off + i, none⟩ = some (iV (xs.getD i 0).toNat) := fun i hi => by
        obtain ⟨b9, o9, e9, _, hc9⟩ := (HS.out.below HB1.out).at i (by simpa using hi)
        cases e9
        rw [hc9, List.getElem_map]
        have h3 := (okO_at HOK.out i hi).1
        have h4 : xs.getD i 0 = xs[i] := by simp [List.getD, hi]
        unfold iV
        rw [h4] at h3 ⊢
        congr 2
        omega
      have HC := Lib.hid hcells
      have HT := Lib.hid ht
      clear hcells ht
      go_wp2_with fail
      refine (route_any xs.length xs.length (fun i => (xs.getD i 0).toNat) t bb off c (Nat.le_refl _) h256 (by omega) HT.out wr (by have := HB1.out.size; omega) HC.out).mono ?_
      rintro e w2 ⟨v, bs, rfl, hm, hk, hb2⟩
      have HF : Hid (RouteAns W xs (.returned (.tuple #[v, .int .i64 0])) w2) :=
        ⟨fun _ => ⟨v, bs, rfl, ⟨hm.own, fun q hq => by have := hm.new_ q hq; have := HB1.out.size; omega⟩, hk, below_up HB1.out hb2⟩, (fun h9 => by rw [HOK.out] at h9; cases h9)⟩
      clear hm hk hb2
      go_wp2_with fail
      go_ret2
      exact HF.out

end Go.Proofs.Ytbjhcpchljjmhaa

/- What every law's row wants: two closed facts, and small words for opening arguments. -/
namespace Go.Proofs.Ytbjhcpchljjmhaa
open Go.ChangeShapes Go.WideShapes Go.ChangeAt Go.RowKit

theorem law_own : ownKnob Try.prog.godebug = none := by kernel_rfl
theorem law_laidOut : laidOutB Try.prog = true := by kernel_rfl

section
variable {H : Type} {enc : TypeId × Value → H} {P : Program} {w : World}

theorem add_plain (b off i : Nat) : (⟨b, off, none⟩ : Addr).add i = ⟨b, off + i, none⟩ := by unfold Addr.add; split <;> simp_all

/-- An argument that is a slice of integers: its numbers, and that it reads. -/
theorem open_Sl_ints {k : IntKind} {t e : TypeId} {a : Option Addr} {len cap : Nat} {d : DataW H} {p : List MemPlace} (ht : P.underlying t = some (.slice e)) (he : P.underlying e = some (.int k)) (hc : P.cellsOf e = 1)
    (h : DataW.Trod enc P w 0 (fun _ => true) true t (.slice a len cap) d p) (hlt : ∀ x ∈ p, x.block < w.heap.size) :
    ∃ xs : List Int, len = xs.length ∧ Sl w w.heap.size a (xs.map (Value.int k)) ∧ (∀ x ∈ xs, (Lit.int k x).wf = true) ∧ ((len = 0) ∨ ∃ zs : List Int, len ≤ zs.length ∧ d = .slice (lits k (zs.take len)) (lits k (zs.drop len))) := by
  obtain ⟨fuel, hf⟩ := h
  rcases open_ints ht he hc hf with ⟨hcs, _⟩ | ⟨x, l, c, zs, hcs, _, hl, hm, hz, hx, hcell, hwz⟩
  · simp [Value.cells] at hcs
    obtain ⟨rfl, rfl, rfl⟩ := hcs
    exact ⟨[], rfl, Or.inl rfl, by simp, Or.inl rfl⟩
  · simp [Value.cells] at hcs
    obtain ⟨rfl, rfl, rfl⟩ := hcs
    simp only [Prod.mk.injEq] at hx
    obtain ⟨hd, rfl⟩ := hx
    simp only [if_true] at hz
    by_cases h0 : len = 0
    · subst h0
      exact ⟨[], rfl, Or.inl rfl, by simp, Or.inl rfl⟩
    · obtain ⟨b, off, spot⟩ := x
      have hspot : spot = none := by simpa [Addr.add] using World.cell?_spot (hcell 0 (by omega))
      subst hspot
      have hbW : b < w.heap.size := hlt (.cell b off) (MemPlace.mem_row.2 ⟨0, by omega, by simp⟩)
      refine ⟨zs.take len, by rw [List.length_take]; omega, Or.inr ⟨b, off, rfl, hbW, ?_⟩, fun x hx => hwz x (List.mem_of_mem_take hx), Or.inr ⟨zs, by omega, hd⟩⟩
      intro i v hv
      have hi : i < len := by
        have := (List.getElem?_eq_some_iff.1 hv).1
        simp at this; omega
      have := hcell i (by omega)
      rw [add_plain] at this
      rw [this, ← hv]
      simp [List.getD, hi, List.getElem?_eq_getElem (show i < zs.length by omega)]

/-- An argument that is a slice of one-cell elements of any kind: its cells, each with its own reading. -/
theorem open_Sl_any {t e : TypeId} {a : Option Addr} {len cap : Nat} {d : DataW H} {p : List MemPlace} (ht : P.underlying t = some (.slice e)) (hc : P.cellsOf e = 1)
    (h : DataW.Trod enc P w 0 (fun _ => true) true t (.slice a len cap) d p) (hlt : ∀ x ∈ p, x.block < w.heap.size) :
    ∃ cs : List Value, len = cs.length ∧ Sl w w.heap.size a cs ∧
      ((len = 0) ∨ ∃ (n : Nat) (ys rest : List (DataW H × List MemPlace)), d = .slice (ys.map (·.1)) (rest.map (·.1)) ∧ ys.length = len ∧ (∀ y ∈ ys, ∀ q ∈ y.2, q ∈ p) ∧
        ∀ (i : Nat) (c : Value), cs[i]? = some c → ∃ y, ys[i]? = some y ∧ DataW.trod enc P w 0 (fun _ => true) true n e [c] = some y) := by
  obtain ⟨fuel, hf⟩ := h
  rcases DataW.trod_slice ht hf with ⟨hcs, _⟩ | ⟨x, l, c, elems, rest, n, _, hcs, hx, hb, hl, hm, hlen, hel, _, _⟩
  · simp [Value.cells] at hcs
    obtain ⟨rfl, rfl, rfl⟩ := hcs
    exact ⟨[], rfl, Or.inl rfl, Or.inl rfl⟩
  · simp [Value.cells] at hcs
    obtain ⟨rfl, rfl, rfl⟩ := hcs
    simp only [Prod.mk.injEq] at hx
    obtain ⟨hd, rfl⟩ := hx
    by_cases h0 : len = 0
    · subst h0
      exact ⟨[], rfl, Or.inl rfl, Or.inl rfl⟩
    have each : ∀ i, i < len → ∃ c y, w.cell? (x.add i) = some c ∧ elems[i]? = some y ∧ DataW.trod enc P w 0 (fun _ => true) true n e [c] = some y := by
      intro i hi
      have h1 := hel i hi
      rw [hc, Nat.mul_one] at h1
      have h2 : elems[i]? = some (elems[i]'(by omega)) := List.getElem?_eq_getElem (by omega)
      rw [h2, Option.bind_eq_some_iff] at h1
      obtain ⟨cs', hcs', hy⟩ := h1
      obtain ⟨h3, h4, h5⟩ := World.cells?_some hcs'
      obtain ⟨c, rfl⟩ : ∃ c, cs' = [c] := by
        match cs', h3 with
        | [c], _ => exact ⟨c, rfl⟩
      exact ⟨c, _, cell_of_cells?_one hcs', h2, hy⟩
    obtain ⟨b, off, spot⟩ := x
    obtain ⟨c0, y0, hc0, _⟩ := each 0 (by omega)
    have hspot : spot = none := by simpa [Addr.add] using World.cell?_spot hc0
    subst hspot
    have hbW : b < w.heap.size := hlt (.cell b off) (List.mem_append_left _ (MemPlace.mem_row.2 ⟨0, by rw [hc]; omega, by simp⟩))
    have hget : ∀ i c, ((List.range len).map (fun i => (w.cell? ⟨b, off + i, none⟩).getD (.bool false)))[i]? = some c → i < len ∧ w.cell? ⟨b, off + i, none⟩ = some c := by
      intro i c hi
      have hil : i < len := by
        have := (List.getElem?_eq_some_iff.1 hi).1
        simpa using this
      obtain ⟨c', y, h1, _⟩ := each i hil
      rw [add_plain] at h1
      simp [hil, h1] at hi
      exact ⟨hil, by rw [h1, hi]⟩
    refine ⟨(List.range len).map (fun i => (w.cell? ⟨b, off + i, none⟩).getD (.bool false)), by simp, Or.inr ⟨b, off, rfl, hbW, fun i v hv => (hget i v hv).2⟩, Or.inr ⟨n, elems, rest, hd, hlen, ?_, ?_⟩⟩
    · intro y hy q hq
      exact List.mem_append_right _ (List.mem_flatMap.2 ⟨y, List.mem_append_left _ hy, hq⟩)
    · intro i c hi
      obtain ⟨hil, hcell⟩ := hget i c hi
      obtain ⟨c', y, h1, h2, h3⟩ := each i hil
      rw [add_plain, hcell] at h1
      simp only [Option.some.injEq] at h1
      exact ⟨y, h2, by rw [h1]; exact h3⟩

/-- A list of values each of which is of one shape. -/
theorem list_shape {α : Type} (mk : α → Value) : ∀ cs : List Value, (∀ c ∈ cs, ∃ a, c = mk a) → ∃ xs : List α, cs = xs.map mk
  | [], _ => ⟨[], rfl⟩
  | c :: cs, h => by
    obtain ⟨a, rfl⟩ := h c (by simp)
    obtain ⟨xs, rfl⟩ := list_shape mk cs (fun c hc => h c (by simp [hc]))
    exact ⟨a :: xs, rfl⟩

/-- An argument that is a slice of booleans. -/
theorem open_Sl_bools {t e : TypeId} {a : Option Addr} {len cap : Nat} {d : DataW H} {p : List MemPlace} (ht : P.underlying t = some (.slice e)) (he : P.underlying e = some .bool) (hc : P.cellsOf e = 1)
    (h : DataW.Trod enc P w 0 (fun _ => true) true t (.slice a len cap) d p) (hlt : ∀ x ∈ p, x.block < w.heap.size) :
    ∃ bs : List Bool, len = bs.length ∧ Sl w w.heap.size a (bs.map Value.bool) := by
  obtain ⟨cs, hl, hs, hk⟩ := open_Sl_any ht hc h hlt
  obtain ⟨bs, rfl⟩ := list_shape Value.bool cs (by
    intro c hcm
    obtain ⟨i, hi⟩ := List.getElem?_of_mem hcm
    rcases hk with h0 | ⟨n, ys, rest, _, _, _, hy⟩
    · rw [h0] at hl
      have := List.eq_nil_of_length_eq_zero hl.symm
      subst this
      simp at hcm
    · obtain ⟨y, _, ht2⟩ := hy i c hi
      obtain ⟨b, hb, _⟩ := DataW.trod_bool he ht2
      exact ⟨b, by simpa using hb⟩)
  exact ⟨bs, by simpa using hl, hs⟩

/-- A struct of one-cell fields, by value: its cells, each with its own reading. -/
theorem open_fields {r : Reach} {b0 base : Nat} {spare : Nat → Bool} {held : Bool} {t : TypeId} {fs : Array Go.Field} {v : Value} {d : DataW H} {p : List MemPlace} (hs : P.underlying t = some (.struct fs)) (hone : Go.Deep.oneCellFields P fs = true) (hC : P.cellsOf t = fs.size)
    (hv : Value.okWide P w r b0 t v) (h : DataW.Trod enc P w base spare held t v d p) :
    ∃ (cs : Array Value) (ys : List (DataW H × List MemPlace)) (n : Nat), v = .agg cs ∧ cs.size = fs.size ∧ d = .agg (ys.map (·.1)) ∧ p = ys.flatMap (·.2) ∧ ys.length = fs.size ∧
      ∀ (j : Nat) (f : Go.Field), fs[j]? = some f → ∃ c y, cs[j]? = some c ∧ ys[j]? = some y ∧ DataW.trod enc P w base spare held n f.type [c] = some y := by
  obtain ⟨cs, rfl, hsz⟩ := okWide_struct hs hv
  obtain ⟨fuel, hf⟩ := h
  obtain ⟨ys, n, _, hx, hcl, hlen, hg⟩ := DataW.trod_struct hs hf
  simp only [Prod.mk.injEq] at hx
  refine ⟨cs, ys, n, rfl, by omega, hx.1, hx.2, hlen, fun j f hj => ?_⟩
  obtain ⟨ho, hk⟩ := Go.Deep.hone_of hone j f hj
  have hjf : j < fs.size := (Array.getElem?_eq_some_iff.1 hj).1
  have hjc : j < cs.size := by omega
  have h1 := hg j f hj
  have e : ((Value.agg cs).cells.toList.drop f.offset).take (P.cellsOf f.type) = [cs[j]] := by
    rw [ho, hk]
    show (cs.toList.drop j).take 1 = _
    rw [List.drop_eq_getElem_cons (by simpa using hjc)]
    simp
  rw [e] at h1
  have hys : ys[j]? = some (ys[j]'(by omega)) := List.getElem?_eq_getElem (by omega)
  exact ⟨cs[j], _, by simp [hjc], hys, h1.trans hys⟩

/-- A field that is a slice: its value's form. -/
theorem field_slice {base fuel : Nat} {spare : Nat → Bool} {held : Bool} {t e : TypeId} {c : Value} {y : DataW H × List MemPlace} (ht : P.underlying t = some (.slice e)) (h : DataW.trod enc P w base spare held fuel t [c] = some y) :
    ∃ a len cap, c = .slice a len cap := by
  rcases DataW.trod_slice ht h with ⟨hc, _⟩ | ⟨a, len, cap, _, _, _, _, hc, _⟩
  · simp at hc; exact ⟨_, _, _, hc⟩
  · simp at hc; exact ⟨_, _, _, hc⟩

theorem field_int {k : IntKind} {base fuel : Nat} {spare : Nat → Bool} {held : Bool} {t : TypeId} {c : Value} {y : DataW H × List MemPlace} (ht : P.underlying t = some (.int k)) (h : DataW.trod enc P w base spare held fuel t [c] = some y) :
    ∃ n, c = .int k n ∧ (Lit.int k n).wf = true := by
  obtain ⟨n, hc, _, hw⟩ := DataW.trod_int ht h
  simp at hc; exact ⟨n, hc, hw⟩

theorem array5 {cs : Array Value} (h : cs.size = 5) : ∃ a b c d e, cs = #[a, b, c, d, e] := by
  obtain ⟨l⟩ := cs
  match l, h with
  | [a, b, c, d, e], _ => exact ⟨a, b, c, d, e, rfl⟩

end
end Go.Proofs.Ytbjhcpchljjmhaa

/- MixRuns: Plan and Run of anything answer what the document says. No condition. -/
namespace Go.Proofs.Ytbjhcpchljjmhaa
open Go.ChangeShapes Go.WideShapes Go.ChangeAt Go.RowKit

set_option maxHeartbeats 400000 in
theorem sameInts_eq (a b : Option Addr) (n c1 c2 : Nat) (xs : List Int) (w : World) (hn : xs.length = n) (hm : n ≤ 140737488351232)
    (ha : Sl w w.heap.size a (xs.map (Value.int .i64))) (hb : Sl w w.heap.size b (xs.map (Value.int .i64))) :
    Calls Try.prog 17 #[.slice a n c1, .slice b n c2] w fun e w' => e = .returned (.bool true) ∧ Below w.heap.size w w' := by
  subst hn
  have HA := Lib.hid ha
  have HB := Lib.hid hb
  clear ha hb
  go_enter Try.func17, Try.ntmps17
  go_wp2
  go_loopw [13] (fun i wr => ∃ j : Nat, j ≤ xs.length ∧ i = .int .i64 j ∧ Below w.heap.size w wr) (fun i _ => xs.length - (intOf i).toNat)
  case atStart => exact ⟨0, Nat.zero_le _, rfl, Below.refl _ _⟩
  case round =>
    obtain ⟨j, hj, rfl, hbl⟩ := hrel
    by_cases hjl : j < xs.length
    · obtain ⟨ba, oa, rfl, hba, hca⟩ := (HA.out.below hbl).at j (by simpa using hjl)
      obtain ⟨bb, ob, rfl, hbb, hcb⟩ := (HB.out.below hbl).at j (by simpa using hjl)
      rw [List.getElem_map] at hca hcb
      have hsz := hbl.size
      generalize xs[j] = x at hca hcb
      go_wp2_with fail
      refine wp_region_over (by kernel_rfl) (by kernel_rfl) ?_
      have hov := fun (E : Over wr) (o : Nat) => E.cell (b := ba) o (by omega)
      have hov2 := fun (E : Over wr) (o : Nat) => E.cell (b := bb) o (by omega)
      repeat (go_big_quiet_step (fail))
      refine wpQuiet_nil ?_
      rintro _ ⟨E, rfl⟩
      have hE := below_up hbl E.h
      clear hov hov2
      go_wp2
      go_roundw
      case rel => exact ⟨j + 1, by omega, by go_num, hE⟩
      case measure => simp [intOf]; omega
    · have hjn : j = xs.length := by omega
      subst hjn
      go_wp2
      go_ret
      exact ⟨rfl, hbl⟩

set_option maxHeartbeats 2000000 in
theorem mixRuns_bad (n : Int) (ca : Option Addr) (len ccap : Nat) (w : World) (hn : ¬ (1 ≤ n ∧ n ≤ 256)) :
    Calls Try.prog 6 #[.int .i64 n, .slice ca len ccap] w fun e w' => e = .returned (.bool true) ∧ Below w.heap.size w w' := by
  go_enter Try.func6, Try.ntmps6
  go_wp2_with fail
  refine (Plan_bad n w hn).mono ?_
  rintro e w1 ⟨rfl, rfl⟩
  go_wp2_with fail
  refine (refPlan_bad n w hn).mono ?_
  rintro e w1 ⟨rfl, rfl⟩
  go_wp2_with fail
  refine wp_loop_rounds 1 ?_
  rw [rounds_succ]
  go_wp2_with fail
  refine (Run_bad n ca len ccap w hn).mono ?_
  rintro e w1 ⟨rfl, rfl⟩
  go_wp2_with fail
  refine (refRun_bad n ca len ccap w hn).mono ?_
  rintro e w1 ⟨rfl, rfl⟩
  go_wp2_with fail
  refine (sameInts_eq none none 0 0 0 [] w rfl (by omega) (Or.inl rfl) (Or.inl rfl)).mono ?_
  rintro e w1 ⟨rfl, hb⟩
  go_wp2_with fail
  go_ret
  exact ⟨rfl, hb⟩

set_option maxHeartbeats 4000000 in
theorem mixRuns_ok (n : Nat) (ca : Option Addr) (bs : List Bool) (ccap : Nat) (w : World) (h1 : 1 ≤ n) (h2 : n ≤ 256) (hs : Sl w w.heap.size ca (bs.map Value.bool)) :
    Calls Try.prog 6 #[.int .i64 n, .slice ca bs.length ccap] w fun e w' => e = .returned (.bool true) ∧ Below w.heap.size w w' := by
  have HS := Lib.hid hs
  have hle := gates_le n h2
  clear hs
  go_enter Try.func6, Try.ntmps6
  go_wp2_with fail
  refine (Plan_ok n w h1 h2).mono ?_
  rintro e w1 ⟨u, rfl, hm1, hb1⟩
  obtain ⟨a1, c1, rfl, ha1⟩ := own_form hm1.own
  have HM1 := Lib.hid hm1
  have HA1 := Lib.hid ha1
  clear hm1 ha1
  go_wp2_with fail
  refine (refPlan_ok n w1 h1 h2).mono ?_
  rintro e w2 ⟨u, rfl, hm2, hb2⟩
  obtain ⟨a2, c2, rfl, ha2⟩ := own_form hm2.own
  have HM2 := Lib.hid hm2
  have HA2 := Lib.hid ha2
  have HO1 := Lib.hid (HM1.out.own.kept (below_grown hb2) (by cases (Value.slice a1 (gatesL (iota n)).length c1).ownBlock <;> simp))
  have HB2 := Lib.hid (below_up hb1 hb2)
  have hz1 := hb2.size
  clear hm2 ha2 hb1 hb2
  generalize hGL : gatesL (iota n) = GL at *
  have HGL := Lib.hid hGL
  clear hGL
  go_wp2_with fail
  go_loopw [34] (fun i wr => ∃ j : Nat, j ≤ GL.length ∧ i = .int .i64 j ∧ Hid (Below w2.heap.size w2 wr)) (fun i _ => GL.length - (intOf i).toNat)
  case atStart => exact ⟨0, Nat.zero_le _, rfl, Below.refl _ _⟩
  case round =>
    obtain ⟨j, hj, rfl, HN⟩ := hrel
    by_cases hjl : j < GL.length
    · obtain ⟨g1, rfl, hg1⟩ : ∃ g, a1 = some ⟨g, 0, none⟩ ∧ g < w1.heap.size := by
        rcases HA1.out with h | h
        · omega
        · exact h
      obtain ⟨g2, rfl, hg2⟩ : ∃ g, a2 = some ⟨g, 0, none⟩ ∧ g < w2.heap.size := by
        rcases HA2.out with h | h
        · omega
        · exact h
      obtain ⟨f1, f2⟩ := flat_at GL j hjl
      have hx1 := HO1.out.cellAt (j * 2) (by omega)
      have hy1 := HO1.out.cellAt (j * 2 + 1) (by omega)
      have hx2 := HM2.out.own.cellAt (j * 2) (by omega)
      have hy2 := HM2.out.own.cellAt (j * 2 + 1) (by omega)
      rw [f1] at hx1 hx2
      rw [f2] at hy1 hy2
      have hzr := HN.out.size
      rw [← HN.out.cell (p := ⟨g1, j * 2, none⟩) (by show g1 < _; omega)] at hx1
      rw [← HN.out.cell (p := ⟨g1, j * 2 + 1, none⟩) (by show g1 < _; omega)] at hy1
      rw [← HN.out.cell (p := ⟨g2, j * 2, none⟩) hg2] at hx2
      rw [← HN.out.cell (p := ⟨g2, j * 2 + 1, none⟩) hg2] at hy2
      clear f1 f2
      generalize GL[j].1 = x at *
      generalize GL[j].2 = y at *
      go_wp2_with fail
      refine wp_region_over (by kernel_rfl) (by kernel_rfl) ?_
      have hov := fun (E : Over wr) (o : Nat) => E.cell (b := g1) o (by omega)
      have hov2 := fun (E : Over wr) (o : Nat) => E.cell (b := g2) o (by omega)
      repeat (go_big_quiet_step (fail))
      refine wpQuiet_nil ?_
      rintro _ ⟨E, rfl⟩
      have HE := Lib.hid (HN.out.trans (E.h.mono hzr))
      clear hov hov2
      go_wp2_with fail
      go_roundw
      case rel => exact ⟨j + 1, by omega, by go_num, HE⟩
      case measure => simp [intOf]; omega
    · have hjn : j = GL.length := by omega
      subst hjn
      have hbr := HB2.out.trans (HN.out.mono HB2.out.size)
      have HBR := Lib.hid hbr
      clear hbr
      go_wp2_with fail
      by_cases hl : bs.length = GL.length
      · refine (Run_ok n ca bs ccap wr h1 h2 (by rw [HGL.out]; exact hl) (HS.out.up HBR.out)).mono ?_
        rintro e w3 ⟨u, hb3, hp⟩
        rw [if_pos ⟨by omega, by omega⟩, if_pos (by simpa [HGL.out] using hl)] at hp
        obtain ⟨rfl, hm3⟩ := hp
        obtain ⟨a3, c3, rfl, ha3⟩ := own_form hm3.own
        have HB3 := Lib.hid (below_up HBR.out hb3)
        have HM3 := Lib.hid hm3
        have HL := Lib.hid hl
        clear hm3 hb3 ha3 hl
        go_wp2_with fail
        refine (refRun_ok n ca bs ccap w3 h1 h2 (by rw [HGL.out]; exact HL.out) (HS.out.up HB3.out)).mono ?_
        rintro e w4 ⟨u, hb4, hp⟩
        rw [if_pos ⟨by omega, by omega⟩, if_pos (by simpa [HGL.out] using HL.out)] at hp
        obtain ⟨rfl, hm4⟩ := hp
        obtain ⟨a4, c4, rfl, ha4⟩ := own_form hm4.own
        have HB4 := Lib.hid (below_up HB3.out hb4)
        have HM4 := Lib.hid hm4
        have HG4 := Lib.hid hb4
        clear hm4 hb4 ha4
        go_wp2_with fail
        refine (sameInts_eq a3 a4 _ c3 c4 _ w4 rfl (by rw [runTo_length, iota_length]; omega) (Sl.of_own (HM3.out.own.kept (below_grown HG4.out) (Classical.em _))) (Sl.of_own HM4.out.own)).mono ?_
        rintro e w5 ⟨rfl, hb5⟩
        have HB5 := Lib.hid (below_up HB4.out hb5)
        clear hb5
        go_wp2_with fail
        go_ret
        exact ⟨rfl, HB5.out⟩
      · have HL := Lib.hid hl
        clear hl
        refine (Run_form n ca bs.length ccap wr h1 h2 (by rw [HGL.out]; exact HL.out)).mono ?_
        rintro e w3 ⟨rfl, hb3⟩
        have HB3 := Lib.hid (below_up HBR.out hb3)
        clear hb3
        go_wp2_with fail
        refine (refRun_form n ca bs.length ccap w3 h1 h2 (by rw [HGL.out]; exact HL.out)).mono ?_
        rintro e w4 ⟨rfl, hb4⟩
        have HB4 := Lib.hid (below_up HB3.out hb4)
        clear hb4
        go_wp2_with fail
        refine (sameInts_eq none none 0 0 0 [] w4 rfl (by omega) (Or.inl rfl) (Or.inl rfl)).mono ?_
        rintro e w5 ⟨rfl, hb5⟩
        have HB5 := Lib.hid (below_up HB4.out hb5)
        clear hb5
        go_wp2_with fail
        go_ret
        exact ⟨rfl, HB5.out⟩

theorem mixRuns_calls {H : Type} (enc : TypeId × Value → H) (W : World) (base : Nat) {v0 v1 : Value} {d0 d1 : DataW H} {p0 p1 : List MemPlace}
    (h0 : DataW.Trod enc Try.prog W 0 (fun _ => true) true 3 v0 d0 p0) (h1 : DataW.Trod enc Try.prog W 0 (fun _ => true) true 41 v1 d1 p1)
    (k0 : Value.okWide Try.prog W .any base 3 v0) (k1 : Value.okWide Try.prog W .any base 41 v1)
    (_lt0 : ∀ x ∈ p0, x.block < W.heap.size) (lt1 : ∀ x ∈ p1, x.block < W.heap.size)
    (_hsz : (DataW.weightsEach Try.prog ([3, 41] ++ Rows.mixRunsSpec.plain.varTypes Try.prog) ([d0, d1] ++ [])).all (· ≤ reachBytes) = true) :
    Calls Try.prog 6 #[v0, v1] W fun e w' => e = .returned (.bool true) ∧ Below W.heap.size W w' := by
  obtain ⟨n, rfl, _, _, _⟩ := open_int Try.underlying3 k0 h0
  obtain ⟨a, len, cap, rfl⟩ := okWide_slice Try.underlying41 k1
  obtain ⟨bs, rfl, hs⟩ := open_Sl_bools Try.underlying41 Try.underlying4 (by kernel_rfl) h1 lt1
  by_cases hn : 1 ≤ n ∧ n ≤ 256
  · obtain ⟨m, rfl⟩ : ∃ m : Nat, n = m := ⟨n.toNat, by omega⟩
    exact mixRuns_ok m a bs cap W (by omega) (by omega) hs
  · exact mixRuns_bad n a bs.length cap W hn

set_option maxRecDepth 100000 in
theorem mixRuns_lifted (os : Os) (started : os.Started) (H : Type) (enc : TypeId × Value → H) :
    ReturnsInHanded {} Try.checked os 6 .any (Rows.mixRunsSpec.pre6 enc Try.prog Try.f6 Rows.mixRunsRow.domain false) (Rows.mixRunsSpec.post enc Try.prog Try.f6 false true false false) := by
  refine returnsInHanded_of_change_sized (C := Try.checked) law_own started (by kernel_rfl) Try.func6
    (ChangeSpec.witness6 (enc := enc) (C := Try.checked) false ⟨#[], #[.int .i64 0, .slice none 0 0], []⟩ 8 (by kernel_rfl) (by kernel_rfl) (by kernel_rfl) (by kernel_rfl)) ?_
  intro W base args ds gs before hval0 hW _ hsz0 _
  have hsz : (DataW.weightsEach Try.prog (Try.f6.params.toList ++ Rows.mixRunsSpec.plain.varTypes Try.prog) (ds ++ gs)).all (· ≤ reachBytes) = true := hsz0
  clear hsz0
  have hval : ∀ (j : Nat) t v, Try.f6.params[j]? = some t → args[j]? = some v → Value.okWide Try.prog W .any base t v := hval0
  have hW' := hW
  obtain ⟨p, q, hA0, hV, rfl, _, _⟩ := hW
  have hA : DataW.TrodAll enc Try.prog W 0 (fun _ => true) true Try.f6.params.toList args.toList ds p := hA0
  rw [Try.params6] at hA hval hsz
  obtain ⟨v0, vs0, d0, ds0, p0, q0, hargs, rfl, rfl, h0, r0⟩ := trodAll_cons hA
  obtain ⟨v1, vs1, d1, ds1, p1, q1, rfl, rfl, rfl, h1, r1⟩ := trodAll_cons r0
  obtain ⟨rfl, rfl, rfl⟩ := trodAll_nil r1
  obtain rfl : args = #[v0, v1] := by cases args; simp_all
  obtain ⟨rfl, rfl⟩ := trodVars_none hV
  have lt0 : ∀ x ∈ p0, x.block < W.heap.size := by obtain ⟨m, hm⟩ := h0; exact DataW.trod_lt m _ _ _ hm
  have lt1 : ∀ x ∈ p1, x.block < W.heap.size := by obtain ⟨m, hm⟩ := h1; exact DataW.trod_lt m _ _ _ hm
  clear hA0 hval0
  refine (mixRuns_calls enc W base h0 h1 (hval 0 3 v0 rfl rfl) (hval 1 41 v1 rfl rfl) lt0 lt1 hsz).mono fun e W' ⟨he, bel⟩ => ?_
  subst he
  exact ⟨_, rfl, _, _, _, [], _, [], hW', trodAll_mk1 (shut_bool Try.underlying4 _), (trodAll_cons_mk (Below.trod law_laidOut (by kernel_rfl) (of_decide_eq_true (by kernel_rfl)) h0 bel lt0) (trodAll_cons_mk (Below.trod law_laidOut (by kernel_rfl) (of_decide_eq_true (by kernel_rfl)) h1 bel lt1) trodAll_mk0)), rfl, bel.frame _, fun h => by cases h⟩

theorem mixRuns_holds : Rows.MixRunsSaid :=
  OpenClaim.holds_of_wide 6 Try.f6 rfl rfl rfl rfl rfl rfl rfl ⟨rfl, rfl, rfl, rfl, rfl⟩ rfl rfl rfl rfl rfl (by kernel_rfl) Try.func6 (by kernel_rfl)
    (of_decide_eq_true (by kernel_rfl)) (by unfold Func.isWrapper; first | (rw [if_pos (by decide +kernel)]; kernel_rfl) | (rw [if_neg (by decide +kernel)]; exact ⟨rfl, rfl⟩))
    (fun os started H enc _ => mixRuns_lifted os started H enc)
#print axioms mixRuns_holds



end Go.Proofs.Ytbjhcpchljjmhaa

namespace Go.Proofs.Ytbjhcpchljjmhaa
open Go.ChangeShapes Go.WideShapes Go.ChangeAt Go.RowKit

theorem makes_run {xs : List Int} {bs : List Bool} (hok : okO xs.length xs xs.length = true) (hm : Makes xs.length (fun i => (xs.getD i 0).toNat) bs) :
    runTo (gatesL (iota xs.length)) bs (iota xs.length) bs.length = xs := by
  obtain ⟨hl, hrun⟩ := hm (iota xs.length) (iota_length _)
  have hw : ∀ i, i < xs.length → wat (iota xs.length) i = i := fun i hi => by unfold wat; rw [iota_getD _ _ hi]; omega
  have hu : Unlike (iota xs.length) := fun i j hi hj e => by
    rw [iota_length] at hi hj
    rwa [hw i hi, hw j hj] at e
  have hg : ∀ g ∈ gatesL (iota xs.length), g.1.toNat < (iota xs.length).length ∧ g.2.toNat < (iota xs.length).length := fun g hg => by
    have := plan_good xs.length g hg
    rw [iota_length]
    omega
  have h := runTo_runZ (gatesL (iota xs.length)) bs (iota xs.length) hl hg bs.length (by omega)
  apply List.ext_getElem
  · rw [runTo_length, iota_length]
  · intro i h1 h2
    have h3 := h i
    rw [List.take_of_length_le (by simp; omega)] at h3
    have h4 := (hrun hu (fun k => (iota xs.length).getD k 0)).1 i h2
    rw [hw i h2] at h4
    have h4 : runZ ((gatesL (iota xs.length)).zip bs) (fun k => (iota xs.length).getD k 0) i = (iota xs.length).getD (wat (iota xs.length) (xs.getD i 0).toNat) 0 := h4
    have h5 := okO_at hok i h2
    rw [hw _ (by omega), iota_getD _ _ (by omega)] at h4
    rw [h4] at h3
    have h6 : xs.getD i 0 = xs[i] := by simp [List.getD, h2]
    have h7 : (runTo (gatesL (iota xs.length)) bs (iota xs.length) bs.length).getD i 0 = (runTo (gatesL (iota xs.length)) bs (iota xs.length) bs.length)[i] := by simp [List.getD, h1]
    rw [← h7, ← h6, h3]
    omega

set_option maxRecDepth 100000 in
set_option maxHeartbeats 400000 in
theorem wrongOrder_range (xs : List Int) (a : Option Addr) (c : Nat) (hr : ¬ (1 ≤ xs.length ∧ xs.length ≤ 256)) (W : World) :
    Calls Try.prog 19 #[.slice a xs.length c] W fun e W' => e = .returned (.int .i64 4) ∧ Below W.heap.size W W' := by
  generalize xs.length = n at *
  by_cases h : n < 1
  · have hd : decide ((n : Int) < 1) = true := decide_eq_true (by omega)
    have hd2 : n = 0 := by omega
    clear hr
    go_enter Try.func19, Try.ntmps19
    go_wp2_with fail
    go_ret
    exact ⟨rfl, Below.refl _ _⟩
  · have hd : decide ((n : Int) < 1) = false := decide_eq_false (by omega)
    have hd2 : decide ((n : Int) > 256) = true := decide_eq_true (by omega)
    have hd3 : 256 < n := by omega
    have hd4 : ¬ n = 0 := by omega
    clear hr
    go_enter Try.func19, Try.ntmps19
    go_wp2_with fail
    go_ret
    exact ⟨rfl, Below.refl _ _⟩

def WrongAns (W : World) (xs : List Int) (e : Ending) (W' : World) : Prop := e = .returned (.int .i64 (if okO xs.length xs xs.length = true then 0 else 2)) ∧ Below W.heap.size W W'

set_option maxRecDepth 100000 in
set_option maxHeartbeats 2000000 in
theorem wrongOrder_any (xs : List Int) (a : Option Addr) (c : Nat) (h1 : 1 ≤ xs.length) (h256 : xs.length ≤ 256) (W : World) (hs : Sl W W.heap.size a (xs.map (Value.int .i64))) :
    Calls Try.prog 19 #[.slice a xs.length c] W (WrongAns W xs) := by
  have HS := Lib.hid hs
  have hd1 : decide ((xs.length : Int) < 1) = false := decide_eq_false (by omega)
  have hd2 : decide ((xs.length : Int) > 256) = false := decide_eq_false (by omega)
  have hd3 : ¬ 256 < xs.length := by omega
  have hd4 : ¬ xs.length = 0 := by omega
  clear hs
  go_enter Try.func19, Try.ntmps19
  go_wp2_with fail
  go_loopw [3, 4, 5, 16] (fun _ _ _ i wr => ∃ j : Nat, j ≤ xs.length ∧ i = .int .i64 (j : Int) ∧ Hid (okO xs.length xs j = true) ∧ Hid (Below W.heap.size W wr)) (fun _ _ _ i _ => xs.length - (intOf i).toNat)
  case atStart => exact ⟨0, Nat.zero_le _, rfl, rfl, Below.refl _ _⟩
  case round =>
    obtain ⟨j, hj, rfl, HOK, HB1⟩ := hrel
    by_cases hjl : j < xs.length
    · obtain ⟨bb, off, rfl, hbb, hcell⟩ := (HS.out.below HB1.out).at j (by simpa using hjl)
      rw [List.getElem_map] at hcell
      have hg : xs.getD j 0 = xs[j] := by simp [List.getD, hjl]
      have hok : okO xs.length xs (j + 1) = (okO xs.length xs j && decide (0 ≤ xs.getD j 0) && decide (xs.getD j 0 < (xs.length : Int)) && !decide (xs.getD j 0 ∈ xs.take j)) := rfl
      rw [hg, HOK.out, Bool.true_and] at hok
      have hsz := HB1.out.size
      have hbr : bb < wr.heap.size := by omega
      have HCA : Hid (∀ k (hk : k < xs.length), wr.cell? ⟨bb, off + k, none⟩ = some (.int .i64 xs[k])) := fun k hk => by
        obtain ⟨b9, o9, e9, _, hc9⟩ := (HS.out.below HB1.out).at k (by simpa using hk)
        cases e9
        rw [hc9, List.getElem_map]
      generalize xs[j] = x at *
      have HO := Lib.hid hok
      clear hok hg
      have HBAD : Hid (okO xs.length xs (j + 1) = false → WrongAns W xs (.returned (.int .i64 2)) wr) := fun h => by
        have h9 := okO_false h xs.length (by omega)
        refine ⟨?_, HB1.out⟩
        rw [h9]
        rfl
      by_cases hx0 : x < 0
      · have HF := Lib.hid (HBAD.out (by rw [HO.out]; simp; omega))
        clear HBAD
        go_wp2_with fail
        go_ret
        exact HF.out
      · have hd0 : decide (x < 0) = false := decide_eq_false hx0
        by_cases hxn : x < (xs.length : Int)
        · have hd1 : decide (x ≥ (xs.length : Int)) = false := decide_eq_false (by omega)
          have hxn' : ¬ (xs.length : Int) ≤ x := by omega
          go_wp2_with fail
          obtain ⟨wo, rfl⟩ : ∃ wo : World, wo = wr := ⟨_, rfl⟩
          go_loopw [5] (fun q wr => ∃ k : Nat, k ≤ j ∧ q = .int .i64 (k : Int) ∧ Hid (x ∉ xs.take k) ∧ wr = wo) (fun q _ => j - (intOf q).toNat)
          case atStart => exact ⟨0, Nat.zero_le _, rfl, by show _ ∉ _; simp, rfl⟩
          case round =>
            obtain ⟨k, hk, rfl, HK, rfl⟩ := hrel
            by_cases hkj : k < j
            · have hck := HCA.out k (by omega)
              have htk : xs.take (k + 1) = xs.take k ++ [xs[k]] := List.take_succ_eq_append_getElem (by omega)
              have hmem : xs[k] ∈ xs.take j := by
                have h3 : k < (xs.take j).length := by simp; omega
                have h4 : (xs.take j)[k] = xs[k] := by simp
                rw [← h4]
                exact List.getElem_mem h3
              have hkl : k < xs.length := by omega
              generalize xs[k] = y at *
              have HTK := Lib.hid htk
              have HME := Lib.hid hmem
              clear htk hmem
              by_cases hyx : y = x
              · have hd5 : (y == x) = true := by simpa using hyx
                have HF := Lib.hid (HBAD.out (by rw [HO.out, ← hyx]; simp [HME.out]))
                clear HBAD hyx
                go_wp2_with fail
                go_ret
                exact HF.out
              · have hd5 : (y == x) = false := by simpa using hyx
                have HK2 : Hid (x ∉ xs.take (k + 1)) := by
                  show _ ∉ _
                  rw [HTK.out]
                  simp only [List.mem_append, List.mem_singleton]
                  rintro (h | h)
                  · exact HK.out h
                  · exact hyx h.symm
                clear hyx
                go_wp2_with fail
                go_roundw
                case rel => exact ⟨k + 1, by omega, by go_num, HK2.out, by first | rfl | trivial⟩
                case measure => simp [intOf]; omega
            · have hkk : k = j := by omega
              subst hkk
              have HOK2 : Hid (okO xs.length xs (k + 1) = true) := by show _ = _; rw [HO.out]; simp [HK.out]; omega
              clear HBAD
              go_wp2_with fail
              go_roundw
              case rel => exact ⟨k + 1, by omega, by go_num, HOK2.out, HB1.out⟩
              case measure => simp [intOf]; omega
        · have hd1 : decide (x ≥ (xs.length : Int)) = true := decide_eq_true (by omega)
          have hxn' : (xs.length : Int) ≤ x := by omega
          have HF := Lib.hid (HBAD.out (by rw [HO.out]; simp [hxn]))
          clear HBAD
          go_wp2_with fail
          go_ret
          exact HF.out
    · have hjn : j = xs.length := by omega
      subst hjn
      have HF : Hid (WrongAns W xs (.returned (.int .i64 0)) wr) := ⟨by rw [if_pos HOK.out], HB1.out⟩
      go_wp2_with fail
      go_ret
      exact HF.out

set_option maxRecDepth 100000 in
set_option maxHeartbeats 2000000 in
theorem mixRoutes_range (xs : List Int) (a : Option Addr) (c : Nat) (hr : ¬ (1 ≤ xs.length ∧ xs.length ≤ 256)) (W : World) :
    Calls Try.prog 7 #[.slice a xs.length c] W fun e W' => e = .returned (.bool true) ∧ Below W.heap.size W W' := by
  go_enter Try.func7, Try.ntmps7
  go_wp2_with fail
  refine (Route_range xs a c hr W).mono ?_
  rintro e w1 ⟨rfl, hb1⟩
  have HB1 := Lib.hid hb1
  clear hb1
  go_wp2_with fail
  refine (wrongOrder_range xs a c hr w1).mono ?_
  rintro e w2 ⟨rfl, hb2⟩
  have HB2 := Lib.hid (below_up HB1.out hb2)
  clear hb2
  go_wp2_with fail
  go_ret
  exact ⟨rfl, HB2.out⟩

set_option maxRecDepth 100000 in
set_option maxHeartbeats 2000000 in
theorem mixRoutes_any (xs : List Int) (a : Option Addr) (c : Nat) (h1 : 1 ≤ xs.length) (h256 : xs.length ≤ 256) (W : World) (hs : Sl W W.heap.size a (xs.map (Value.int .i64))) :
    Calls Try.prog 7 #[.slice a xs.length c] W fun e W' => e = .returned (.bool true) ∧ Below W.heap.size W W' := by
  have HS := Lib.hid hs
  clear hs
  go_enter Try.func7, Try.ntmps7
  go_wp2_with fail
  refine (Route_any xs a c h1 h256 W HS.out).mono ?_
  rintro e w1 ⟨hgood, hbad⟩
  cases hok : okO xs.length xs xs.length with
  | false =>
    obtain ⟨rfl, hb1⟩ := hbad hok
    have HOK := Lib.hid hok
    have HB1 := Lib.hid hb1
    clear hok hb1 hgood hbad
    go_wp2_with fail
    refine (wrongOrder_any xs a c h1 h256 w1 (HS.out.up HB1.out)).mono ?_
    rintro e w2 ⟨he, hb2⟩
    rw [HOK.out] at he
    have he' : e = .returned (.int .i64 2) := he
    subst he'
    have HB2 := Lib.hid (below_up HB1.out hb2)
    clear hb2 he
    go_wp2_with fail
    go_ret
    exact ⟨rfl, HB2.out⟩
  | true =>
    obtain ⟨v, bs, rfl, hm, hk, hb1⟩ := hgood hok
    obtain ⟨av, cv, rfl, _⟩ := own_form hm.own
    have HOK := Lib.hid hok
    have HB1 := Lib.hid hb1
    have HM := Lib.hid hm
    have HK := Lib.hid hk
    clear hok hb1 hgood hbad hm hk
    go_wp2_with fail
    refine (wrongOrder_any xs a c h1 h256 w1 (HS.out.up HB1.out)).mono ?_
    rintro e w2 ⟨he, hb2⟩
    rw [HOK.out] at he
    have he' : e = .returned (.int .i64 0) := he
    subst he'
    have HB2 := Lib.hid (below_up HB1.out hb2)
    have HM2 := Lib.hid (HM.out.up hb2)
    clear hb2 he HM
    go_wp2_with fail
    refine (refRun_ok xs.length av bs cv w2 h1 h256 (makes_length HK.out) (Sl.of_own HM2.out.own)).mono ?_
    rintro e w3 ⟨u, hb3, hp⟩
    rw [if_pos ⟨by omega, by omega⟩, if_pos (by simpa using makes_length HK.out)] at hp
    obtain ⟨rfl, hm3⟩ := hp
    rw [Int.toNat_natCast, makes_run HOK.out HK.out] at hm3
    obtain ⟨a3, c3, rfl, _⟩ := own_form hm3.own
    have HB3 := Lib.hid (below_up HB2.out hb3)
    have HM3 := Lib.hid hm3
    clear hm3 hb3
    go_wp2_with fail
    refine (sameInts_eq a3 a xs.length c3 c xs w3 rfl (by omega) (Sl.of_own HM3.out.own) (HS.out.up HB3.out)).mono ?_
    rintro e w5 ⟨rfl, hb5⟩
    have HB5 := Lib.hid (below_up HB3.out hb5)
    clear hb5
    go_wp2_with fail
    go_ret
    exact ⟨rfl, HB5.out⟩

theorem mixRoutes_calls {H : Type} (enc : TypeId × Value → H) (W : World) (base : Nat) {v0 : Value} {d0 : DataW H} {p0 : List MemPlace}
    (h0 : DataW.Trod enc Try.prog W 0 (fun _ => true) true 25 v0 d0 p0) (k0 : Value.okWide Try.prog W .any base 25 v0) (lt0 : ∀ x ∈ p0, x.block < W.heap.size)
    (_hsz : (DataW.weightsEach Try.prog ([25] ++ Rows.mixRoutesSpec.plain.varTypes Try.prog) ([d0] ++ [])).all (· ≤ reachBytes) = true) :
    Calls Try.prog 7 #[v0] W fun e w' => e = .returned (.bool true) ∧ Below W.heap.size W w' := by
  obtain ⟨a, len, cap, rfl⟩ := okWide_slice Try.underlying25 k0
  obtain ⟨xs, rfl, hs, _, _⟩ := open_Sl_ints Try.underlying25 Try.underlying3 (by kernel_rfl) h0 lt0
  by_cases hn : 1 ≤ xs.length ∧ xs.length ≤ 256
  · exact mixRoutes_any xs a cap hn.1 hn.2 W hs
  · exact mixRoutes_range xs a cap hn W

set_option maxRecDepth 100000 in
theorem mixRoutes_lifted (os : Os) (started : os.Started) (H : Type) (enc : TypeId × Value → H) :
    ReturnsInHanded {} Try.checked os 7 .any (Rows.mixRoutesSpec.pre6 enc Try.prog Try.f7 Rows.mixRoutesRow.domain false) (Rows.mixRoutesSpec.post enc Try.prog Try.f7 false true false false) := by
  refine returnsInHanded_of_change_sized (C := Try.checked) law_own started (by kernel_rfl) Try.func7
    (ChangeSpec.witness6 (enc := enc) (C := Try.checked) false ⟨#[], #[.slice none 0 0], []⟩ 8 (by kernel_rfl) (by kernel_rfl) (by kernel_rfl) (by kernel_rfl)) ?_
  intro W base args ds gs before hval0 hW _ hsz0 _
  have hsz : (DataW.weightsEach Try.prog (Try.f7.params.toList ++ Rows.mixRoutesSpec.plain.varTypes Try.prog) (ds ++ gs)).all (· ≤ reachBytes) = true := hsz0
  clear hsz0
  have hval : ∀ (j : Nat) t v, Try.f7.params[j]? = some t → args[j]? = some v → Value.okWide Try.prog W .any base t v := hval0
  have hW' := hW
  obtain ⟨p, q, hA0, hV, rfl, _, _⟩ := hW
  have hA : DataW.TrodAll enc Try.prog W 0 (fun _ => true) true Try.f7.params.toList args.toList ds p := hA0
  rw [Try.params7] at hA hval hsz
  obtain ⟨v0, vs0, d0, ds0, p0, q0, hargs, rfl, rfl, h0, r0⟩ := trodAll_cons hA
  obtain ⟨rfl, rfl, rfl⟩ := trodAll_nil r0
  obtain rfl : args = #[v0] := by cases args; simp_all
  obtain ⟨rfl, rfl⟩ := trodVars_none hV
  have lt0 : ∀ x ∈ p0, x.block < W.heap.size := by obtain ⟨m, hm⟩ := h0; exact DataW.trod_lt m _ _ _ hm
  clear hA0 hval0
  refine (mixRoutes_calls enc W base h0 (hval 0 25 v0 rfl rfl) lt0 hsz).mono fun e W' ⟨he, bel⟩ => ?_
  subst he
  exact ⟨_, rfl, _, _, _, [], _, [], hW', trodAll_mk1 (shut_bool Try.underlying4 _), (trodAll_cons_mk (Below.trod law_laidOut (by kernel_rfl) (of_decide_eq_true (by kernel_rfl)) h0 bel lt0) trodAll_mk0), rfl, bel.frame _, fun h => by cases h⟩

theorem mixRoutes_holds : Rows.MixRoutesSaid :=
  OpenClaim.holds_of_wide 7 Try.f7 rfl rfl rfl rfl rfl rfl rfl ⟨rfl, rfl, rfl, rfl, rfl⟩ rfl rfl rfl rfl rfl (by kernel_rfl) Try.func7 (by kernel_rfl)
    (of_decide_eq_true (by kernel_rfl)) (by unfold Func.isWrapper; first | (rw [if_pos (by decide +kernel)]; kernel_rfl) | (rw [if_neg (by decide +kernel)]; exact ⟨rfl, rfl⟩))
    (fun os started H enc _ => mixRoutes_lifted os started H enc)
#print axioms mixRoutes_holds



end Go.Proofs.Ytbjhcpchljjmhaa
