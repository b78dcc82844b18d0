/- The document's plan of a network. Condition: lists of at most 4,096 wires. -/
import Derived.Test.YtbjhcpchljjmhaaNetPlan
import Derived.Test.YtbjhcpchljjmhaaOrd
namespace Go.Proofs.Ytbjhcpchljjmhaa
open Go.RowKit

def UpToPost (w : World) (n : Nat) (e : Ending) (w' : World) : Prop := ∃ u, e = .returned u ∧ Made w w' u (iota n) ∧ Below w.heap.size w w'


set_option maxHeartbeats 1000000 in
theorem refUpTo_any (n : Nat) (w : World) (hn : n ≤ 4096) : Calls Try.prog 33 #[.int .i64 n] w (UpToPost w n) := by
  obtain ⟨i0, hi, hz0, hz1, hz2⟩ := info_parts infoInt
  go_enter Try.func33, Try.ntmps33
  go_wp2
  go_loopw [3, 4] (fun u i wr => ∃ j : Nat, j ≤ n ∧ i = .int .i64 j ∧ Hid (wr.ownsRow 0 3 1 u (iota j).length ((iota j).map (Value.int .i64))) ∧ Hid (∀ q, u.ownBlock = some q → w.heap.size ≤ q) ∧ Below w.heap.size w wr) (fun _ i _ => n - (intOf i).toNat)
  case atStart => exact ⟨0, Nat.zero_le _, rfl, World.ownsRow_nil _ _ _ _, fun q h => by simp [Value.ownBlock] at h, Below.refl _ _⟩
  case round =>
    obtain ⟨j, hj, rfl, HO, HN, hbl⟩ := hrel
    by_cases hjl : j < n
    · have hil : (iota j).length ≤ 4096 := by rw [iota_length]; omega
      go_wp2_with (at_builtin; refine wpList_push wr rfl _ _ 25 rfl 3 i0 _ 1 8 Try.underlying25 hi hz0 hz1 hz2 rfl (by omega) u3 (iota j).length ((iota j).map (Value.int .i64)) rfl HO.out _ _ _ rfl rfl rfl (by simp [Value.oneCell']) (by omega) (by unfold maxLen; omega) ?_)
      intro g gc w1 hown hp
      have hb1 := hp.below hbl hbl.size HN.out
      have HN1 : Hid (∀ q, (Value.slice (some ⟨g, 0, none⟩) ((iota j).length + 1) gc).ownBlock = some q → w.heap.size ≤ q) := hp.from_ hbl.size HN.out
      have HO1 : Hid (w1.ownsRow 0 3 1 (.slice (some ⟨g, 0, none⟩) ((iota j).length + 1) gc) (iota (j + 1)).length ((iota (j + 1)).map (Value.int .i64))) := by
        rw [iota_succ, List.length_append, List.map_append]; exact hown
      clear hown hp
      go_wp2
      go_roundw
      case rel => exact ⟨j + 1, by omega, by go_num, HO1, HN1, hb1⟩
      case measure => simp [intOf]; omega
    · have hjn : j = n := by omega
      subst hjn
      go_wp2
      go_ret
      exact ⟨_, rfl, ⟨HO.out, HN.out⟩, hbl⟩

def GatesPost (w : World) (xs : List Int) (e : Ending) (w' : World) : Prop := ∃ u, e = .returned u ∧ MadeG w w' u (gatesL xs) ∧ Below w.heap.size w w'

theorem iff_take (xs : List Int) (j : Nat) (hj : j < xs.length) : xs.take (j + 1) = xs.take j ++ [xs.getD j 0] := by
  rw [List.take_succ_eq_append_getElem hj]; simp [List.getD, hj]

/-- The three lists of the first loop. -/
structure Three (w wr : World) (f u l : Value) (F U V : List Int) : Prop where
  of : wr.ownsRow 0 3 1 f F.length (F.map (Value.int .i64))
  ou : wr.ownsRow 0 3 1 u U.length (U.map (Value.int .i64))
  ol : wr.ownsRow 0 3 1 l V.length (V.map (Value.int .i64))
  fu : Apart f u
  fl : Apart f l
  ul : Apart u l
  nf : ∀ q, f.ownBlock = some q → w.heap.size ≤ q
  nu : ∀ q, u.ownBlock = some q → w.heap.size ≤ q
  nl : ∀ q, l.ownBlock = some q → w.heap.size ≤ q
  bl : Below w.heap.size w wr

section
variable {w wr w1 : World} {f u l : Value} {F U V : List Int} {x : Int} {g gc : Nat}
theorem Three.pushF (h : Three w wr f u l F U V) (hown : w1.ownsRow 0 3 1 (.slice (some ⟨g, 0, none⟩) (F.length + 1) gc) (F.length + 1) (F.map (Value.int .i64) ++ [.int .i64 x])) (hp : Pushed wr w1 f g) :
    Three w w1 (.slice (some ⟨g, 0, none⟩) (F.length + 1) gc) u l (F ++ [x]) U V :=
  ⟨by simpa using hown, hp.keep h.ou h.fu, hp.keep h.ol h.fl, hp.apart h.ou h.fu, hp.apart h.ol h.fl, h.ul, hp.from_ h.bl.size h.nf, h.nu, h.nl, hp.below h.bl h.bl.size h.nf⟩
theorem Three.pushU (h : Three w wr f u l F U V) (hown : w1.ownsRow 0 3 1 (.slice (some ⟨g, 0, none⟩) (U.length + 1) gc) (U.length + 1) (U.map (Value.int .i64) ++ [.int .i64 x])) (hp : Pushed wr w1 u g) :
    Three w w1 f (.slice (some ⟨g, 0, none⟩) (U.length + 1) gc) l F (U ++ [x]) V :=
  ⟨hp.keep h.of h.fu.symm, by simpa using hown, hp.keep h.ol h.ul, (hp.apart h.of h.fu.symm).symm, h.fl, hp.apart h.ol h.ul, h.nf, hp.from_ h.bl.size h.nu, h.nl, hp.below h.bl h.bl.size h.nu⟩
theorem Three.pushL (h : Three w wr f u l F U V) (hown : w1.ownsRow 0 3 1 (.slice (some ⟨g, 0, none⟩) (V.length + 1) gc) (V.length + 1) (V.map (Value.int .i64) ++ [.int .i64 x])) (hp : Pushed wr w1 l g) :
    Three w w1 f u (.slice (some ⟨g, 0, none⟩) (V.length + 1) gc) F U (V ++ [x]) :=
  ⟨hp.keep h.of h.fl.symm, hp.keep h.ou h.ul.symm, by simpa using hown, h.fu, (hp.apart h.of h.fl.symm).symm, (hp.apart h.ou h.ul.symm).symm, h.nf, h.nu, hp.from_ h.bl.size h.nl, hp.below h.bl h.bl.size h.nl⟩
end

/-- The three lists, and the list of gates beside them. -/
structure Four (w wr : World) (v : Value) (gs : List (Int × Int)) (f u l : Value) (F U V : List Int) : Prop where
  own : wr.ownsRow 0 33 2 v gs.length (flat gs)
  t : Three w wr f u l F U V
  vf : Apart v f
  vu : Apart v u
  vl : Apart v l
  nv : ∀ q, v.ownBlock = some q → w.heap.size ≤ q

section
variable {w wr w1 : World} {v f u l : Value} {gs : List (Int × Int)} {F U V : List Int} {x y : Int} {g gc m : Nat}
theorem Four.push {cs : List Value} {hs : List (Int × Int)} (h : Four w wr v gs f u l F U V) (hm : m = (gs ++ hs).length) (hcs : flat gs ++ cs = flat (gs ++ hs))
    (hown : w1.ownsRow 0 33 2 (.slice (some ⟨g, 0, none⟩) m gc) m (flat gs ++ cs)) (hp : Pushed wr w1 v g) :
    Four w w1 (.slice (some ⟨g, 0, none⟩) m gc) (gs ++ hs) f u l F U V := by
  subst hm
  rw [hcs] at hown
  exact ⟨hown, ⟨hp.keep h.t.of h.vf, hp.keep h.t.ou h.vu, hp.keep h.t.ol h.vl, h.t.fu, h.t.fl, h.t.ul, h.t.nf, h.t.nu, h.t.nl, hp.below h.t.bl h.t.bl.size h.nv⟩,
    hp.apart h.t.of h.vf, hp.apart h.t.ou h.vu, hp.apart h.t.ol h.vl, hp.from_ h.t.bl.size h.nv⟩
end

theorem Three.below {w wr w' : World} {f u l : Value} {F U V : List Int} (h : Three w wr f u l F U V) (hb : Below wr.heap.size wr w') : Three w w' f u l F U V :=
  ⟨h.of.kept (below_grown hb) (by cases f.ownBlock <;> simp), h.ou.kept (below_grown hb) (by cases u.ownBlock <;> simp), h.ol.kept (below_grown hb) (by cases l.ownBlock <;> simp), h.fu, h.fl, h.ul, h.nf, h.nu, h.nl, below_up h.bl hb⟩

theorem Four.below {w wr w' : World} {v f u l : Value} {gs : List (Int × Int)} {F U V : List Int} (h : Four w wr v gs f u l F U V) (hb : Below wr.heap.size wr w') : Four w w' v gs f u l F U V :=
  ⟨h.own.kept (below_grown hb) (by cases v.ownBlock <;> simp), h.t.below hb, h.vf, h.vu, h.vl, h.nv⟩

/-- What is appended at once. -/
theorem Four.join {w wr w1 : World} {v v' f u l : Value} {gs hs : List (Int × Int)} {F U V : List Int} (h : Four w wr v gs f u l F U V)
    (hown : w1.ownsRow 0 33 2 v' (gs.length + hs.length) (flat gs ++ flat hs)) (hp : Grew wr w1 v v') : Four w w1 v' (gs ++ hs) f u l F U V := by
  rw [← flat_append, ← List.length_append] at hown
  exact ⟨hown, ⟨hp.keep h.t.of h.vf, hp.keep h.t.ou h.vu, hp.keep h.t.ol h.vl, h.t.fu, h.t.fl, h.t.ul, h.t.nf, h.t.nu, h.t.nl, hp.below h.t.bl h.t.bl.size h.nv⟩,
    hp.apart h.t.of h.vf, hp.apart h.t.ou h.vu, hp.apart h.t.ol h.vl, hp.from_ h.t.bl.size h.nv⟩

theorem flat_one (gs : List (Int × Int)) : ∀ u ∈ flat gs, u.oneCell' = true := by
  intro u hu
  simp only [flat, List.mem_flatMap] at hu
  obtain ⟨g, _, hg⟩ := hu
  simp at hg
  rcases hg with rfl | rfl <;> rfl

theorem gates_parts (xs : List Int) (h : 2 < xs.length) : (gatesL xs).length = xs.length / 2 + (gatesL (upper xs)).length + (gatesL (lower xs)).length + lastRow xs.length := by
  rw [gatesL_more xs h]
  simp only [List.length_append, pairs, List.length_map, List.length_range]

theorem refGates_few (xs : List Int) (hn : xs.length < 2) (a : Option Addr) (cap : Nat) (w : World) : Calls Try.prog 32 #[.slice a xs.length cap] w (GatesPost w xs) := by
  have HG := Lib.hid (gatesL_few xs hn)
  go_enter Try.func32, Try.ntmps32
  go_wp2
  go_ret
  exact ⟨_, rfl, ⟨by rw [HG.out]; exact World.ownsRow_nil _ _ _ _, fun q h => by simp [Value.ownBlock] at h⟩, Below.refl _ _⟩

set_option maxHeartbeats 1000000 in
theorem refGates_two (xs : List Int) (hn : xs.length = 2) (a : Option Addr) (cap : Nat) (w : World) (hs : Sl w w.heap.size a (xs.map (Value.int .i64))) : Calls Try.prog 32 #[.slice a xs.length cap] w (GatesPost w xs) := by
  have hG := gatesL_two xs hn
  obtain ⟨b1, o1, rfl, hb1, hx1⟩ := hs.at 0 (by simp; omega)
  obtain ⟨b2, o2, e2, hb2, hx2⟩ := hs.at 1 (by simp; omega)
  simp only [Option.some.injEq, Addr.mk.injEq, and_true] at e2
  obtain ⟨rfl, rfl⟩ := e2
  rw [List.getElem_map] at hx1 hx2
  have e1 : xs[0] = xs.getD 0 0 := by simp [List.getD, List.getElem?_eq_getElem (show 0 < xs.length by omega)]
  have e2 : xs[1] = xs.getD 1 0 := by simp [List.getD, List.getElem?_eq_getElem (show 1 < xs.length by omega)]
  rw [e1] at hx1
  rw [e2] at hx2
  simp only [Nat.add_zero] at hx1
  have h3 : ((xs.length : Int) == 2) = true := by simp; omega
  have h4 : (0 : Int) < (xs.length : Int) := by omega
  have h5 : (1 : Int) < (xs.length : Int) := by omega
  have h6 : 0 < xs.length := by omega
  have h7 : 1 < xs.length := by omega
  have HN := Lib.hid hn
  have HG := Lib.hid hG
  clear hs hn hG e1 e2
  generalize xs.getD 0 0 = x at *
  generalize xs.getD 1 0 = y at *
  go_enter Try.func32, Try.ntmps32
  go_wp2_with fail
  refine wp_region_flat (fun w' => ∃ E : But w none, w' = E.w) [(0, true), (1, true), (2, true), (3, true), (4, true), (5, true), (6, true), (7, false), (8, true)] (by kernel_rfl) (by kernel_rfl) (fun _ _ d _ _ h => by cases d <;> exact h) (but_of (grownBy_drew (grownBy_refl _ _))) ?_
  have hov := fun (E : But w none) o => E.cell (b := b1) o hb1 (by simp)
  repeat (refine flat_q rfl rfl ?_; go_big_quiet_step (fail); refine wpQuiet_nil ?_)
  refine flat_a rfl (fun K hK => ?_)
  go_simp
  refine hK _ _ ⟨but_of (grownBy_drew (grownBy_alloc' (grownBy_refl _ _) _)), ?_⟩
  clear hK K hov
  refine flat_q rfl rfl ?_
  go_big_quiet_step (fail)
  refine wpQuiet_nil ?_
  refine flat_end ?_
  go_wp2
  go_ret
  refine ⟨_, rfl, ⟨?_, fun q h => by simp [Value.ownBlock] at h; omega⟩, ((Below.refl _ _).alloc (Nat.le_refl _) _).drew⟩
  rw [HG.out]
  have h := World.ownsRow_lit (base := 0) (e := 33) (size := 2) w.drew #[.int .i64 x, .int .i64 y] 1 (Nat.zero_le _) (by unfold maxLen; omega) rfl
  exact h

set_option maxHeartbeats 4000000 in
theorem refGates_any : ∀ (N : Nat) (xs : List Int), xs.length ≤ N → ∀ (a : Option Addr) (cap : Nat) (w : World), Sl w w.heap.size a (xs.map (Value.int .i64)) → xs.length ≤ 4096 → (gatesL xs).length ≤ 1000000 →
    Calls Try.prog 32 #[.slice a xs.length cap] w (GatesPost w xs) := by
  intro N
  induction N with
  | zero => intro xs hN a cap w _ _ _; exact refGates_few xs (by omega) a cap w
  | succ N ih =>
    intro xs hN a cap w hs hn hlen
    rcases Nat.lt_or_ge xs.length 2 with hlt | hge
    · exact refGates_few xs hlt a cap w
    · by_cases he : xs.length = 2
      · exact refGates_two xs he a cap w hs
      · have hgt : 2 < xs.length := by omega
        have h3 : ((xs.length : Int) == 2) = false := by simp; omega
        obtain ⟨i0, hi, hz0, hz1, hz2⟩ := info_parts infoInt
        have HIH := Lib.hid ih
        have HS := Lib.hid hs
        clear ih hs he
        go_enter Try.func32, Try.ntmps32
        go_wp2
        go_loopw [5, 6, 7, 32] (fun f u l i wr => ∃ j : Nat, j ≤ xs.length ∧ i = .int .i64 j ∧ Hid (Three w wr f u l (xs.take j) (upTo xs.length xs j) (lowTo xs.length xs j))) (fun _ _ _ i _ => xs.length - (intOf i).toNat)
        case atStart => exact ⟨0, Nat.zero_le _, rfl, ⟨World.ownsRow_nil _ _ _ _, World.ownsRow_nil _ _ _ _, World.ownsRow_nil _ _ _ _, Apart.nil_left _, Apart.nil_left _, Apart.nil_left _, fun q h => by simp [Value.ownBlock] at h, fun q h => by simp [Value.ownBlock] at h, fun q h => by simp [Value.ownBlock] at h, Below.refl _ _⟩⟩
        case round =>
          obtain ⟨j, hj, rfl, HT⟩ := hrel
          by_cases hjl : j < xs.length
          · obtain ⟨bb, off, rfl, hbb, hcell⟩ := (HS.out.below HT.out.bl).at j (by simpa using hjl)
            have hsz := HT.out.bl.size
            have hbr : bb < wr.heap.size := by omega
            have hx : xs.getD j 0 = xs[j] := by simp [List.getD, hjl]
            rw [List.getElem_map, ← hx] at hcell
            have hb2 := both_length xs.length xs j
            have hl0 : (xs.take j).length ≤ 4096 := by rw [List.length_take]; omega
            have hf1 := iff_take xs j hjl
            have hu1 := upTo_succ xs.length xs j
            have hl1 := lowTo_succ xs.length xs j
            clear hx
            generalize xs.getD j 0 = x at *
            generalize xs.take j = F at *
            generalize upTo xs.length xs j = U at *
            generalize lowTo xs.length xs j = V at *
            have HF1 := Lib.hid hf1
            have HU1 := Lib.hid hu1
            have HL1 := Lib.hid hl1
            have hlU : U.length ≤ 4096 := by omega
            have hlV : V.length ≤ 4096 := by omega
            clear hf1 hu1 hl1 hb2
            by_cases hlt : j < 2 * (xs.length / 2)
            · have h2 : (j : Int) < 2 * ((xs.length : Int) / 2) := by omega
              by_cases hev : j % 2 = 0
              · have h1 : ((j : Int) % 2 == 0) = true := by simp; omega
                have e1 : isUp xs.length j = true := by simp [isUp]; omega
                have HEV := Lib.hid hev
                have HE1 := Lib.hid e1
                clear hev e1
                go_wp2_with (at_builtin; refine wpList_push wr rfl _ _ 25 rfl 3 i0 _ 1 8 Try.underlying25 hi hz0 hz1 hz2 rfl (by omega) u6 U.length (U.map (Value.int .i64)) rfl HT.out.ou _ _ _ rfl rfl rfl (by simp [Value.oneCell']) (by omega) (by unfold maxLen; omega) ?_)
                intro g gc w1 hown hp
                have HT1 := Lib.hid (HT.out.pushU hown hp)
                clear hown hp
                go_wp2_with (at_builtin; refine wpList_push w1 rfl _ _ 25 rfl 3 i0 _ 1 8 Try.underlying25 hi hz0 hz1 hz2 rfl (by omega) u5 F.length (F.map (Value.int .i64)) rfl HT1.out.of _ _ _ rfl rfl rfl (by simp [Value.oneCell']) (by omega) (by unfold maxLen; omega) ?_)
                intro g2 gc2 w2 hown hp
                have HT2 := Lib.hid (HT1.out.pushF hown hp)
                clear hown hp
                go_wp2
                go_roundw
                case rel => exact ⟨j + 1, by omega, by go_num, by show Three _ _ _ _ _ _ _ _; rw [HF1.out, HU1.out, if_pos HE1.out, HL1.out, if_pos HE1.out, List.append_nil]; exact HT2.out⟩
                case measure => simp [intOf]; omega
              · have h1 : ((j : Int) % 2 == 0) = false := by simp; omega
                have e1 : isUp xs.length j = false := by simp [isUp]; omega
                have HEV := Lib.hid hev
                have HE1 := Lib.hid e1
                clear hev e1
                go_wp2_with (at_builtin; refine wpList_push wr rfl _ _ 25 rfl 3 i0 _ 1 8 Try.underlying25 hi hz0 hz1 hz2 rfl (by omega) u7 V.length (V.map (Value.int .i64)) rfl HT.out.ol _ _ _ rfl rfl rfl (by simp [Value.oneCell']) (by omega) (by unfold maxLen; omega) ?_)
                intro g gc w1 hown hp
                have HT1 := Lib.hid (HT.out.pushL hown hp)
                clear hown hp
                go_wp2_with (at_builtin; refine wpList_push w1 rfl _ _ 25 rfl 3 i0 _ 1 8 Try.underlying25 hi hz0 hz1 hz2 rfl (by omega) u5 F.length (F.map (Value.int .i64)) rfl HT1.out.of _ _ _ rfl rfl rfl (by simp [Value.oneCell']) (by omega) (by unfold maxLen; omega) ?_)
                intro g2 gc2 w2 hown hp
                have HT2 := Lib.hid (HT1.out.pushF hown hp)
                clear hown hp
                go_wp2
                go_roundw
                case rel => exact ⟨j + 1, by omega, by go_num, by show Three _ _ _ _ _ _ _ _; rw [HF1.out, HU1.out, HE1.out, if_neg Bool.false_ne_true, List.append_nil, HL1.out, HE1.out, if_neg Bool.false_ne_true]; exact HT2.out⟩
                case measure => simp [intOf]; omega
            · have h2 : 2 * ((xs.length : Int) / 2) ≤ (j : Int) := by omega
              have e1 : isUp xs.length j = false := by simp [isUp]; omega
              have HE1 := Lib.hid e1
              clear e1
              go_wp2_with (at_builtin; refine wpList_push wr rfl _ _ 25 rfl 3 i0 _ 1 8 Try.underlying25 hi hz0 hz1 hz2 rfl (by omega) u7 V.length (V.map (Value.int .i64)) rfl HT.out.ol _ _ _ rfl rfl rfl (by simp [Value.oneCell']) (by omega) (by unfold maxLen; omega) ?_)
              intro g gc w1 hown hp
              have HT1 := Lib.hid (HT.out.pushL hown hp)
              clear hown hp
              go_wp2_with (at_builtin; refine wpList_push w1 rfl _ _ 25 rfl 3 i0 _ 1 8 Try.underlying25 hi hz0 hz1 hz2 rfl (by omega) u5 F.length (F.map (Value.int .i64)) rfl HT1.out.of _ _ _ rfl rfl rfl (by simp [Value.oneCell']) (by omega) (by unfold maxLen; omega) ?_)
              intro g2 gc2 w2 hown hp
              have HT2 := Lib.hid (HT1.out.pushF hown hp)
              clear hown hp
              go_wp2
              go_roundw
              case rel => exact ⟨j + 1, by omega, by go_num, by show Three _ _ _ _ _ _ _ _; rw [HF1.out, HU1.out, HE1.out, if_neg Bool.false_ne_true, List.append_nil, HL1.out, HE1.out, if_neg Bool.false_ne_true]; exact HT2.out⟩
              case measure => simp [intOf]; omega
          · have hjn : j = xs.length := by omega
            subst hjn
            have ht : Three w wr u5 u6 u7 xs (upper xs) (lower xs) := by
              have h := HT.out
              rw [List.take_length] at h
              exact h
            clear HT
            obtain ⟨af, cf, rfl, _⟩ := own_form ht.of
            obtain ⟨au, cu, rfl, _⟩ := own_form ht.ou
            obtain ⟨al, cl, rfl, _⟩ := own_form ht.ol
            have HT := Lib.hid ht
            clear ht
            go_wp2
            obtain ⟨wo, rfl⟩ : ∃ wo : World, wo = wr := ⟨_, rfl⟩
            obtain ⟨fg, haf⟩ : ∃ fg, af = some ⟨fg, 0, none⟩ := by
              rcases own_form HT.out.of with ⟨a, c, e, h | ⟨g, h, _⟩⟩
              · omega
              · simp only [Value.slice.injEq] at e; exact ⟨g, by rw [e.1]; exact h⟩
            subst haf
            obtain ⟨j0, hj0, hj0'⟩ : ∃ j0 : Int, j0 = 0 ∧ j0 = 0 := ⟨0, rfl, rfl⟩
            clear hj0 hj0'
            obtain ⟨ig, hig, gz0, gz1, gz2⟩ := info_parts infoGate
            obtain ⟨k, hk⟩ : ∃ k : Nat, k = xs.length / 2 := ⟨_, rfl⟩
            have hkx : k ≤ 4096 := by omega
            have hkk : ((xs.length : Int) / 2) = (k : Int) := by omega
            have HK := Lib.hid hk
            rw [hkk]
            clear hk hkk
            go_loopw [10, 11] (fun v i wq => ∃ j : Nat, j ≤ k ∧ i = .int .i64 j ∧ Hid (Four w wq v (pairs j xs) (.slice (some ⟨fg, 0, none⟩) xs.length cf) (.slice au (upper xs).length cu) (.slice al (lower xs).length cl) xs (upper xs) (lower xs))) (fun _ i _ => k - (intOf i).toNat)
            case atStart => exact ⟨0, Nat.zero_le _, rfl, ⟨World.ownsRow_nil _ _ _ _, HT.out, Apart.nil_left _, Apart.nil_left _, Apart.nil_left _, fun q h => by simp [Value.ownBlock] at h⟩⟩
            case round =>
              obtain ⟨j, hj, rfl, HF⟩ := hrel
              clear HT
              by_cases hjk : j < k
              · have hk2 := HK.out
                have hx1 := HF.out.t.of.cellAt (2 * j) (by omega)
                have hx2 := HF.out.t.of.cellAt (2 * j + 1) (by omega)
                have e1 : (xs.map (Value.int .i64))[2 * j]? = some (.int .i64 (xs.getD (2 * j) 0)) := by simp [List.getD, List.getElem?_eq_getElem (show 2 * j < xs.length by omega)]
                have e2 : (xs.map (Value.int .i64))[2 * j + 1]? = some (.int .i64 (xs.getD (2 * j + 1) 0)) := by simp [List.getD, List.getElem?_eq_getElem (show 2 * j + 1 < xs.length by omega)]
                rw [e1] at hx1
                rw [e2] at hx2
                have hp := pairs_succ j xs
                have hlp : (pairs j xs).length ≤ 4096 := by simp [pairs]; omega
                have b1 : 2 * j < xs.length := by omega
                have b2 : 2 * j + 1 < xs.length := by omega
                have b3 : (2 : Int) * (j : Int) < (xs.length : Int) := by omega
                have b4 : (2 : Int) * (j : Int) + 1 < (xs.length : Int) := by omega
                have HP := Lib.hid hp
                clear hp e1 e2 hk2
                generalize xs.getD (2 * j) 0 = x at *
                generalize xs.getD (2 * j + 1) 0 = y at *
                generalize hPJ : pairs j xs = G at *
                have HPJ := Lib.hid hPJ
                clear hPJ
                have hji : (j : Int) < (k : Int) := by omega
                go_wp2_with fail
                refine wp_region_flat (fun w' => ∃ E : But wr u10.ownBlock, w' = E.w) [(0, true), (1, true), (2, true), (3, true), (4, true), (5, true), (6, true), (7, true), (8, true), (9, true), (10, true), (11, true), (12, true), (13, false), (14, false), (15, true)] (by kernel_rfl) (by kernel_rfl) (fun _ _ d _ _ h => by cases d <;> exact h) (but_of (grownBy_drew (grownBy_refl _ _))) ?_
                have hfg : fg < wr.heap.size := (HF.out.t.of.lt fg (by simp [Value.ownBlock])).2
                have hov := fun (E : But wr u10.ownBlock) o => E.cell (b := fg) o hfg (fun e => HF.out.vf fg e (by simp [Value.ownBlock]))
                repeat (refine flat_q rfl rfl ?_; go_big_quiet_step (fail); refine wpQuiet_nil ?_)
                refine flat_a rfl (fun K hK => ?_)
                go_simp
                refine hK _ _ ⟨but_of (grownBy_drew (grownBy_alloc' (grownBy_refl _ _) _)), ?_⟩
                clear hK K
                refine flat_a rfl (fun K hK => ?_)
                refine step_push wr.drew rfl _ _ 29 rfl 33 ig _ 2 16 Try.underlying29 hig gz0 gz1 gz2 rfl (by omega) u10 G.length (flat G) rfl HF.out.own _ _ _ rfl rfl rfl (by simp [Value.oneCell']) (by omega) (by unfold maxLen; omega) ?_
                intro g gc w1 hown hp
                have hp' : Pushed wr w1 u10 g := hp.of_drew
                have HF1 := Lib.hid (HF.out.push (hs := [(x, y)]) (by simp) (by simp [flat]) hown hp')
                refine hK _ _ ⟨but_of hp'.grown, ?_⟩
                clear hK K hown hp hp' hov
                simp only [Act.put, List.setIfInBounds_toArray, List.set_cons_zero, List.set_cons_succ]
                refine flat_q rfl rfl ?_
                go_big_quiet_step (fail)
                refine wpQuiet_nil ?_
                refine flat_end ?_
                rw [← HP.out] at HF1
                go_wp2
                go_roundw
                case rel => first | exact ⟨j + 1, by omega, by go_num, HF1⟩ | ((repeat apply Exists.intro); exact ⟨⟨j + 1, by omega, by go_num, HF1⟩, rfl⟩)
                case measure => simp [intOf]; omega
              · have hjn : j = k := by omega
                subst hjn
                go_wp2_with fail
                refine (HIH.out (upper xs) (by have := upper_length xs; omega) au cu wr (Sl.of_own HF.out.t.ou) (by have := upper_length xs; omega) (by have := gates_parts xs hgt; omega)).mono ?_
                rintro e w3 ⟨mu, rfl, hmu, hb3⟩
                have HF3 := Lib.hid (HF.out.below hb3)
                have HMU := Lib.hid hmu
                clear hmu hb3
                have hle3 : (pairs j xs).length ≤ 4096 := by simp [pairs]; omega
                have hle4 : (gatesL (upper xs)).length ≤ 1000000 := by have := gates_parts xs hgt; omega
                go_wp2_with (at_builtin; refine wpList_join w3 rfl _ _ 29 rfl 33 ig _ 2 16 Try.underlying29 hig gz0 gz1 gz2 rfl (by omega) u10 (pairs j xs).length (flat (pairs j xs)) rfl HF3.out.own mu (gatesL (upper xs)).length (flat (gatesL (upper xs))) rfl HMU.out.own (flat_one _) (by omega) (by unfold maxLen; omega) ?_)
                intro v4 w4 hown hp
                have HF4 := Lib.hid (HF3.out.join hown hp)
                clear hown hp HF3 HMU HF
                go_wp2_with fail
                refine (HIH.out (lower xs) (by have := lower_length xs; omega) al cl w4 (Sl.of_own HF4.out.t.ol) (by have := lower_length xs; omega) (by have := gates_parts xs hgt; omega)).mono ?_
                rintro e w5 ⟨mu, rfl, hmu, hb5⟩
                have HF5 := Lib.hid (HF4.out.below hb5)
                have HMU := Lib.hid hmu
                clear hmu hb5 HF4
                have hle5 : (pairs j xs ++ gatesL (upper xs)).length ≤ 1004096 := by rw [List.length_append]; omega
                have hle6 : (gatesL (lower xs)).length ≤ 1000000 := by have := gates_parts xs hgt; omega
                generalize hG5 : pairs j xs ++ gatesL (upper xs) = G5 at *
                have HG5 := Lib.hid hG5
                clear hG5
                go_wp2_with (at_builtin; refine wpList_join w5 rfl _ _ 29 rfl 33 ig _ 2 16 Try.underlying29 hig gz0 gz1 gz2 rfl (by omega) v4 G5.length (flat G5) rfl HF5.out.own mu (gatesL (lower xs)).length (flat (gatesL (lower xs))) rfl HMU.out.own (flat_one _) (by omega) (by unfold maxLen; omega) ?_)
                intro v6 w6 hown hp
                have HF6 := Lib.hid (HF5.out.join hown hp)
                clear hown hp HF5 HMU
                have hle7 : (G5 ++ gatesL (lower xs)).length ≤ 3000000 := by rw [List.length_append]; omega
                generalize hG7 : G5 ++ gatesL (lower xs) = G7 at *
                have HG7 := Lib.hid hG7
                clear hG7
                obtain ⟨m, hm⟩ : ∃ m : Nat, m = lastRow xs.length := ⟨_, rfl⟩
                have hm2 := hm
                unfold lastRow at hm2
                have hmx : m ≤ 4096 := by omega
                have hk2 := HK.out
                have HM := Lib.hid hm
                by_cases hev : xs.length % 2 = 0
                · have e1 : ((xs.length : Int) % 2 == 0) = true := by simp; omega
                  have e3 : ((j : Int) - 1) = (m : Int) := by omega
                  clear hm hm2 hk2 hev
                  go_wp2_with fail
                  clear e3
                  have hm2x : 2 * m ≤ xs.length := by have := HM.out; unfold lastRow at this; omega
                  go_loopw [10, 13] (fun v i wq => ∃ q : Nat, q ≤ m ∧ i = .int .i64 q ∧ Hid (Four w wq v (G7 ++ pairs q xs) (.slice (some ⟨fg, 0, none⟩) xs.length cf) (.slice au (upper xs).length cu) (.slice al (lower xs).length cl) xs (upper xs) (lower xs))) (fun _ i _ => m - (intOf i).toNat)
                  case atStart =>
                    refine ⟨0, Nat.zero_le _, rfl, ?_⟩
                    have h := HF6.out
                    show Four _ _ _ _ _ _ _ _ _ _
                    simpa [pairs] using h
                  case round =>
                    obtain ⟨q, hq, rfl, HF⟩ := hrel
                    clear HF6
                    by_cases hqm : q < m
                    · have hx1 := HF.out.t.of.cellAt (2 * q) (by omega)
                      have hx2 := HF.out.t.of.cellAt (2 * q + 1) (by omega)
                      have e1' : (xs.map (Value.int .i64))[2 * q]? = some (.int .i64 (xs.getD (2 * q) 0)) := by simp [List.getD, List.getElem?_eq_getElem (show 2 * q < xs.length by omega)]
                      have e2' : (xs.map (Value.int .i64))[2 * q + 1]? = some (.int .i64 (xs.getD (2 * q + 1) 0)) := by simp [List.getD, List.getElem?_eq_getElem (show 2 * q + 1 < xs.length by omega)]
                      rw [e1'] at hx1
                      rw [e2'] at hx2
                      have hp := pairs_succ q xs
                      have hlp : (G7 ++ pairs q xs).length ≤ 3004096 := by rw [List.length_append]; simp [pairs]; omega
                      have b1 : 2 * q < xs.length := by omega
                      have b2 : 2 * q + 1 < xs.length := by omega
                      have b3 : (2 : Int) * (q : Int) < (xs.length : Int) := by omega
                      have b4 : (2 : Int) * (q : Int) + 1 < (xs.length : Int) := by omega
                      have hp2 : G7 ++ pairs (q + 1) xs = (G7 ++ pairs q xs) ++ [(xs.getD (2 * q) 0, xs.getD (2 * q + 1) 0)] := by rw [hp, List.append_assoc]
                      have HP := Lib.hid hp2
                      clear hp hp2 e1' e2'
                      generalize xs.getD (2 * q) 0 = x at *
                      generalize xs.getD (2 * q + 1) 0 = y at *
                      generalize hPJ : G7 ++ pairs q xs = G at *
                      clear hPJ
                      have hji : (q : Int) < (m : Int) := by omega
                      go_wp2_with fail
                      refine wp_region_flat (fun w' => ∃ E : But wr u10.ownBlock, w' = E.w) [(0, true), (1, true), (2, true), (3, true), (4, true), (5, true), (6, true), (7, true), (8, true), (9, true), (10, true), (11, true), (12, true), (13, false), (14, false), (15, true)] (by kernel_rfl) (by kernel_rfl) (fun _ _ d _ _ h => by cases d <;> exact h) (but_of (grownBy_drew (grownBy_refl _ _))) ?_
                      have hfg : fg < wr.heap.size := (HF.out.t.of.lt fg (by simp [Value.ownBlock])).2
                      have hov := fun (E : But wr u10.ownBlock) o => E.cell (b := fg) o hfg (fun e => HF.out.vf fg e (by simp [Value.ownBlock]))
                      repeat (refine flat_q rfl rfl ?_; go_big_quiet_step (fail); refine wpQuiet_nil ?_)
                      refine flat_a rfl (fun K hK => ?_)
                      go_simp
                      refine hK _ _ ⟨but_of (grownBy_drew (grownBy_alloc' (grownBy_refl _ _) _)), ?_⟩
                      clear hK K
                      refine flat_a rfl (fun K hK => ?_)
                      refine step_push wr.drew rfl _ _ 29 rfl 33 ig _ 2 16 Try.underlying29 hig gz0 gz1 gz2 rfl (by omega) u10 G.length (flat G) rfl HF.out.own _ _ _ rfl rfl rfl (by simp [Value.oneCell']) (by omega) (by unfold maxLen; omega) ?_
                      intro g gc w1 hown hp
                      have hp' : Pushed wr w1 u10 g := hp.of_drew
                      have HF1 := Lib.hid (HF.out.push (hs := [(x, y)]) (by simp) (by simp [flat]) hown hp')
                      refine hK _ _ ⟨but_of hp'.grown, ?_⟩
                      clear hK K hown hp hp' hov
                      simp only [Act.put, List.setIfInBounds_toArray, List.set_cons_zero, List.set_cons_succ]
                      refine flat_q rfl rfl ?_
                      go_big_quiet_step (fail)
                      refine wpQuiet_nil ?_
                      refine flat_end ?_
                      rw [← HP.out] at HF1
                      go_wp2
                      go_roundw
                      case rel => first | exact ⟨q + 1, by omega, by go_num, HF1⟩ | ((repeat apply Exists.intro); exact ⟨⟨q + 1, by omega, by go_num, HF1⟩, rfl⟩)
                      case measure => simp [intOf]; omega
                    · have hqn : q = m := by omega
                      subst hqn
                      go_wp2
                      go_ret
                      refine ⟨_, rfl, ⟨?_, HF.out.nv⟩, HF.out.t.bl⟩
                      have h := HF.out.own
                      rw [← HG7.out, ← HG5.out] at h
                      rw [gatesL_more xs hgt, ← HM.out, ← HK.out]
                      exact h
                · have e1 : ((xs.length : Int) % 2 == 0) = false := by simp; omega
                  have e3 : m = j := by omega
                  have e2 : 2 * m < xs.length := by omega
                  clear hm hm2 hk2 hev
                  subst e3
                  go_wp2_with fail
                  have hm2x : 2 * m ≤ xs.length := by have := HM.out; unfold lastRow at this; omega
                  go_loopw [10, 13] (fun v i wq => ∃ q : Nat, q ≤ m ∧ i = .int .i64 q ∧ Hid (Four w wq v (G7 ++ pairs q xs) (.slice (some ⟨fg, 0, none⟩) xs.length cf) (.slice au (upper xs).length cu) (.slice al (lower xs).length cl) xs (upper xs) (lower xs))) (fun _ i _ => m - (intOf i).toNat)
                  case atStart =>
                    refine ⟨0, Nat.zero_le _, rfl, ?_⟩
                    have h := HF6.out
                    show Four _ _ _ _ _ _ _ _ _ _
                    simpa [pairs] using h
                  case round =>
                    obtain ⟨q, hq, rfl, HF⟩ := hrel
                    clear HF6
                    by_cases hqm : q < m
                    · have hx1 := HF.out.t.of.cellAt (2 * q) (by omega)
                      have hx2 := HF.out.t.of.cellAt (2 * q + 1) (by omega)
                      have e1' : (xs.map (Value.int .i64))[2 * q]? = some (.int .i64 (xs.getD (2 * q) 0)) := by simp [List.getD, List.getElem?_eq_getElem (show 2 * q < xs.length by omega)]
                      have e2' : (xs.map (Value.int .i64))[2 * q + 1]? = some (.int .i64 (xs.getD (2 * q + 1) 0)) := by simp [List.getD, List.getElem?_eq_getElem (show 2 * q + 1 < xs.length by omega)]
                      rw [e1'] at hx1
                      rw [e2'] at hx2
                      have hp := pairs_succ q xs
                      have hlp : (G7 ++ pairs q xs).length ≤ 3004096 := by rw [List.length_append]; simp [pairs]; omega
                      have b1 : 2 * q < xs.length := by omega
                      have b2 : 2 * q + 1 < xs.length := by omega
                      have b3 : (2 : Int) * (q : Int) < (xs.length : Int) := by omega
                      have b4 : (2 : Int) * (q : Int) + 1 < (xs.length : Int) := by omega
                      have hp2 : G7 ++ pairs (q + 1) xs = (G7 ++ pairs q xs) ++ [(xs.getD (2 * q) 0, xs.getD (2 * q + 1) 0)] := by rw [hp, List.append_assoc]
                      have HP := Lib.hid hp2
                      clear hp hp2 e1' e2'
                      generalize xs.getD (2 * q) 0 = x at *
                      generalize xs.getD (2 * q + 1) 0 = y at *
                      generalize hPJ : G7 ++ pairs q xs = G at *
                      clear hPJ
                      have hji : (q : Int) < (m : Int) := by omega
                      go_wp2_with fail
                      refine wp_region_flat (fun w' => ∃ E : But wr u10.ownBlock, w' = E.w) [(0, true), (1, true), (2, true), (3, true), (4, true), (5, true), (6, true), (7, true), (8, true), (9, true), (10, true), (11, true), (12, true), (13, false), (14, false), (15, true)] (by kernel_rfl) (by kernel_rfl) (fun _ _ d _ _ h => by cases d <;> exact h) (but_of (grownBy_drew (grownBy_refl _ _))) ?_
                      have hfg : fg < wr.heap.size := (HF.out.t.of.lt fg (by simp [Value.ownBlock])).2
                      have hov := fun (E : But wr u10.ownBlock) o => E.cell (b := fg) o hfg (fun e => HF.out.vf fg e (by simp [Value.ownBlock]))
                      repeat (refine flat_q rfl rfl ?_; go_big_quiet_step (fail); refine wpQuiet_nil ?_)
                      refine flat_a rfl (fun K hK => ?_)
                      go_simp
                      refine hK _ _ ⟨but_of (grownBy_drew (grownBy_alloc' (grownBy_refl _ _) _)), ?_⟩
                      clear hK K
                      refine flat_a rfl (fun K hK => ?_)
                      refine step_push wr.drew rfl _ _ 29 rfl 33 ig _ 2 16 Try.underlying29 hig gz0 gz1 gz2 rfl (by omega) u10 G.length (flat G) rfl HF.out.own _ _ _ rfl rfl rfl (by simp [Value.oneCell']) (by omega) (by unfold maxLen; omega) ?_
                      intro g gc w1 hown hp
                      have hp' : Pushed wr w1 u10 g := hp.of_drew
                      have HF1 := Lib.hid (HF.out.push (hs := [(x, y)]) (by simp) (by simp [flat]) hown hp')
                      refine hK _ _ ⟨but_of hp'.grown, ?_⟩
                      clear hK K hown hp hp' hov
                      simp only [Act.put, List.setIfInBounds_toArray, List.set_cons_zero, List.set_cons_succ]
                      refine flat_q rfl rfl ?_
                      go_big_quiet_step (fail)
                      refine wpQuiet_nil ?_
                      refine flat_end ?_
                      rw [← HP.out] at HF1
                      go_wp2
                      go_roundw
                      case rel => first | exact ⟨q + 1, by omega, by go_num, HF1⟩ | ((repeat apply Exists.intro); exact ⟨⟨q + 1, by omega, by go_num, HF1⟩, rfl⟩)
                      case measure => simp [intOf]; omega
                    · have hqn : q = m := by omega
                      subst hqn
                      go_wp2
                      go_ret
                      refine ⟨_, rfl, ⟨?_, HF.out.nv⟩, HF.out.t.bl⟩
                      have h := HF.out.own
                      rw [← HG7.out, ← HG5.out] at h
                      rw [gatesL_more xs hgt, ← HM.out, ← HK.out]
                      exact h

theorem refPlan_bad (n : Int) (w : World) (hn : ¬ (1 ≤ n ∧ n ≤ 256)) : Calls Try.prog 14 #[.int .i64 n] w fun e w' => e = .returned (.tuple #[.slice none 0 0, .int .i64 4]) ∧ w = w' := by
  by_cases h1 : n < 1
  · go_enter Try.func14, Try.ntmps14
    go_wp2
    go_ret2
    exact ⟨rfl, rfl⟩
  · have h2 : 256 < n := by omega
    clear hn
    go_enter Try.func14, Try.ntmps14
    go_wp2
    go_ret2
    exact ⟨rfl, rfl⟩

theorem refPlan_ok (n : Nat) (w : World) (h1 : 1 ≤ n) (h2 : n ≤ 256) : Calls Try.prog 14 #[.int .i64 n] w (PlanPost2 w n) := by
  have h3 : ¬ (n : Int) < 1 := by omega
  have h4 : ¬ (256 : Int) < (n : Int) := by omega
  have hle := gates_le n h2
  have HL := Lib.hid hle
  clear hle
  go_enter Try.func14, Try.ntmps14
  go_wp2_with fail
  refine (refUpTo_any n w (by omega)).mono ?_
  rintro e w1 ⟨u, rfl, hm, hb1⟩
  obtain ⟨au, cu, rfl, _⟩ := own_form hm.own
  have HM := Lib.hid hm
  clear hm
  go_wp2_with fail
  refine (refGates_any n (iota n) (by rw [iota_length]; exact Nat.le_refl _) au cu w1 (Sl.of_own HM.out.own) (by rw [iota_length]; omega) (by have := HL.out; omega)).mono ?_
  rintro e w2 ⟨u, rfl, hg, hb2⟩
  have fin : PlanPost2 w n (.returned (.tuple #[u, .int .i64 0])) w2 := ⟨u, rfl, ⟨hg.own, fun q hq => Nat.le_trans hb1.size (hg.new_ q hq)⟩, below_up hb1 hb2⟩
  clear hg hb1 hb2
  go_wp2_with fail
  go_ret2
  exact fin

end Go.Proofs.Ytbjhcpchljjmhaa
