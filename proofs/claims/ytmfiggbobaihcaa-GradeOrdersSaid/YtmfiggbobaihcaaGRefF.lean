/- The document's Without. -/
import Derived.Test.YtmfiggbobaihcaaGRefE
namespace Go.Proofs.Ytmfiggbobaihcaa
open Go.RowKit Go.Shelf

/-- An order of its own, for an append; orders of the call's own. -/
def OneO (B : Nat) (x : Od) (v : Value) (W : World) : Prop := ∃ g, v = .slice (some ⟨g, 0, none⟩) 1 1 ∧ B ≤ g ∧ g < W.heap.size ∧ W.cell? ⟨g, 0, none⟩ = some (.int .i64 x.g) ∧ W.cell? ⟨g, 1, none⟩ = some (.int .i64 x.m)
theorem OneO.stab {B : Nat} {x : Od} : ∀ v W W', Gr W W' → OneO B x v W → OneO B x v W' := fun _ _ _ hG ⟨g, h1, h0, h2, h3, h4⟩ =>
  ⟨g, h1, h0, Nat.lt_of_lt_of_le h2 hG.size, (hG.cell (p := ⟨g, 0, none⟩) h2).trans h3, (hG.cell (p := ⟨g, 1, none⟩) h2).trans h4⟩
theorem OneO.grown {B : Nat} {x : Od} {v : Value} {W W' : World} {row : Option Nat} (h : OneO B x v W) (hg : W.grownBy W' row) (hr : ∀ r, row = some r → r < B) : OneO B x v W' := by
  obtain ⟨g, h1, h0, h2, h3, h4⟩ := h
  have hb := hg.block g h2 (fun e => by have := hr g e.symm; omega)
  refine ⟨g, h1, h0, Nat.lt_of_lt_of_le h2 hg.size, ?_, ?_⟩
  · rw [← h3]; exact World.cell?_of_block hb
  · rw [← h4]; exact World.cell?_of_block hb
def RowO (B : Nat) (xs : List Od) (v : Value) (W : World) : Prop := W.ownsRow B 66 2 v xs.length (xs.flatMap encO)
theorem RowO.stab {B : Nat} {xs : List Od} : ∀ v W W', Gr W W' → RowO B xs v W → RowO B xs v W' := fun _ _ _ hG h => own_later h hG
theorem one_newsO {W : World} {N : Nat} {x : Od} (h0 : W.cell? ⟨N, 0, none⟩ = some (.int .i64 x.g)) (h1 : W.cell? ⟨N, 1, none⟩ = some (.int .i64 x.m)) : ∀ j u, (encO x)[j]? = some u → W.cell? ((⟨N, 0, none⟩ : Addr).add j) = some u := by
  intro j u hu
  have hadd : (⟨N, 0, none⟩ : Addr).add j = ⟨N, j, none⟩ := by unfold Addr.add; split <;> simp_all
  rw [hadd]
  match j with
  | 0 => rw [h0]; simpa [encO] using hu
  | 1 => rw [h1]; simpa [encO] using hu
  | _ + 2 => simp [encO] at hu
theorem run_app_o {W : World} {base N : Nat} (ty : TypeId) {v : Value} {xs : List Od} {x : Od} (hown : W.ownsRow base 66 2 v xs.length (xs.flatMap encO)) (hn : ∀ j u, (encO x)[j]? = some u → W.cell? ((⟨N, 0, none⟩ : Addr).add j) = some u) (h2 : xs.length ≤ 1000) (hb : base ≤ W.heap.size) :
    ∃ v' W', (Builtin.append_ #[23, 23] ty #[v, .slice (some ⟨N, 0, none⟩) 1 1]).run Try.prog W = .ok v' W' ∧ (W.grownBy W' v.ownBlock ∧ RowO base (xs ++ [x]) v' W') := by
  obtain ⟨i0, hi0, hz0, hz1, hz2⟩ := info_parts info_ord
  obtain ⟨v', W', h1', h2', h3', _⟩ := run_append_own (P := Try.prog) W base 23 ty 66 i0 (.agg #[.int .i64 0, .int .i64 0]) 2 16 und_ords hi0 hz0 hz1 hz2 rfl (by decide) v xs.length _ hown ⟨N, 0, none⟩ 1 1 (encO x) rfl hn (by simp [encO, Value.oneCell']) (by simp only [maxLen]; omega) (by omega) hb
  refine ⟨_, W', h1', h3', ?_⟩
  unfold RowO
  rw [List.flatMap_append, List.length_append]
  simpa using h2'
/-- The list names the order. -/
def hasT (R : List Int) (i : Int) : Nat → Bool
  | 0 => false
  | k + 1 => hasT R i k || decide (R.getD k 0 = i)
theorem hasT_iff (R : List Int) (i : Int) : ∀ k, hasT R i k = true ↔ ∃ j, j < k ∧ R.getD j 0 = i
  | 0 => by simp [hasT]
  | k + 1 => by
    rw [hasT, Bool.or_eq_true, hasT_iff R i k, decide_eq_true_eq]
    constructor
    · rintro (⟨j, h1, h2⟩ | h)
      · exact ⟨j, by omega, h2⟩
      · exact ⟨k, by omega, h⟩
    · rintro ⟨j, h1, h2⟩
      rcases Nat.lt_or_ge j k with h | h
      · exact .inl ⟨j, h, h2⟩
      · obtain rfl : j = k := by omega
        exact .inr h2
theorem hasT_all (R : List Int) (i : Int) : hasT R i R.length = R.contains i := by
  rw [Bool.eq_iff_iff, hasT_iff, List.contains_iff_mem]
  constructor
  · rintro ⟨j, h1, h2⟩
    have := List.getElem?_eq_getElem h1
    rw [sl_getD this] at h2
    rw [← h2]
    exact List.getElem_mem h1
  · intro h
    obtain ⟨j, hj⟩ := List.getElem?_of_mem h
    exact ⟨j, (List.getElem?_eq_some_iff.1 hj).1, sl_getD hj⟩
/-- While the orders that stay are gathered. -/
structure WO (w W : World) (SA : Option Addr) (sn sc : Nat) (PA : Option Addr) (pn pc : Nat) (OA : Option Addr) (on oc : Nat) (S P : List Int) (O : List Od) (v : Value) (xs : List Od) : Prop where
  gw : GW w W w.heap.size SA sn sc PA pn pc OA on oc S P O
  b1 : Blk W (w.heap.size + 1) 25 #[.slice none 0 0, .slice none 0 0, .slice none 0 0]
  bp : Blk W (w.heap.size + 1 + 1) 25 #[.slice SA sn sc, .slice PA pn pc, v]
  own : W.ownsRow w.heap.size 66 2 v xs.length (xs.flatMap encO)
section
variable {w W W' : World} {SA : Option Addr} {sn sc : Nat} {PA : Option Addr} {pn pc : Nat} {OA : Option Addr} {on oc : Nat} {S P : List Int} {O : List Od} {v v' : Value} {xs : List Od}
theorem WO.later (h : WO w W SA sn sc PA pn pc OA on oc S P O v xs) (hb : Below W.heap.size W W') : WO w W' SA sn sc PA pn pc OA on oc S P O v xs := ⟨h.gw.later hb, h.b1.later hb, h.bp.later hb, own_later h.own hb⟩
theorem WO.grown (hs : ShopIn w w.heap.size SA sn sc PA pn pc OA on oc S P O) (h : WO w W SA sn sc PA pn pc OA on oc S P O v xs) {x : Od} (hg : W.grownBy W' v.ownBlock) (ho : W'.ownsRow w.heap.size 66 2 v' (xs.length + 1) (xs.flatMap encO ++ encO x)) : WO w (W'.setCell ⟨w.heap.size + 1 + 1, 2, none⟩ v') SA sn sc PA pn pc OA on oc S P O v' (xs ++ [x]) := by
  have hlt := own_base h.own
  have hb : Below w.heap.size w W' := h.gw.bel.trans ⟨hg.os, hg.tape, hg.output, hg.size, fun k hk => hg.block k (by have := h.gw.bel.size; omega) (fun e => by have := hlt k e.symm; omega)⟩
  have hg0 := h.gw.row hs hb hg (h.gw.b0.notRow h.own (by decide))
  have h1 := h.b1.grown hg (h.b1.notRow h.own (by decide))
  have hp := h.bp.grown hg (h.bp.notRow h.own (by decide))
  have hb2 := bset hb (p := ⟨w.heap.size + 1 + 1, 2, none⟩) (by show w.heap.size ≤ w.heap.size + 1 + 1; omega) v'
  refine ⟨⟨hb2, hg0.b0.other (by show w.heap.size + 1 + 1 ≠ w.heap.size; omega) _, hs.later hb2⟩, h1.other (by show w.heap.size + 1 + 1 ≠ w.heap.size + 1; omega) _, hp.set 2 v', own_other ?_ _ (hp.notRow ho (by decide)) _⟩
  rw [List.length_append, List.flatMap_append]
  simpa using ho
theorem WO.sl (h : WO w W SA sn sc PA pn pc OA on oc S P O v xs) : ∃ A' c', v = .slice A' xs.length c' ∧ Sl 2 encO W W.heap.size A' xs.length c' xs := own_slG (k := 2) (enc := encO) (fun _ => rfl) h.own rfl
end
set_option maxRecDepth 100000 in
set_option maxHeartbeats 8000000 in
theorem refWithout_any (SA : Option Addr) (sn sc : Nat) (PA : Option Addr) (pn pc : Nat) (OA : Option Addr) (on oc : Nat) (S P : List Int) (O : List Od) (RA : Option Addr) (rn rc : Nat) (R : List Int) (w : World) (hs : ShopIn w w.heap.size SA sn sc PA pn pc OA on oc S P O) (hr : Sl 1 encI w w.heap.size RA rn rc R) (h12 : O.length ≤ 100) (hr2 : R.length ≤ 1000) :
    Calls Try.prog 51 #[.agg #[.slice SA sn sc, .slice PA pn pc, .slice OA on oc], .slice RA rn rc] w fun e w' => ∃ A c, e = .returned (.agg #[.slice SA sn sc, .slice PA pn pc, .slice A (woO O R).length c]) ∧ Below w.heap.size w w' ∧ Sl 2 encO w' w'.heap.size A (woO O R).length c (woO O R) := by
  obtain rfl := hs.stk.len
  obtain rfl := hs.prc.len
  obtain rfl := hs.ord.len
  obtain rfl := hr.len
  have hG1 := ((GW.start hs).later (balloc (brefl _) (.cells #[.slice none 0 0, .slice none 0 0, .slice none 0 0] 25))).later (balloc (brefl _) (.cells #[.slice SA S.length sc, .slice PA P.length pc, .slice none 0 0] 25))
  have hb1 := (Blk.new (w.alloc (.cells #[.slice SA S.length sc, .slice PA P.length pc, .slice OA O.length oc] 25)) 25 #[.slice none 0 0, .slice none 0 0, .slice none 0 0]).alloc (.cells #[.slice SA S.length sc, .slice PA P.length pc, .slice none 0 0] 25)
  have hb2 := Blk.new ((w.alloc (.cells #[.slice SA S.length sc, .slice PA P.length pc, .slice OA O.length oc] 25)).alloc (.cells #[.slice none 0 0, .slice none 0 0, .slice none 0 0] 25)) 25 #[.slice SA S.length sc, .slice PA P.length pc, .slice none 0 0]
  rw [World.size_alloc] at hb1
  rw [World.size_alloc, World.size_alloc] at hb2
  have HK0 := Lib.hid (show WO w (((w.alloc (.cells #[.slice SA S.length sc, .slice PA P.length pc, .slice OA O.length oc] 25)).alloc (.cells #[.slice none 0 0, .slice none 0 0, .slice none 0 0] 25)).alloc (.cells #[.slice SA S.length sc, .slice PA P.length pc, .slice none 0 0] 25)) SA S.length sc PA P.length pc OA O.length oc S P O (.slice none 0 0) (woT O R 0) from ⟨hG1, hb1, hb2, World.ownsRow_nil _ _ _ _⟩)
  have Hs := Lib.hid hs
  have Hr := Lib.hid hr
  clear hs hr hb1 hb2 hG1
  go_enter Try.func51, Try.ntmps51
  go_wp2_with fail
  refine loop_n (fun m a W => a.defers = [] ∧ ∃ (i : Nat) (v : Value), i + m = O.length ∧ Hid (WO w W SA S.length sc PA P.length pc OA O.length oc S P O v (woT O R i)) ∧ Fits (none :: some (.slice RA R.length rc) :: some (.pointer (some ⟨w.heap.size, 0, none⟩)) :: none :: some (.pointer (some ⟨w.heap.size + 1, 0, none⟩)) :: some (.pointer (some ⟨w.heap.size + 1 + 1, 0, none⟩)) :: some (.int .i64 (i : Nat)) :: none :: none :: none :: none :: none :: none :: none :: none :: none :: none :: none :: none :: none :: none :: none :: none :: none :: none :: none :: none :: none :: none :: none :: none :: none :: none :: none :: none :: none :: none :: none :: none :: none :: none :: none :: none :: none :: none :: none :: none :: none :: none :: []) a.tmps.toList) O.length ?_ ?_
  · refine ⟨rfl, 0, _, by omega, HK0, ?_⟩
    repeat (first | exact fits_nil | refine fits_none ?_ | refine fits_some ?_)
  clear HK0
  intro m a W hI K hK
  obtain ⟨hds, i, v, him, HK, hfit⟩ := hI
  obtain ⟨f, hf⟩ := fits_act hfit
  rw [hds] at hf
  subst hf
  clear hfit hds
  simp only [fillP, Nat.reduceAdd]
  obtain ⟨g0, g1, g2, g3⟩ := HK.out.gw.cells
  by_cases hlt : i < O.length
  · have i1 : (i : Int) < (O.length : Int) := by omega
    have Him := Lib.hid (show i + m = O.length ∧ i < O.length from ⟨him, hlt⟩)
    have HB0 := Lib.hid (brefl W)
    clear him hlt
    go_wp2_with fail
    refine loop_n (fun q b W' => b.defers = [] ∧ W' = W ∧ ∃ k : Nat, k + q = R.length ∧ Fits (none :: some (.slice RA R.length rc) :: some (.pointer (some ⟨w.heap.size, 0, none⟩)) :: none :: some (.pointer (some ⟨w.heap.size + 1, 0, none⟩)) :: some (.pointer (some ⟨w.heap.size + 1 + 1, 0, none⟩)) :: some (.int .i64 (i : Nat)) :: some (.bool (hasT R (i : Int) k)) :: some (.int .i64 (k : Nat)) :: none :: none :: none :: none :: none :: none :: none :: none :: none :: none :: none :: none :: none :: none :: none :: none :: none :: none :: none :: none :: none :: none :: none :: none :: none :: none :: none :: none :: none :: none :: none :: none :: none :: none :: none :: none :: none :: none :: none :: none :: []) b.tmps.toList) R.length ?_ ?_
    · refine ⟨rfl, rfl, 0, by omega, ?_⟩
      repeat (first | exact fits_nil | refine fits_none ?_ | refine fits_some ?_)
    clear HB0
    intro q b W' hI K2 hK2
    obtain ⟨hds, rfl, k, hkq, hfit⟩ := hI
    obtain ⟨f2, hf2⟩ := fits_act hfit
    rw [hds] at hf2
    subst hf2
    clear hfit hds
    simp only [fillP, Nat.reduceAdd]
    by_cases hlt : k < R.length
    · obtain ⟨rb, ro, x, rfl, hrb, hx, p0⟩ := (Hr.out.later HK.out.gw.bel).ltI (i := k) hlt
      have k1 : (k : Int) < (R.length : Int) := by omega
      have k2 : (0 : Int) ≤ (k : Int) := by omega
      have k3 : IntKind.i64.wrap ((k : Int) + 1) = (k : Int) + 1 := by rw [IntKind.wrap_i64]; omega
      have hh : hasT R (i : Int) (k + 1) = (hasT R (i : Int) k || decide (x = (i : Int))) := by rw [hasT, sl_getD hx]
      have Hkq := Lib.hid (show k + q = R.length ∧ k < R.length from ⟨hkq, hlt⟩)
      obtain ⟨q1, hq1⟩ : ∃ q1, hasT R (i : Int) k = q1 := ⟨_, rfl⟩
      rw [hq1] at hh ⊢
      have Hh := Lib.hid hh
      clear hh hq1 hx hkq hlt
      cases q1 with
      | true =>
        go_wp2
        refine hK2 _ _ (q - 1) (by have := Hkq.out; omega) ⟨rfl, rfl, k + 1, by have := Hkq.out; omega, ?_⟩
        rw [Hh.out, Bool.true_or]
        repeat (first | exact fits_nil | refine fits_none ?_ | refine fits_some ?_)
      | false =>
        obtain ⟨q2, hq2⟩ : ∃ q2, decide (x = (i : Int)) = q2 := ⟨_, rfl⟩
        have d1 : (x == (i : Int)) = q2 := hq2
        rw [hq2] at Hh
        go_wp2
        refine hK2 _ _ (q - 1) (by have := Hkq.out; omega) ⟨rfl, rfl, k + 1, by have := Hkq.out; omega, ?_⟩
        rw [Hh.out, Bool.false_or]
        repeat (first | exact fits_nil | refine fits_none ?_ | refine fits_some ?_)
    · obtain rfl : k = R.length := by omega
      have k1 : ¬ (R.length : Int) < (R.length : Int) := by omega
      rw [hasT_all]
      obtain ⟨rb, ro, _, rfl, hrw, _, _, _⟩ := Hs.out.ord.ltO (i := i) Him.out.2
      obtain ⟨rb', ro', x, hA', hrb, hx, p0, p1⟩ := HK.out.gw.sh.ord.ltO (i := i) Him.out.2
      cases hA'
      have hT : woT O R (i + 1) = woT O R i ++ if R.contains (i : Int) then [] else [x] := by
        rw [woT]; simp [List.getD, hx]
      obtain ⟨q1, hq1⟩ : ∃ q1, R.contains (i : Int) = q1 := ⟨_, rfl⟩
      rw [hq1] at hT ⊢
      have HT := Lib.hid hT
      have hwl := woT_len O R i
      have i2 : (0 : Int) ≤ (i : Int) := by omega
      have i3 : IntKind.i64.wrap ((i : Int) + 1) = (i : Int) + 1 := by have := Him.out; rw [IntKind.wrap_i64]; omega
      clear hkq hlt hK2 hq1 hT
      cases q1 with
      | true =>
        clear hx hwl p0 p1
        go_wp2
        refine hK _ _ (m - 1) (by have := Him.out; omega) ⟨rfl, i + 1, v, by have := Him.out; omega, by rw [HT.out]; simpa using HK, ?_⟩
        repeat (first | exact fits_nil | refine fits_none ?_ | refine fits_some ?_)
      | false =>
        rw [if_neg (by decide)] at HT
        have hxl : (woT O R i).length ≤ 100 := by have := Him.out; omega
        generalize woT O R i = xs at *
        have hne0 := HK.out.gw.b0.notRow HK.out.own (by decide)
        have hne1 := HK.out.b1.notRow HK.out.own (by decide)
        have hne2 := HK.out.bp.notRow HK.out.own (by decide)
        have hnr : v.ownBlock ≠ some rb := fun e => by have := own_base HK.out.own rb e; omega
        have Hrow := Lib.hid (show ∀ r, v.ownBlock = some r → r < W'.heap.size from fun r hr => own_lt HK.out.own r hr)
        have e1 := HK.out.bp.cell 2
        have e2 := HK.out.bp.lt
        clear hx hwl
        go_wp2_with fail
        refine dagRow 10 8 v.ownBlock (by kernel_rfl) (by kernel_rfl) (.is ?_ :: .is ?_ :: .is ?_ :: .is ?_ :: .is ?_ :: .is ?_ :: .is ?_ :: .like (OneO W'.heap.size x) :: .like (RowO w.heap.size (xs ++ [x])) :: .is ?_ :: []) rfl ?st1 ?gd1 ?stb1 ?ob1
        case st1 => repeat (first | exact stab_nil | refine stab_is ?_ | refine stab_like OneO.stab ?_ | refine stab_like RowO.stab ?_)
        case gd1 => intro o ho; cases ho; rfl
        case stb1 => repeat (first | exact stabT_nil | refine stabT_is ?_ | refine stabT_like (fun _ _ _ h1 h2 => h2.grown h1.2 Hrow.out) ?_)
        case ob1 =>
        intro env V hG
        have hG1 := HK.out.gw.b0.grown hG hne0
        have hP1 := HK.out.bp.grown hG hne2
        have f0 := hG1.cell 2
        have f1 := hG1.lt
        have f2 := hP1.cell 2
        have f3 := hP1.lt
        have f4 := hP1.frozen 2
        have h0 := (World.cell?_of_block (a := ⟨rb, ro + i * 2, none⟩) (hG.block rb hrb (Ne.symm hnr))).trans p0
        have h1 := (World.cell?_of_block (a := ⟨rb, ro + i * 2 + 1, none⟩) (hG.block rb hrb (Ne.symm hnr))).trans p1
        have h2 := Nat.lt_of_lt_of_le hrb hG.size
        have HG := Lib.hid hG
        clear hG1 hP1
        iterate 7 (refine oblsA_is (show _ ≠ (8 : Nat) by decide) ?_ ?_; unfold doesAt; go_simp; (try go_bits); (first | (refine ⟨brefl _, ?_⟩; rfl) | rfl); intro K hK; go_simp; refine hK _ ?_; clear hK K)
        refine oblsA_like (show _ ≠ (8 : Nat) by decide) (fun _ => ?_) ?_
        · unfold doesAt
          go_simp
          have hbn := Blk.new V 66 #[.int .i64 x.g, .int .i64 x.m]
          exact ⟨balloc (brefl V) _, V.heap.size, rfl, HG.out.size, hbn.lt, hbn.cell 0, hbn.cell 1⟩
        intro K hK
        go_simp
        refine hK _ ?_
        clear hK K
        refine oblsA_app rfl (fun hl hp => ?_) ?_
        · obtain ⟨g, hE, hg1, hg2, hg3, hg4⟩ : OneO W'.heap.size x (env 7) V := hl ⟨7, .data⟩ (by simp) rfl (.inl rfl)
          refine app_of_run rfl (.tmp 39) (.tmp 45) 23 rfl rfl hE ?_
          exact run_app_o _ (own_later HK.out.own hp) (one_newsO hg3 hg4) (by omega) (by have := hp.size; have := HK.out.gw.bel.size; omega)
        intro K hK
        go_simp
        refine hK _ ?_
        clear hK K
        (refine oblsA_is (show _ ≠ (8 : Nat) by decide) ?_ ?_; unfold doesAt; go_simp; (try go_bits); (first | (refine ⟨brefl _, ?_⟩; rfl) | rfl); intro K hK; go_simp; refine hK _ ?_; clear hK K)
        refine oblsA_last (fun hok => ?_)
        have hrw : RowO w.heap.size (xs ++ [x]) (env 8) V := hok 8 _ rfl (.inl rfl)
        have hrw' := hrw
        unfold RowO at hrw'
        rw [List.length_append, List.flatMap_append] at hrw'
        obtain ⟨v', hv'⟩ : ∃ v', env 8 = v' := ⟨_, rfl⟩
        rw [hv'] at hrw hrw' ⊢
        obtain ⟨gg, cap, rfl⟩ := own_succ hrw'
        have HK4 := Lib.hid (HK.out.grown Hs.out (x := x) HG.out (by simpa using hrw'))
        clear hrw hrw' hv' hok hG h0 h1 h2 f0 f1 hne0 hne1 hne2 hnr hrb HK
        unfold doesAt
        go_simp
        clear f2 f3 f4
        generalize V.setCell ⟨w.heap.size + 1 + 1, 2, none⟩ (.slice (some ⟨gg, 0, none⟩) (xs.length + [x].length) cap) = V2 at *
        go_wp2
        refine hK _ _ (m - 1) (by have := Him.out; omega) ⟨rfl, i + 1, _, by have := Him.out; omega, by rw [HT.out]; exact HK4, ?_⟩
        repeat (first | exact fits_nil | refine fits_none ?_ | refine fits_some ?_)
  · obtain rfl : i = O.length := by omega
    have i1 : ¬ (O.length : Int) < (O.length : Int) := by omega
    obtain ⟨X, hX⟩ : ∃ X, woO O R = X := ⟨_, rfl⟩
    have hX2 : woT O R O.length = X := hX
    rw [hX2] at HK
    obtain ⟨A', c', rfl, hsl⟩ := HK.out.sl
    have HXe := Lib.hid hX
    have x0 := HK.out.bp.cell 0
    have x1 := HK.out.bp.cell 1
    have x2 := HK.out.bp.cell 2
    have x3 := HK.out.bp.lt
    have y0 := HK.out.b1.cell 0
    have y1 := HK.out.b1.cell 1
    have y2 := HK.out.b1.cell 2
    have y3 := HK.out.b1.frozen 0
    have y4 := HK.out.b1.frozen 1
    have y5 := HK.out.b1.frozen 2
    have y6 := HK.out.b1.lt
    clear hK him hlt hsl hX hX2
    go_wp2
    have hzf := ((HK.out.b1.set 0 (.slice SA S.length sc)).set 1 (.slice PA P.length pc)).set 2 (.slice A' X.length c')
    have s0 := hzf.cell 0
    have s1 := hzf.cell 1
    have s2 := hzf.cell 2
    have hn1 := HK.out.b1.notRow HK.out.own (by decide)
    refine bodyPost_ret (v := .agg #[.slice SA S.length sc, .slice PA P.length pc, .slice A' X.length c']) ?_ rfl ⟨A', c', by rw [HXe.out], ?_, ?_⟩
    · simp [results, Try.results51, go_sem, s0, s1, s2]
    · exact ((HK.out.gw.bel.setCell (p := ⟨w.heap.size + 1, 0, none⟩) (by show w.heap.size ≤ w.heap.size + 1; omega) _).setCell (p := ⟨w.heap.size + 1, 1, none⟩) (by show w.heap.size ≤ w.heap.size + 1; omega) _).setCell (p := ⟨w.heap.size + 1, 2, none⟩) (by show w.heap.size ≤ w.heap.size + 1; omega) _
    · have h9 := own_other (own_other (own_other HK.out.own ⟨w.heap.size + 1, 0, none⟩ hn1 (.slice SA S.length sc)) ⟨w.heap.size + 1, 1, none⟩ hn1 (.slice PA P.length pc)) ⟨w.heap.size + 1, 2, none⟩ hn1 (.slice A' X.length c')
      obtain ⟨A'', c'', he, hsl⟩ := own_slG (k := 2) (enc := encO) (fun _ => rfl) h9 rfl
      simp only [Value.slice.injEq] at he
      obtain ⟨rfl, -, rfl⟩ := he
      rw [HXe.out]
      exact hsl
end Go.Proofs.Ytmfiggbobaihcaa
