/- The walk of GradeProved. -/
import Derived.Test.YtmfiggbobaihcaaGFilled
namespace Go.Proofs.Ytmfiggbobaihcaa
open Go.RowKit Go.Shelf

set_option maxRecDepth 100000 in
set_option maxHeartbeats 8000000 in
theorem proved_law (SA : Option Addr) (sn sc : Nat) (PA : Option Addr) (pn pc : Nat) (OA : Option Addr) (on oc : Nat) (S P : List Int) (O : List Od) (BA : Option Addr) (bn bc : Nat) (bs : List Nat) (QA : Option Addr) (qn qc : Nat) (qs : List Nat) (w : World) (hs : ShopIn w w.heap.size SA sn sc PA pn pc OA on oc S P O) (hbs : Sl 1 encB w w.heap.size BA bn bc bs) (hbd : ∀ x ∈ bs, x < 256) (hqs : Sl 1 encB w w.heap.size QA qn qc qs) (hqd : ∀ x ∈ qs, x < 256) : Calls Try.prog 8 #[.agg #[.slice SA sn sc, .slice PA pn pc, .slice OA on oc], .slice BA bn bc, .slice QA qn qc] w fun e w' => e = .returned (.bool true) ∧ Below w.heap.size w w' := by
  have Hs := Lib.hid hs
  obtain rfl := hs.stk.len
  obtain rfl := hs.prc.len
  obtain rfl := hs.ord.len
  have HG0 := Lib.hid (GW.start hs)
  obtain ⟨g0, g1, g2, g3⟩ := HG0.out.cells
  have Hf := Lib.hid (fun W (h : ShopIn W W.heap.size SA S.length sc PA P.length pc OA O.length oc S P O) => fine_any SA S.length sc PA P.length pc OA O.length oc S P O W h)
  by_cases he : shopE S P O = 0
  case neg =>
    rw [decide_eq_false he] at Hf
    clear hs he hbs hbd hqs hqd Hs
    go_enter Try.func8, Try.ntmps8
    go_wp2_with fail
    refine (Hf.out _ HG0.out.sh).mono ?_
    rintro e w1 ⟨rfl, hb⟩
    have HG1 := Lib.hid (HG0.out.later hb)
    clear hb HG0 g0 g1 g2 g3
    obtain ⟨g0, g1, g2, g3⟩ := HG1.out.cells
    go_wp2_with fail
    refine (works_any _).mono ?_
    rintro e we ⟨rfl, hbe⟩
    have HBE := Lib.hid (Below.later HG1.out.bel hbe)
    clear hbe
    go_wp2
    go_ret
    exact ⟨rfl, HBE.out⟩
  case pos =>
  rw [decide_eq_true he] at Hf
  cases hd : decide ((50 : Int) < (bn : Int)) with
  | true =>
    clear hs hbs hbd hqs hqd he Hs
    go_enter Try.func8, Try.ntmps8
    go_wp2_with fail
    refine (Hf.out _ HG0.out.sh).mono ?_
    rintro e w2 ⟨rfl, hb⟩
    have HG1 := Lib.hid (HG0.out.later hb)
    clear hb HG0 g0 g1 g2 g3
    obtain ⟨g0, g1, g2, g3⟩ := HG1.out.cells
    go_wp2_with fail
    refine (works_any _).mono ?_
    rintro e we ⟨rfl, hbe⟩
    have HBE := Lib.hid (Below.later HG1.out.bel hbe)
    clear hbe
    go_wp2
    go_ret
    exact ⟨rfl, HBE.out⟩
  | false =>
  have h50 : bn ≤ 50 := by rw [decide_eq_false_iff_not] at hd; omega
  cases hd2 : decide ((10 : Int) < (qn : Int)) with
  | true =>
    clear hs hbs hbd hqs hqd he Hs
    go_enter Try.func8, Try.ntmps8
    go_wp2_with fail
    refine (Hf.out _ HG0.out.sh).mono ?_
    rintro e w3 ⟨rfl, hb⟩
    have HG1 := Lib.hid (HG0.out.later hb)
    clear hb HG0 g0 g1 g2 g3
    obtain ⟨g0, g1, g2, g3⟩ := HG1.out.cells
    go_wp2_with fail
    refine (works_any _).mono ?_
    rintro e we ⟨rfl, hbe⟩
    have HBE := Lib.hid (Below.later HG1.out.bel hbe)
    clear hbe
    go_wp2
    go_ret
    exact ⟨rfl, HBE.out⟩
  | false =>
  have h10 : qn ≤ 10 := by rw [decide_eq_false_iff_not] at hd2; omega
  have hF := fine_of he
  have n5 := hF.n5
  have n1 := hF.n1
  have HF := Lib.hid hF
  have He := Lib.hid he
  have o8 := hF.o8
  have Hbs := Lib.hid hbs
  have Hqs := Lib.hid hqs
  have Hqd := Lib.hid hqd
  have Hfl := Lib.hid (fun W (h : ShopIn W W.heap.size SA S.length sc PA P.length pc OA O.length oc S P O) (hb : Sl 1 encB W W.heap.size BA bn bc bs) => filled_any SA S.length sc PA P.length pc OA O.length oc S P O BA bn bc bs W h hb hbd h50 he)
  have Hck := Lib.hid (fun A c L W (h : ShopIn W W.heap.size SA S.length sc PA P.length pc OA O.length oc S P O) (hl : FillIn W A O.length c L) => checkFill_any SA S.length sc PA P.length pc OA O.length oc S P O A O.length c L W h hl (by omega))
  have Hl := Lib.hid (fun W (h : ShopIn W W.heap.size SA S.length sc PA P.length pc OA O.length oc S P O) => least_both SA S.length sc PA P.length pc OA O.length oc S P O W h he)
  have hnv : canB S.length O (stockM S) = true → leastN S P O = leV S.length P O (stockM S) := leastN_can
  have hmk := make_longs S.length (by omega)
  obtain ⟨cb, hcb⟩ : ∃ cb, canB S.length O (stockM S) = cb := ⟨_, rfl⟩
  have Hcan := Lib.hid (show canB S.length O (stockM S) = true → cb = true from fun h => by rw [← hcb]; exact h)
  rw [hcb] at Hl hnv
  have Hnv := Lib.hid hnv
  generalize leastN S P O = nv at *
  clear hs hbs hbd hqs hqd he hF hnv hcb
  go_enter Try.func8, Try.ntmps8
  go_wp2_with fail
  refine (Hf.out _ HG0.out.sh).mono ?_
  rintro e w4 ⟨rfl, hb⟩
  have HG1 := Lib.hid (HG0.out.later hb)
  clear hb HG0 g0 g1 g2 g3
  obtain ⟨g0, g1, g2, g3⟩ := HG1.out.cells
  go_wp2_with fail
  refine (Hl.out _ HG1.out.sh).mono ?_
  rintro e w5 ⟨rfl, hb, hX⟩
  have HG2 := Lib.hid (HG1.out.later hb)
  clear hb HG1 g0 g1 g2 g3
  obtain ⟨g0, g1, g2, g3⟩ := HG2.out.cells
  have Hxf := Lib.hid hX
  clear hX
  have HI0 := Lib.hid (show GB w (w5.alloc (.cells (numArr S.length (fun _ => 0)) 2)) w5.heap.size S.length SA S.length sc PA P.length pc OA O.length oc S P O (fun _ => 0) from ⟨HG2.out.later (balloc (brefl w5) _), Blk.new w5 2 (numArr S.length (fun _ => 0))⟩)
  have hBw : w.heap.size < w5.heap.size := HG2.out.b0.lt
  go_wp2_with fail
  clear hmk g0 g1 g2 g3 HG2
  generalize w5.heap.size = B at *
  refine loop_n (fun m b W => b.defers = [] ∧ ∃ (i : Nat) (F : Nat → Int), i + m = S.length ∧ Hid (GB w W B S.length SA S.length sc PA P.length pc OA O.length oc S P O F) ∧ Hid (∀ g, 0 ≤ F g ∧ F g ≤ 100) ∧ Fits (none :: some (.slice BA bn bc) :: some (.slice QA qn qc) :: some (.pointer (some ⟨w.heap.size, 0, none⟩)) :: none :: none :: none :: some (.int .i64 nv) :: some (.bool cb) :: some (.bool true) :: some (.slice (some ⟨B, 0, none⟩) S.length S.length) :: some (.int .i64 (i : Nat)) :: none :: none :: none :: none :: none :: none :: none :: none :: none :: none :: none :: none :: none :: none :: none :: none :: none :: none :: none :: none :: none :: none :: none :: none :: none :: none :: none :: none :: none :: none :: none :: none :: none :: none :: none :: none :: none :: none :: none :: none :: none :: none :: none :: none :: none :: none :: none :: none :: none :: none :: none :: none :: none :: none :: none :: none :: none :: none :: none :: none :: none :: none :: none :: none :: none :: none :: none :: none :: none :: none :: none :: none :: none :: none :: none :: none :: none :: none :: none :: none :: none :: none :: none :: none :: none :: none :: none :: none :: none :: none :: none :: none :: none :: none :: none :: none :: none :: none :: none :: none :: none :: none :: none :: none :: none :: none :: none :: none :: none :: none :: none :: none :: none :: none :: none :: none :: []) b.tmps.toList) S.length ?_ ?_
  · refine ⟨rfl, 0, _, by omega, HI0, Lib.hid (fun g => by omega), ?_⟩
    repeat (first | exact fits_nil | refine fits_none ?_ | refine fits_some ?_)
  clear HI0
  intro m b W hI K hK
  obtain ⟨hds, i, F, him, HI, HFb, hfit⟩ := hI
  obtain ⟨f, hf⟩ := fits_act hfit
  rw [hds] at hf
  subst hf
  clear hfit hds
  simp only [fillP, Nat.reduceAdd]
  obtain ⟨g0, g1, g2, g3⟩ := HI.out.gw.cells
  by_cases hlt : i < S.length
  · have i1 : (i : Int) < (S.length : Int) := by omega
    by_cases hl2 : i < qn
    · obtain ⟨bb, bo, y, rfl, hbb, hy, y0⟩ := (Hqs.out.later HI.out.gw.bel).ltB hl2
      have hyn := Hqd.out y (List.mem_of_getElem? hy)
      obtain ⟨z, hz⟩ : ∃ z, y % 101 = z := ⟨_, rfl⟩
      have i2 : (0 : Int) ≤ (i : Int) := by omega
      have i3 : IntKind.i64.wrap ((i : Int) + 1) = (i : Int) + 1 := by rw [IntKind.wrap_i64]; omega
      have i4 : (i : Int) < (qn : Int) := by omega
      have e6 : (y : Int).tmod 101 = (z : Int) := by rw [Int.tmod_eq_emod_of_nonneg (by omega), ← hz]; rfl
      have e7 : IntKind.i64.wrap (y : Int) = (y : Int) := by rw [IntKind.wrap_i64]; omega
      have hz8 : z < 101 := by rw [← hz]; exact Nat.mod_lt _ (by omega)
      have e8 : IntKind.i64.wrap (z : Int) = (z : Int) := by rw [IntKind.wrap_i64]; omega
      have c0 := (HI.out.bk.cell i).trans (numArr_get hlt)
      have c1 := HI.out.bk.frozen i
      have c2 := HI.out.bk.lt
      have HIf := Lib.hid (HI.out.set Hs.out hBw i (z : Int))
      have HFn := Lib.hid (show ∀ g, 0 ≤ Gr9.upd F i (z : Int) g ∧ Gr9.upd F i (z : Int) g ≤ 100 from fun g => by unfold Gr9.upd; have := HFb.out g; split <;> omega)
      have Him := Lib.hid (show i + m = S.length ∧ i < S.length from ⟨him, hlt⟩)
      clear him hlt hl2 hy hyn hz hz8 HFb
      go_wp2
      refine hK _ _ (m - 1) (by have := Him.out; omega) ⟨rfl, i + 1, _, by have := Him.out; omega, HIf, HFn, ?_⟩
      repeat (first | exact fits_nil | refine fits_none ?_ | refine fits_some ?_)
    · have i4 : ¬ (i : Int) < (qn : Int) := by omega
      clear him hlt hl2
      have hln : ((List.range S.length).map F).length = S.length := by simp
      have hLb : ∀ x ∈ (List.range S.length).map F, 0 ≤ x ∧ x ≤ 100 := fun x hx => by
        rw [List.mem_map] at hx
        obtain ⟨g, _, rfl⟩ := hx
        exact HFb.out g
      have HL0 := Lib.hid (HI.out.sl (by omega))
      generalize (List.range S.length).map F = LP at *
      have HG0 := Lib.hid HI.out.gw
      have HB0 := Lib.hid (Hbs.out.later HI.out.gw.bel)
      have Hcp := Lib.hid (fun W (h : ShopIn W W.heap.size SA S.length sc PA P.length pc OA O.length oc S P O) (hl : Sl 1 encI W W.heap.size (some ⟨B, 0, none⟩) S.length S.length LP) => checkProof_all SA S.length sc PA P.length pc OA O.length oc S P O _ _ _ LP W h hl)
      rw [proofR_ok He.out hln hLb] at Hcp
      have Hle := Lib.hid (fun hc : cb = true => (show proofV S P O LP ≤ nv by
        obtain ⟨X, hX⟩ := Hxf.out hc
        rw [Hnv.out hc]
        exact proof_le hX hln hLb))
      have Hwk := Lib.hid (fun X (h1 : X.length = O.length) (h2 : RightX S O X) => weak_proof (P := P) h1 h2 hln hLb)
      generalize proofV S P O LP = pv at *
      clear hln hLb HI HFb hK g0 g1 g2 g3
      obtain ⟨g0, g1, g2, g3⟩ := HG0.out.cells
      go_wp2_with fail
      refine (Hfl.out _ HG0.out.sh HB0.out).mono ?_
      rintro e w6 ⟨A1, c1, L, rfl, hb, hfl, hsz, hfe⟩
      have HG1 := Lib.hid (HG0.out.later hb)
      have HB1 := Lib.hid (HB0.out.later hb)
      have HL1 := Lib.hid (HL0.out.later hb)
      clear hb HG0 HB0 HL0 g0 g1 g2 g3
      obtain ⟨g0, g1, g2, g3⟩ := HG1.out.cells
      have HR1 := Lib.hid hfl
      have Hsz := Lib.hid hsz
      have Hck2 := Lib.hid (fun W h hl => Hck.out A1 c1 L W h hl)
      clear hfl hsz Hck
      by_cases hf0 : fillE S P O (rowsX L) = 0
      case pos =>
        have hr := (fillE_right hf0).2
        have hcb : cb = true := Hcan.out (can_right HF.out hr)
        have ha1 : nv ≤ costL P (gotX (rowsX L)) S.length := by rw [Hnv.out hcb]; exact least_right HF.out Hsz.out.len hr
        have ha2 := Hwk.out _ Hsz.out.len hr
        have ha3 := Hle.out hcb
        have h14 : ¬ nv < pv := by omega
        have hR : fillR S P O (rowsX L) = (costL P (gotX (rowsX L)) S.length, 0) := by unfold fillR; rw [hf0, if_neg (by decide)]
        rw [hR] at Hck2
        have Hgv := Lib.hid (fun W (h : ShopIn W W.heap.size SA S.length sc PA P.length pc OA O.length oc S P O) (hl : FillIn W A1 O.length c1 L) => refGiven_any SA S.length sc PA P.length pc OA O.length oc S P O A1 O.length c1 L W h hl n5 (by have := hl.sl.len; omega) Hsz.out.row Hsz.out.small)
        have Hco := Lib.hid (fun A c W (h : ShopIn W W.heap.size SA S.length sc PA P.length pc OA O.length oc S P O) (hl : Sl 1 encI W W.heap.size A S.length c (givL S.length (rowsX L))) => refCost_any SA S.length sc PA P.length pc OA O.length oc S P O W h A S.length c _ hl (by have := HF.out.len; omega) (by have := HF.out.len; omega) HF.out.prc (giv_bound Hsz.out o8))
        rw [costX_giv] at Hco
        rw [decide_eq_true hf0]
        generalize costL P (gotX (rowsX L)) S.length = av at *
        generalize givL S.length (rowsX L) = gv at *
        subst hcb
        clear hf0 hr hR hfe ha3 Hle Hwk
        go_wp2_with fail
        refine (Hck2.out _ HG1.out.sh HR1.out).mono ?_
        rintro e w7 ⟨rfl, hb⟩
        have HG2 := Lib.hid (HG1.out.later hb)
        have HB2 := Lib.hid (HB1.out.later hb)
        have HL2 := Lib.hid (HL1.out.later hb)
        have HR2 := Lib.hid (HR1.out.later hb)
        clear hb HG1 HB1 HL1 HR1 g0 g1 g2 g3
        obtain ⟨g0, g1, g2, g3⟩ := HG2.out.cells
        go_wp2_with fail
        refine (Hcp.out _ HG2.out.sh HL2.out).mono ?_
        rintro e w8 ⟨rfl, hb⟩
        have HG3 := Lib.hid (HG2.out.later hb)
        have HB3 := Lib.hid (HB2.out.later hb)
        have HL3 := Lib.hid (HL2.out.later hb)
        have HR3 := Lib.hid (HR2.out.later hb)
        clear hb HG2 HB2 HL2 HR2 g0 g1 g2 g3
        obtain ⟨g0, g1, g2, g3⟩ := HG3.out.cells
        go_wp2_with fail
        refine dag 28 (by kernel_rfl) (by kernel_rfl) (.is ?_ :: .is ?_ :: .is ?_ :: .is ?_ :: .is ?_ :: .is ?_ :: .is ?_ :: .is ?_ :: .is ?_ :: .is ?_ :: .is ?_ :: .is ?_ :: .is ?_ :: .is ?_ :: .is ?_ :: .is ?_ :: .is ?_ :: .is ?_ :: .is ?_ :: .like (IsInts S.length gv) :: .is (.int .i64 av) :: .is ?_ :: .is ?_ :: .is ?_ :: .is ?_ :: .is (.bool true) :: .is ?_ :: .is ?_ :: []) rfl ?st1 ?ob1
        case st1 => repeat (first | exact stab_nil | refine stab_is ?_ | refine stab_like IsInts.stab ?_)
        case ob1 =>
        intro env V hG
        obtain ⟨hc, hf⟩ := bcell hG
        have HGn := Lib.hid (HG3.out.later hG)
        have HRn := Lib.hid (HR3.out.later hG)
        clear hG
        iterate 19 (refine obls_is ?_ ?_; unfold doesAt; go_simp; (try go_bits); (first | (refine ⟨brefl _, ?_⟩; rfl) | rfl); intro K hK; go_simp; refine hK _ ?_; clear hK K)
        refine obls_like (fun _ => ?_) ?_
        · unfold doesAt
          go_simp
          refine (Hgv.out V HGn.out.sh HRn.out).mono ?_
          rintro e w3 ⟨b, rfl, hb3, hsl⟩
          exact ⟨_, rfl, hb3, _, _, rfl, hsl⟩
        intro K hK
        go_simp
        refine hK _ ?_
        clear hK K
        refine obls_isL (fun hl => ?_) ?_
        · obtain ⟨G, c, hE, hsl⟩ : IsInts S.length gv (env 19) V := hl ⟨19, .data⟩ (by simp) rfl
          have Hsl := Lib.hid hsl
          clear hsl
          unfold doesAt
          go_simp
          refine (Hco.out _ _ V HGn.out.sh Hsl.out).mono ?_
          rintro e w3 ⟨rfl, hb3⟩
          exact ⟨rfl, hb3⟩
        intro K hK
        go_simp
        refine hK _ ?_
        clear hK K
        iterate 4 (refine obls_is ?_ ?_; unfold doesAt; go_simp; (try go_bits); (first | (refine ⟨brefl _, ?_⟩; rfl) | rfl); intro K hK; go_simp; refine hK _ ?_; clear hK K)
        refine obls_is ?_ ?_
        · unfold doesAt
          go_simp
          refine (works_any V).mono ?_
          rintro e w1 ⟨rfl, hb1⟩
          (exact ⟨rfl, hb1⟩)
        intro K hK
        go_simp
        refine hK _ ?_
        clear hK K
        repeat (refine obls_is ?_ ?_; unfold doesAt; go_simp; (try go_bits); (first | (refine ⟨brefl _, ?_⟩; rfl) | rfl); intro K hK; go_simp; refine hK _ ?_; clear hK K)
        refine obls_nil (fun _ => ?_)
        go_wp2_with fail
        go_ret
        exact ⟨rfl, HGn.out.bel⟩
      case neg =>
        have h14 := hfe.resolve_left hf0
        have Hck3 := Lib.hid (fun W h hl => Hck2.out W h hl)
        rw [fillR_snd, h14] at Hck3
        generalize (fillR S P O (rowsX L)).1 = x1 at *
        rw [decide_eq_false hf0]
        clear hf0 hfe h14 Hck2 Hwk
        cases cb with
        | true =>
          have ha3 := Hle.out rfl
          have h14 : ¬ nv < pv := by omega
          clear ha3 Hle
          go_wp2_with fail
          refine (Hck3.out _ HG1.out.sh HR1.out).mono ?_
          rintro e w9 ⟨rfl, hb⟩
          have HG2 := Lib.hid (HG1.out.later hb)
          have HB2 := Lib.hid (HB1.out.later hb)
          have HL2 := Lib.hid (HL1.out.later hb)
          have HR2 := Lib.hid (HR1.out.later hb)
          clear hb HG1 HB1 HL1 HR1 g0 g1 g2 g3
          obtain ⟨g0, g1, g2, g3⟩ := HG2.out.cells
          go_wp2_with fail
          refine (Hcp.out _ HG2.out.sh HL2.out).mono ?_
          rintro e w10 ⟨rfl, hb⟩
          have HG3 := Lib.hid (HG2.out.later hb)
          have HB3 := Lib.hid (HB2.out.later hb)
          have HL3 := Lib.hid (HL2.out.later hb)
          have HR3 := Lib.hid (HR2.out.later hb)
          clear hb HG2 HB2 HL2 HR2 g0 g1 g2 g3
          obtain ⟨g0, g1, g2, g3⟩ := HG3.out.cells
          go_wp2_with fail
          refine dag 28 (by kernel_rfl) (by kernel_rfl) (.is ?_ :: .is ?_ :: .is ?_ :: .is ?_ :: .is ?_ :: .is ?_ :: .is ?_ :: .is ?_ :: .is ?_ :: .is ?_ :: .is ?_ :: .is ?_ :: .is ?_ :: .is ?_ :: .is ?_ :: .is ?_ :: .is ?_ :: .is ?_ :: .is ?_ :: .is ?_ :: .is ?_ :: .is ?_ :: .is ?_ :: .is ?_ :: .is ?_ :: .is (.bool true) :: .is ?_ :: .is ?_ :: []) rfl ?st1 ?ob1
          case st1 => simp [Spec.ok]
          case ob1 =>
          intro env V hG
          obtain ⟨hc, hf⟩ := bcell hG
          have HGn := Lib.hid (HG3.out.later hG)
          clear hG
          iterate 25 (refine obls_is ?_ ?_; unfold doesAt; go_simp; (try go_bits); (first | (refine ⟨brefl _, ?_⟩; rfl) | rfl); intro K hK; go_simp; refine hK _ ?_; clear hK K)
          refine obls_is ?_ ?_
          · unfold doesAt
            go_simp
            refine (works_any V).mono ?_
            rintro e w1 ⟨rfl, hb1⟩
            (exact ⟨rfl, hb1⟩)
          intro K hK
          go_simp
          refine hK _ ?_
          clear hK K
          repeat (refine obls_is ?_ ?_; unfold doesAt; go_simp; (try go_bits); (first | (refine ⟨brefl _, ?_⟩; rfl) | rfl); intro K hK; go_simp; refine hK _ ?_; clear hK K)
          refine obls_nil (fun _ => ?_)
          go_wp2_with fail
          go_ret
          exact ⟨rfl, HGn.out.bel⟩
        | false =>
          clear Hle
          go_wp2_with fail
          refine (Hck3.out _ HG1.out.sh HR1.out).mono ?_
          rintro e w11 ⟨rfl, hb⟩
          have HG2 := Lib.hid (HG1.out.later hb)
          have HB2 := Lib.hid (HB1.out.later hb)
          have HL2 := Lib.hid (HL1.out.later hb)
          have HR2 := Lib.hid (HR1.out.later hb)
          clear hb HG1 HB1 HL1 HR1 g0 g1 g2 g3
          obtain ⟨g0, g1, g2, g3⟩ := HG2.out.cells
          go_wp2_with fail
          refine (Hcp.out _ HG2.out.sh HL2.out).mono ?_
          rintro e w12 ⟨rfl, hb⟩
          have HG3 := Lib.hid (HG2.out.later hb)
          have HB3 := Lib.hid (HB2.out.later hb)
          have HL3 := Lib.hid (HL2.out.later hb)
          have HR3 := Lib.hid (HR2.out.later hb)
          clear hb HG2 HB2 HL2 HR2 g0 g1 g2 g3
          obtain ⟨g0, g1, g2, g3⟩ := HG3.out.cells
          go_wp2_with fail
          refine dag 28 (by kernel_rfl) (by kernel_rfl) (.is ?_ :: .is ?_ :: .is ?_ :: .is ?_ :: .is ?_ :: .is ?_ :: .is ?_ :: .is ?_ :: .is ?_ :: .is ?_ :: .is ?_ :: .is ?_ :: .is ?_ :: .is ?_ :: .is ?_ :: .is ?_ :: .is ?_ :: .is ?_ :: .is ?_ :: .is ?_ :: .is ?_ :: .is ?_ :: .is ?_ :: .is ?_ :: .is ?_ :: .is (.bool true) :: .is ?_ :: .is ?_ :: []) rfl ?st1 ?ob1
          case st1 => simp [Spec.ok]
          case ob1 =>
          intro env V hG
          obtain ⟨hc, hf⟩ := bcell hG
          have HGn := Lib.hid (HG3.out.later hG)
          clear hG
          iterate 25 (refine obls_is ?_ ?_; unfold doesAt; go_simp; (try go_bits); (first | (refine ⟨brefl _, ?_⟩; rfl) | rfl); intro K hK; go_simp; refine hK _ ?_; clear hK K)
          refine obls_is ?_ ?_
          · unfold doesAt
            go_simp
            refine (works_any V).mono ?_
            rintro e w1 ⟨rfl, hb1⟩
            (exact ⟨rfl, hb1⟩)
          intro K hK
          go_simp
          refine hK _ ?_
          clear hK K
          repeat (refine obls_is ?_ ?_; unfold doesAt; go_simp; (try go_bits); (first | (refine ⟨brefl _, ?_⟩; rfl) | rfl); intro K hK; go_simp; refine hK _ ?_; clear hK K)
          refine obls_nil (fun _ => ?_)
          go_wp2_with fail
          go_ret
          exact ⟨rfl, HGn.out.bel⟩
  · obtain rfl : i = S.length := by omega
    have i1 : ¬ (S.length : Int) < (S.length : Int) := by omega
    clear him hlt
    have hln : ((List.range S.length).map F).length = S.length := by simp
    have hLb : ∀ x ∈ (List.range S.length).map F, 0 ≤ x ∧ x ≤ 100 := fun x hx => by
      rw [List.mem_map] at hx
      obtain ⟨g, _, rfl⟩ := hx
      exact HFb.out g
    have HL0 := Lib.hid (HI.out.sl (by omega))
    generalize (List.range S.length).map F = LP at *
    have HG0 := Lib.hid HI.out.gw
    have HB0 := Lib.hid (Hbs.out.later HI.out.gw.bel)
    have Hcp := Lib.hid (fun W (h : ShopIn W W.heap.size SA S.length sc PA P.length pc OA O.length oc S P O) (hl : Sl 1 encI W W.heap.size (some ⟨B, 0, none⟩) S.length S.length LP) => checkProof_all SA S.length sc PA P.length pc OA O.length oc S P O _ _ _ LP W h hl)
    rw [proofR_ok He.out hln hLb] at Hcp
    have Hle := Lib.hid (fun hc : cb = true => (show proofV S P O LP ≤ nv by
      obtain ⟨X, hX⟩ := Hxf.out hc
      rw [Hnv.out hc]
      exact proof_le hX hln hLb))
    have Hwk := Lib.hid (fun X (h1 : X.length = O.length) (h2 : RightX S O X) => weak_proof (P := P) h1 h2 hln hLb)
    generalize proofV S P O LP = pv at *
    clear hln hLb HI HFb hK g0 g1 g2 g3
    obtain ⟨g0, g1, g2, g3⟩ := HG0.out.cells
    go_wp2_with fail
    refine (Hfl.out _ HG0.out.sh HB0.out).mono ?_
    rintro e w13 ⟨A1, c1, L, rfl, hb, hfl, hsz, hfe⟩
    have HG1 := Lib.hid (HG0.out.later hb)
    have HB1 := Lib.hid (HB0.out.later hb)
    have HL1 := Lib.hid (HL0.out.later hb)
    clear hb HG0 HB0 HL0 g0 g1 g2 g3
    obtain ⟨g0, g1, g2, g3⟩ := HG1.out.cells
    have HR1 := Lib.hid hfl
    have Hsz := Lib.hid hsz
    have Hck2 := Lib.hid (fun W h hl => Hck.out A1 c1 L W h hl)
    clear hfl hsz Hck
    by_cases hf0 : fillE S P O (rowsX L) = 0
    case pos =>
      have hr := (fillE_right hf0).2
      have hcb : cb = true := Hcan.out (can_right HF.out hr)
      have ha1 : nv ≤ costL P (gotX (rowsX L)) S.length := by rw [Hnv.out hcb]; exact least_right HF.out Hsz.out.len hr
      have ha2 := Hwk.out _ Hsz.out.len hr
      have ha3 := Hle.out hcb
      have h14 : ¬ nv < pv := by omega
      have hR : fillR S P O (rowsX L) = (costL P (gotX (rowsX L)) S.length, 0) := by unfold fillR; rw [hf0, if_neg (by decide)]
      rw [hR] at Hck2
      have Hgv := Lib.hid (fun W (h : ShopIn W W.heap.size SA S.length sc PA P.length pc OA O.length oc S P O) (hl : FillIn W A1 O.length c1 L) => refGiven_any SA S.length sc PA P.length pc OA O.length oc S P O A1 O.length c1 L W h hl n5 (by have := hl.sl.len; omega) Hsz.out.row Hsz.out.small)
      have Hco := Lib.hid (fun A c W (h : ShopIn W W.heap.size SA S.length sc PA P.length pc OA O.length oc S P O) (hl : Sl 1 encI W W.heap.size A S.length c (givL S.length (rowsX L))) => refCost_any SA S.length sc PA P.length pc OA O.length oc S P O W h A S.length c _ hl (by have := HF.out.len; omega) (by have := HF.out.len; omega) HF.out.prc (giv_bound Hsz.out o8))
      rw [costX_giv] at Hco
      rw [decide_eq_true hf0]
      generalize costL P (gotX (rowsX L)) S.length = av at *
      generalize givL S.length (rowsX L) = gv at *
      subst hcb
      clear hf0 hr hR hfe ha3 Hle Hwk
      go_wp2_with fail
      refine (Hck2.out _ HG1.out.sh HR1.out).mono ?_
      rintro e w14 ⟨rfl, hb⟩
      have HG2 := Lib.hid (HG1.out.later hb)
      have HB2 := Lib.hid (HB1.out.later hb)
      have HL2 := Lib.hid (HL1.out.later hb)
      have HR2 := Lib.hid (HR1.out.later hb)
      clear hb HG1 HB1 HL1 HR1 g0 g1 g2 g3
      obtain ⟨g0, g1, g2, g3⟩ := HG2.out.cells
      go_wp2_with fail
      refine (Hcp.out _ HG2.out.sh HL2.out).mono ?_
      rintro e w15 ⟨rfl, hb⟩
      have HG3 := Lib.hid (HG2.out.later hb)
      have HB3 := Lib.hid (HB2.out.later hb)
      have HL3 := Lib.hid (HL2.out.later hb)
      have HR3 := Lib.hid (HR2.out.later hb)
      clear hb HG2 HB2 HL2 HR2 g0 g1 g2 g3
      obtain ⟨g0, g1, g2, g3⟩ := HG3.out.cells
      go_wp2_with fail
      refine dag 28 (by kernel_rfl) (by kernel_rfl) (.is ?_ :: .is ?_ :: .is ?_ :: .is ?_ :: .is ?_ :: .is ?_ :: .is ?_ :: .is ?_ :: .is ?_ :: .is ?_ :: .is ?_ :: .is ?_ :: .is ?_ :: .is ?_ :: .is ?_ :: .is ?_ :: .is ?_ :: .is ?_ :: .is ?_ :: .like (IsInts S.length gv) :: .is (.int .i64 av) :: .is ?_ :: .is ?_ :: .is ?_ :: .is ?_ :: .is (.bool true) :: .is ?_ :: .is ?_ :: []) rfl ?st1 ?ob1
      case st1 => repeat (first | exact stab_nil | refine stab_is ?_ | refine stab_like IsInts.stab ?_)
      case ob1 =>
      intro env V hG
      obtain ⟨hc, hf⟩ := bcell hG
      have HGn := Lib.hid (HG3.out.later hG)
      have HRn := Lib.hid (HR3.out.later hG)
      clear hG
      iterate 19 (refine obls_is ?_ ?_; unfold doesAt; go_simp; (try go_bits); (first | (refine ⟨brefl _, ?_⟩; rfl) | rfl); intro K hK; go_simp; refine hK _ ?_; clear hK K)
      refine obls_like (fun _ => ?_) ?_
      · unfold doesAt
        go_simp
        refine (Hgv.out V HGn.out.sh HRn.out).mono ?_
        rintro e w3 ⟨b, rfl, hb3, hsl⟩
        exact ⟨_, rfl, hb3, _, _, rfl, hsl⟩
      intro K hK
      go_simp
      refine hK _ ?_
      clear hK K
      refine obls_isL (fun hl => ?_) ?_
      · obtain ⟨G, c, hE, hsl⟩ : IsInts S.length gv (env 19) V := hl ⟨19, .data⟩ (by simp) rfl
        have Hsl := Lib.hid hsl
        clear hsl
        unfold doesAt
        go_simp
        refine (Hco.out _ _ V HGn.out.sh Hsl.out).mono ?_
        rintro e w3 ⟨rfl, hb3⟩
        exact ⟨rfl, hb3⟩
      intro K hK
      go_simp
      refine hK _ ?_
      clear hK K
      iterate 4 (refine obls_is ?_ ?_; unfold doesAt; go_simp; (try go_bits); (first | (refine ⟨brefl _, ?_⟩; rfl) | rfl); intro K hK; go_simp; refine hK _ ?_; clear hK K)
      refine obls_is ?_ ?_
      · unfold doesAt
        go_simp
        refine (works_any V).mono ?_
        rintro e w1 ⟨rfl, hb1⟩
        (exact ⟨rfl, hb1⟩)
      intro K hK
      go_simp
      refine hK _ ?_
      clear hK K
      repeat (refine obls_is ?_ ?_; unfold doesAt; go_simp; (try go_bits); (first | (refine ⟨brefl _, ?_⟩; rfl) | rfl); intro K hK; go_simp; refine hK _ ?_; clear hK K)
      refine obls_nil (fun _ => ?_)
      go_wp2_with fail
      go_ret
      exact ⟨rfl, HGn.out.bel⟩
    case neg =>
      have h14 := hfe.resolve_left hf0
      have Hck3 := Lib.hid (fun W h hl => Hck2.out W h hl)
      rw [fillR_snd, h14] at Hck3
      generalize (fillR S P O (rowsX L)).1 = x1 at *
      rw [decide_eq_false hf0]
      clear hf0 hfe h14 Hck2 Hwk
      cases cb with
      | true =>
        have ha3 := Hle.out rfl
        have h14 : ¬ nv < pv := by omega
        clear ha3 Hle
        go_wp2_with fail
        refine (Hck3.out _ HG1.out.sh HR1.out).mono ?_
        rintro e w16 ⟨rfl, hb⟩
        have HG2 := Lib.hid (HG1.out.later hb)
        have HB2 := Lib.hid (HB1.out.later hb)
        have HL2 := Lib.hid (HL1.out.later hb)
        have HR2 := Lib.hid (HR1.out.later hb)
        clear hb HG1 HB1 HL1 HR1 g0 g1 g2 g3
        obtain ⟨g0, g1, g2, g3⟩ := HG2.out.cells
        go_wp2_with fail
        refine (Hcp.out _ HG2.out.sh HL2.out).mono ?_
        rintro e w17 ⟨rfl, hb⟩
        have HG3 := Lib.hid (HG2.out.later hb)
        have HB3 := Lib.hid (HB2.out.later hb)
        have HL3 := Lib.hid (HL2.out.later hb)
        have HR3 := Lib.hid (HR2.out.later hb)
        clear hb HG2 HB2 HL2 HR2 g0 g1 g2 g3
        obtain ⟨g0, g1, g2, g3⟩ := HG3.out.cells
        go_wp2_with fail
        refine dag 28 (by kernel_rfl) (by kernel_rfl) (.is ?_ :: .is ?_ :: .is ?_ :: .is ?_ :: .is ?_ :: .is ?_ :: .is ?_ :: .is ?_ :: .is ?_ :: .is ?_ :: .is ?_ :: .is ?_ :: .is ?_ :: .is ?_ :: .is ?_ :: .is ?_ :: .is ?_ :: .is ?_ :: .is ?_ :: .is ?_ :: .is ?_ :: .is ?_ :: .is ?_ :: .is ?_ :: .is ?_ :: .is (.bool true) :: .is ?_ :: .is ?_ :: []) rfl ?st1 ?ob1
        case st1 => simp [Spec.ok]
        case ob1 =>
        intro env V hG
        obtain ⟨hc, hf⟩ := bcell hG
        have HGn := Lib.hid (HG3.out.later hG)
        clear hG
        iterate 25 (refine obls_is ?_ ?_; unfold doesAt; go_simp; (try go_bits); (first | (refine ⟨brefl _, ?_⟩; rfl) | rfl); intro K hK; go_simp; refine hK _ ?_; clear hK K)
        refine obls_is ?_ ?_
        · unfold doesAt
          go_simp
          refine (works_any V).mono ?_
          rintro e w1 ⟨rfl, hb1⟩
          (exact ⟨rfl, hb1⟩)
        intro K hK
        go_simp
        refine hK _ ?_
        clear hK K
        repeat (refine obls_is ?_ ?_; unfold doesAt; go_simp; (try go_bits); (first | (refine ⟨brefl _, ?_⟩; rfl) | rfl); intro K hK; go_simp; refine hK _ ?_; clear hK K)
        refine obls_nil (fun _ => ?_)
        go_wp2_with fail
        go_ret
        exact ⟨rfl, HGn.out.bel⟩
      | false =>
        clear Hle
        go_wp2_with fail
        refine (Hck3.out _ HG1.out.sh HR1.out).mono ?_
        rintro e w18 ⟨rfl, hb⟩
        have HG2 := Lib.hid (HG1.out.later hb)
        have HB2 := Lib.hid (HB1.out.later hb)
        have HL2 := Lib.hid (HL1.out.later hb)
        have HR2 := Lib.hid (HR1.out.later hb)
        clear hb HG1 HB1 HL1 HR1 g0 g1 g2 g3
        obtain ⟨g0, g1, g2, g3⟩ := HG2.out.cells
        go_wp2_with fail
        refine (Hcp.out _ HG2.out.sh HL2.out).mono ?_
        rintro e w19 ⟨rfl, hb⟩
        have HG3 := Lib.hid (HG2.out.later hb)
        have HB3 := Lib.hid (HB2.out.later hb)
        have HL3 := Lib.hid (HL2.out.later hb)
        have HR3 := Lib.hid (HR2.out.later hb)
        clear hb HG2 HB2 HL2 HR2 g0 g1 g2 g3
        obtain ⟨g0, g1, g2, g3⟩ := HG3.out.cells
        go_wp2_with fail
        refine dag 28 (by kernel_rfl) (by kernel_rfl) (.is ?_ :: .is ?_ :: .is ?_ :: .is ?_ :: .is ?_ :: .is ?_ :: .is ?_ :: .is ?_ :: .is ?_ :: .is ?_ :: .is ?_ :: .is ?_ :: .is ?_ :: .is ?_ :: .is ?_ :: .is ?_ :: .is ?_ :: .is ?_ :: .is ?_ :: .is ?_ :: .is ?_ :: .is ?_ :: .is ?_ :: .is ?_ :: .is ?_ :: .is (.bool true) :: .is ?_ :: .is ?_ :: []) rfl ?st1 ?ob1
        case st1 => simp [Spec.ok]
        case ob1 =>
        intro env V hG
        obtain ⟨hc, hf⟩ := bcell hG
        have HGn := Lib.hid (HG3.out.later hG)
        clear hG
        iterate 25 (refine obls_is ?_ ?_; unfold doesAt; go_simp; (try go_bits); (first | (refine ⟨brefl _, ?_⟩; rfl) | rfl); intro K hK; go_simp; refine hK _ ?_; clear hK K)
        refine obls_is ?_ ?_
        · unfold doesAt
          go_simp
          refine (works_any V).mono ?_
          rintro e w1 ⟨rfl, hb1⟩
          (exact ⟨rfl, hb1⟩)
        intro K hK
        go_simp
        refine hK _ ?_
        clear hK K
        repeat (refine obls_is ?_ ?_; unfold doesAt; go_simp; (try go_bits); (first | (refine ⟨brefl _, ?_⟩; rfl) | rfl); intro K hK; go_simp; refine hK _ ?_; clear hK K)
        refine obls_nil (fun _ => ?_)
        go_wp2_with fail
        go_ret
        exact ⟨rfl, HGn.out.bel⟩
end Go.Proofs.Ytmfiggbobaihcaa
