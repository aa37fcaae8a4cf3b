/- The document's Span. -/
import Derived.Test.YtmfiggbobaihcaaGRefC
namespace Go.Proofs.Ytmfiggbobaihcaa
open Go.RowKit Go.Shelf

theorem Sl.setO {W : World} {N : Nat} {A : Option Addr} {n c : Nat} {xs : List Int} (h : Sl 1 encI W N A n c xs) {p : Addr} (hp : ∀ b o, 0 < n → A = some ⟨b, o, none⟩ → b ≠ p.block) (u : Value) : Sl 1 encI (W.setCell p u) N A n c xs :=
  ⟨h.len, h.cap, h.big, fun hn => by
    obtain ⟨b, o, hA, hB, hc⟩ := h.at_ hn
    refine ⟨b, o, hA, hB, fun i x hx j u' hu => ?_⟩
    have h1 := hc i x hx j u' hu
    have h2 := Below.heap_setCell W p u b (hp b o hn hA)
    unfold World.cell? at h1 ⊢
    rw [h2]
    exact h1⟩
theorem Sl.notShop {W : World} {N : Nat} {A : Option Addr} {n c B : Nat} {xs : List Int} {t : TypeId} {x y z : Option Addr} {a1 a2 b1 b2 c1 c2 : Nat} (h : Sl 1 encI W N A n c xs) (hb : Blk W B t #[.slice x a1 a2, .slice y b1 b2, .slice z c1 c2]) : ∀ b o, 0 < n → A = some ⟨b, o, none⟩ → b ≠ B := by
  rintro b o hn hA rfl
  obtain ⟨b', o', v, hA', _, hv, hc⟩ := h.ltI hn
  rw [hA] at hA'
  simp only [Option.some.injEq, Addr.mk.injEq, and_true] at hA'
  obtain ⟨rfl, rfl⟩ := hA'
  rw [hb.cell] at hc
  match o, hc with
  | 0, hc => simp at hc
  | 1, hc => simp at hc
  | 2, hc => simp at hc
  | _ + 3, hc => simp at hc
set_option maxRecDepth 100000 in
set_option maxHeartbeats 8000000 in
theorem refSpan_any (SA : Option Addr) (sn sc : Nat) (PA : Option Addr) (pn pc : Nat) (OA : Option Addr) (on oc : Nat) (S P : List Int) (O : List Od) (LA : Option Addr) (ln lc : Nat) (L : List Int) (w : World) (hs : ShopIn w w.heap.size SA sn sc PA pn pc OA on oc S P O) (hl : Sl 1 encI w w.heap.size LA ln lc L) : Calls Try.prog 39 #[.agg #[.slice SA sn sc, .slice PA pn pc, .slice OA on oc], .slice LA ln lc] w fun e w' => e = .returned (.tuple #[.int .i64 (spanR S P O L).1, .int .i64 (spanR S P O L).2.1, .int .i64 (spanR S P O L).2.2]) ∧ Below w.heap.size w w' := by
  have Hs := Lib.hid hs
  obtain rfl := hs.stk.len
  obtain rfl := hs.prc.len
  obtain rfl := hs.ord.len
  have HG0 := Lib.hid (GW.start hs)
  obtain ⟨g0, g1, g2, g3⟩ := HG0.out.cells
  obtain rfl := hl.len
  have Hl := Lib.hid hl
  unfold spanR
  have Ho := Lib.hid (fun W (h : ShopIn W W.heap.size SA S.length sc PA P.length pc OA O.length oc S P O) => refShop_any SA S.length sc PA P.length pc OA O.length oc S P O W h)
  by_cases he : shopE S P O = 0
  case neg =>
    rw [if_pos he]
    obtain ⟨q, hq⟩ : ∃ q, shopE S P O = q := ⟨_, rfl⟩
    rw [hq] at Ho he ⊢
    have d1 : (q != 0) = true := by simpa using he
    clear hs hq he
    go_enter Try.func39, Try.ntmps39
    go_wp2_with fail
    refine (Ho.out _ HG0.out.sh).mono ?_
    rintro e w1 ⟨rfl, hb⟩
    have HG1 := Lib.hid (HG0.out.later hb)
    clear hb HG0 g0 g1 g2 g3
    obtain ⟨g0, g1, g2, g3⟩ := HG1.out.cells
    go_wp2_with fail
    refine (Ho.out _ HG1.out.sh).mono ?_
    rintro e w2 ⟨rfl, hb⟩
    have HG2 := Lib.hid (HG1.out.later hb)
    clear hb HG1 g0 g1 g2 g3
    obtain ⟨g0, g1, g2, g3⟩ := HG2.out.cells
    go_wp2
    go_ret3
    exact ⟨rfl, HG2.out.bel⟩
  rw [if_neg (fun h => h he)]
  have hF := fine_of he
  rw [he] at Ho
  by_cases hn : L.length = S.length
  case neg =>
    rw [if_pos hn]
    have dn : ((L.length : Int) != (S.length : Int)) = true := by simp; omega
    have dn2 : ¬ L.length = S.length := hn
    clear hs he hF hn hl
    go_enter Try.func39, Try.ntmps39
    go_wp2_with fail
    refine (Ho.out _ HG0.out.sh).mono ?_
    rintro e w3 ⟨rfl, hb⟩
    have HG1 := Lib.hid (HG0.out.later hb)
    clear hb HG0 g0 g1 g2 g3
    obtain ⟨g0, g1, g2, g3⟩ := HG1.out.cells
    go_wp2
    go_ret3
    exact ⟨rfl, HG1.out.bel⟩
  rw [if_neg (fun h => h hn)]
  have dn : ((L.length : Int) != (S.length : Int)) = false := by simp; omega
  have Hn := Lib.hid hn
  have n5 : L.length ≤ 5 := by have := hF.n5; omega
  have Hok := Lib.hid hF.ok
  have Hst := Lib.hid hF.stk
  have Hcan := Lib.hid (fun W (h : ShopIn W W.heap.size SA S.length sc PA P.length pc OA O.length oc S P O) => refCan_any SA S.length sc PA P.length pc OA O.length oc S P O W h he)
  obtain ⟨res, hres⟩ : ∃ res : Int × Int × Int, (if overB S L then (0, 0, 3) else if canB S.length O (stockM S) then (leV S.length P O (addM (stockM S) L), leV S.length P O (stockM S), 0) else (0, 0, 25)) = res := ⟨_, rfl⟩
  rw [hres]
  have Hres := Lib.hid hres
  clear hs he hF hn hl hres
  go_enter Try.func39, Try.ntmps39
  go_wp2_with fail
  refine (Ho.out _ HG0.out.sh).mono ?_
  rintro e w4 ⟨rfl, hb⟩
  have HG1 := Lib.hid (HG0.out.later hb)
  clear hb HG0 g0 g1 g2 g3
  obtain ⟨g0, g1, g2, g3⟩ := HG1.out.cells
  have HB1 := Lib.hid (show w.heap.size + 1 ≤ w4.heap.size by have := HG1.out.b0.lt; omega)
  have HX0 := Lib.hid (show XW (w4.alloc (.cells #[.slice SA S.length sc, .slice PA P.length pc, .slice OA O.length oc] 25)) w4.heap.size S.length PA P.length pc OA O.length oc (addLs S L 0) from ⟨SA, sc, Blk.new _ _ _, HG1.out.sh.stk.later (balloc (brefl _) _)⟩)
  go_wp2_with fail
  have HG2 := Lib.hid (HG1.out.later (balloc (brefl w4) (.cells #[.slice SA S.length sc, .slice PA P.length pc, .slice OA O.length oc] 25)))
  clear HG1 g0 g1 g2 g3
  obtain ⟨g0, g1, g2, g3⟩ := HG2.out.cells
  obtain ⟨B, hB⟩ : ∃ B, B = w4.heap.size := ⟨_, rfl⟩
  rw [← hB] at HB1 HX0 ⊢
  clear hB
  refine loop_n (fun m b W => b.defers = [] ∧ ∃ i : Nat, i + m = L.length ∧ Hid (GW w W w.heap.size SA S.length sc PA P.length pc OA O.length oc S P O) ∧ Hid (XW W B S.length PA P.length pc OA O.length oc (addLs S L i)) ∧ Hid (∀ (j : Nat) x y, j < i → L[j]? = some x → S[j]? = some y → inR 0 (50 - y) x = true) ∧ Fits (none :: some (.slice LA L.length lc) :: some (.pointer (some ⟨w.heap.size, 0, none⟩)) :: none :: none :: none :: none :: some (.pointer (some ⟨B, 0, none⟩)) :: some (.int .i64 (i : Nat)) :: none :: none :: none :: none :: none :: none :: none :: none :: none :: none :: none :: none :: none :: none :: none :: none :: none :: none :: none :: none :: none :: none :: none :: none :: none :: none :: none :: none :: none :: none :: none :: none :: none :: none :: none :: none :: none :: none :: none :: none :: none :: none :: none :: none :: none :: none :: none :: none :: none :: none :: none :: none :: none :: none :: none :: none :: none :: []) b.tmps.toList) L.length ?_ ?_
  · refine ⟨rfl, 0, by omega, HG2, HX0, Lib.hid (fun j x y h => by omega), ?_⟩
    repeat (first | exact fits_nil | refine fits_none ?_ | refine fits_some ?_)
  clear HG2 HX0 g0 g1 g2 g3
  intro m b W hI K hK
  obtain ⟨hds, i, him, HG0, HX, HN, hfit⟩ := hI
  obtain ⟨f, hf⟩ := fits_act hfit
  rw [hds] at hf
  subst hf
  clear hfit hds
  simp only [fillP, Nat.reduceAdd]
  obtain ⟨g0, g1, g2, g3⟩ := HG0.out.cells
  by_cases hlt : i < L.length
  · obtain ⟨rb, ro, x, rfl, hrb, hx, p0⟩ := (Hl.out.later HG0.out.bel).ltI (i := i) hlt
    obtain ⟨qb, qo, y, rfl, hqb, hy, q0⟩ := HG0.out.sh.stk.ltI (i := i) (by have := Hn.out; omega)
    have hy50 := Hst.out y (List.mem_of_getElem? hy)
    have i1 : (i : Int) < (L.length : Int) := by omega
    have i2 : (0 : Int) ≤ (i : Int) := by omega
    have i3 : IntKind.i64.wrap ((i : Int) + 1) = (i : Int) + 1 := by rw [IntKind.wrap_i64]; omega
    have i4 : (i : Int) < (S.length : Int) := by have := Hn.out; omega
    have Him := Lib.hid (show i + m = L.length ∧ i < L.length from ⟨him, hlt⟩)
    have Hx := Lib.hid hx
    have Hy := Lib.hid hy
    have Hbad := Lib.hid (show inR 0 (50 - y) x = false → res = (0, 0, 3) from fun h => by rw [← Hres.out, if_pos (overB_yes hx hy h)])
    clear him hlt hx hy
    cases h1 : decide (x < 0) with
    | true =>
      have HR := Lib.hid (Hbad.out ((inR_no _ _ _).2 (.inl (of_decide_eq_true h1))))
      clear hK hy50
      go_wp2_with fail
      refine dag 25 (by kernel_rfl) (by kernel_rfl) (.is ?_ :: .is ?_ :: .is ?_ :: .is ?_ :: .is ?_ :: .is ?_ :: .is ?_ :: .is ?_ :: .is ?_ :: .is ?_ :: .is ?_ :: .is ?_ :: .is ?_ :: .is ?_ :: .is ?_ :: .is ?_ :: .is ?_ :: .is ?_ :: .is ?_ :: .is ?_ :: .is ?_ :: .is ?_ :: .is ?_ :: .is ?_ :: .is ?_ :: []) rfl ?st1 ?ob1
      case st1 => simp [Spec.ok]
      case ob1 =>
        intro env V hG
        obtain ⟨hc, hf⟩ := bcell hG
        repeat (refine obls_is ?_ ?_; unfold doesAt; go_simp; (try go_bits); (first | (refine ⟨brefl _, ?_⟩; rfl) | rfl); intro K hK; go_simp; refine hK _ ?_; clear hK K)
        refine obls_nil (fun _ => ?_)
        have HG1 := Lib.hid (HG0.out.later hG)
        clear hc hf hG g0 g1 g2 g3 p0 q0
        go_wp2
        go_ret3
        exact ⟨ret_three (by rw [HR.out]) (by rw [HR.out]) (by rw [HR.out]), HG1.out.bel⟩
    | false =>
    cases h2 : decide (50 < x) with
    | true =>
      have HR := Lib.hid (Hbad.out ((inR_no _ _ _).2 (.inr (by have := of_decide_eq_true h2; omega))))
      clear hK hy50
      go_wp2_with fail
      refine dag 25 (by kernel_rfl) (by kernel_rfl) (.is ?_ :: .is ?_ :: .is ?_ :: .is ?_ :: .is ?_ :: .is ?_ :: .is ?_ :: .is ?_ :: .is ?_ :: .is ?_ :: .is ?_ :: .is ?_ :: .is ?_ :: .is ?_ :: .is ?_ :: .is ?_ :: .is ?_ :: .is ?_ :: .is ?_ :: .is ?_ :: .is ?_ :: .is ?_ :: .is ?_ :: .is ?_ :: .is ?_ :: []) rfl ?st2 ?ob2
      case st2 => simp [Spec.ok]
      case ob2 =>
        intro env V hG
        obtain ⟨hc, hf⟩ := bcell hG
        repeat (refine obls_is ?_ ?_; unfold doesAt; go_simp; (try go_bits); (first | (refine ⟨brefl _, ?_⟩; rfl) | rfl); intro K hK; go_simp; refine hK _ ?_; clear hK K)
        refine obls_nil (fun _ => ?_)
        have HG1 := Lib.hid (HG0.out.later hG)
        clear hc hf hG g0 g1 g2 g3 p0 q0
        go_wp2
        go_ret3
        exact ⟨ret_three (by rw [HR.out]) (by rw [HR.out]) (by rw [HR.out]), HG1.out.bel⟩
    | false =>
    have i5 : IntKind.i64.wrap (y + x) = y + x := by have := of_decide_eq_false h1; have := of_decide_eq_false h2; rw [IntKind.wrap_i64]; omega
    cases h3 : decide (50 < y + x) with
    | true =>
      have HR := Lib.hid (Hbad.out ((inR_no _ _ _).2 (.inr (by have := of_decide_eq_true h3; omega))))
      clear hK hy50
      go_wp2_with fail
      refine dag 25 (by kernel_rfl) (by kernel_rfl) (.is ?_ :: .is ?_ :: .is ?_ :: .is ?_ :: .is ?_ :: .is ?_ :: .is ?_ :: .is ?_ :: .is ?_ :: .is ?_ :: .is ?_ :: .is ?_ :: .is ?_ :: .is ?_ :: .is ?_ :: .is ?_ :: .is ?_ :: .is ?_ :: .is ?_ :: .is ?_ :: .is ?_ :: .is ?_ :: .is ?_ :: .is ?_ :: .is ?_ :: []) rfl ?st3 ?ob3
      case st3 => simp [Spec.ok]
      case ob3 =>
        intro env V hG
        obtain ⟨hc, hf⟩ := bcell hG
        repeat (refine obls_is ?_ ?_; unfold doesAt; go_simp; (try go_bits); (first | (refine ⟨brefl _, ?_⟩; rfl) | rfl); intro K hK; go_simp; refine hK _ ?_; clear hK K)
        refine obls_nil (fun _ => ?_)
        have HG1 := Lib.hid (HG0.out.later hG)
        clear hc hf hG g0 g1 g2 g3 p0 q0
        go_wp2
        go_ret3
        exact ⟨ret_three (by rw [HR.out]) (by rw [HR.out]) (by rw [HR.out]), HG1.out.bel⟩
    | false =>
    have a1 := of_decide_eq_false h1
    have a2 := of_decide_eq_false h2
    have a3 := of_decide_eq_false h3
    have Hin := Lib.hid ((inR_iff 0 (50 - y) x).2 ⟨by omega, by omega⟩)
    have Hxb := Lib.hid (show 0 ≤ x ∧ x ≤ 50 from ⟨by omega, by omega⟩)
    clear a1 a2 a3 hy50
    go_wp2_with fail
    refine dag 25 (by kernel_rfl) (by kernel_rfl) (.is ?_ :: .is ?_ :: .is ?_ :: .is ?_ :: .is ?_ :: .is ?_ :: .is ?_ :: .is ?_ :: .is ?_ :: .is ?_ :: .is ?_ :: .is ?_ :: .is ?_ :: .is ?_ :: .is ?_ :: .is ?_ :: .is ?_ :: .is ?_ :: .is ?_ :: .is ?_ :: .is ?_ :: .is ?_ :: .is ?_ :: .is ?_ :: .is ?_ :: []) rfl ?st4 ?ob4
    case st4 => simp [Spec.ok]
    case ob4 =>
      intro env V hG
      obtain ⟨hc, hf⟩ := bcell hG
      repeat (refine obls_is ?_ ?_; unfold doesAt; go_simp; (try go_bits); (first | (refine ⟨brefl _, ?_⟩; rfl) | rfl); intro K hK; go_simp; refine hK _ ?_; clear hK K)
      refine obls_nil (fun _ => ?_)
      have HG1 := Lib.hid (HG0.out.later hG)
      have HX1 := Lib.hid (HX.out.later hG)
      clear hc hf hG g0 g1 g2 g3 p0 q0 HG0 HX hrb hqb
      clear W
      obtain ⟨rb2, ro2, x2, hA2, hrb2, hx2, p0⟩ := (Hl.out.later HG1.out.bel).ltI (i := i) Him.out.2
      simp only [Option.some.injEq, Addr.mk.injEq, and_true] at hA2
      obtain ⟨rfl, rfl⟩ := hA2
      rw [Hx.out] at hx2
      cases hx2
      obtain ⟨A, c, hX1, hX2⟩ := HX1.out.ex
      have x0 := hX1.cell 0
      have x1 := hX1.cell 1
      have x2 := hX1.cell 2
      have x3 := hX1.lt
      have HXs := Lib.hid hX2
      have HXb := Lib.hid hX1
      have hbs : ∀ j, j < i → 0 ≤ L.getD j 0 ∧ L.getD j 0 ≤ 50 := fun j hj => by
        have hl1 := List.getElem?_eq_getElem (show j < L.length by have := Him.out; omega)
        have hs1 := List.getElem?_eq_getElem (show j < S.length by have := Him.out; have := Hn.out; omega)
        have h5 := (inR_iff _ _ _).1 (HN.out j _ _ hj hl1 hs1)
        have h6 := Hst.out _ (List.mem_of_getElem? hs1)
        rw [sl_getD hl1]
        omega
      have hbx : ∀ x ∈ addLs S L i, 0 ≤ x ∧ x ≤ 1000 := fun z hz => by
        obtain ⟨j, hj⟩ := List.getElem?_of_mem hz
        have h1 := stockM_at hj
        rw [addLs_stock S L i (by have := Him.out; have := Hn.out; omega)] at h1
        have h2 := stockM_bound Hst.out (by omega) j
        unfold addM at h1
        rw [take_getD] at h1
        split at h1
        · have := hbs j (by omega); omega
        · omega
      have hlen := addLs_len S L i
      have Hw := Lib.hid (refWith_any A S.length c PA P.length pc OA O.length oc (addLs S L i) P O i x V ⟨hX2, HG1.out.sh.prc, HG1.out.sh.ord⟩ (by rw [hlen]; have := Him.out; have := Hn.out; omega) (by rw [hlen]; have := Hn.out; omega) hbx (by have := Hxb.out; omega))
      have hadd : (addLs S L i).set i ((addLs S L i).getD i 0 + x) = addLs S L (i + 1) := by rw [addLs, sl_getD Hx.out]
      rw [hadd, hlen] at Hw
      have Hcalls := Lib.hid (fun U (hb : Below V.heap.size V U) => refWith_any A S.length c PA P.length pc OA O.length oc (addLs S L i) P O i x U ⟨HXs.out.later hb, HG1.out.sh.prc.later hb, HG1.out.sh.ord.later hb⟩ (by rw [hlen]; have := Him.out; have := Hn.out; omega) (by rw [hlen]; have := Hn.out; omega) hbx (by have := Hxb.out; omega))
      rw [hadd, hlen] at Hcalls
      clear hX1 hX2 hbs hbx hlen hadd Hw
      go_wp2_with fail
      refine dag 7 (by kernel_rfl) (by kernel_rfl) (.is ?_ :: .is ?_ :: .is ?_ :: .is ?_ :: .is ?_ :: .is ?_ :: .like (ShG S.length (addLs S L (i + 1)) (.slice PA P.length pc) (.slice OA O.length oc)) :: []) rfl ?st5 ?ob5
      case st5 => repeat (first | exact stab_nil | refine stab_is ?_ | refine stab_like ShG.stab ?_)
      case ob5 =>
        intro env5 V5 hG
        obtain ⟨hc, hf⟩ := bcell hG
        have HV := Lib.hid hG
        iterate 6 (refine obls_is ?_ ?_; unfold doesAt; go_simp; (try go_bits); (first | (refine ⟨brefl _, ?_⟩; rfl) | rfl); intro K hK; go_simp; refine hK _ ?_; clear hK K)
        refine obls_like (fun _ => ?_) ?_
        · unfold doesAt
          go_simp
          refine (Hcalls.out _ HV.out).mono ?_
          rintro e w3 ⟨A', c', rfl, hb3, hsl⟩
          exact ⟨_, rfl, hb3, A', c', rfl, hsl⟩
        intro K hK
        go_simp
        refine hK _ ?_
        clear hK K
        refine obls_last (fun hok => ?_)
        obtain ⟨A', c', he6, hsl⟩ : ShG S.length (addLs S L (i + 1)) (.slice PA P.length pc) (.slice OA O.length oc) (env5 6) V5 := hok 6 _ rfl
        have HXn := HXb.out.later hG
        have y0 := HXn.cell 0
        have y1 := HXn.cell 1
        have y2 := HXn.cell 2
        have y3 := HXn.frozen 0
        have y4 := HXn.frozen 1
        have y5 := HXn.frozen 2
        have y6 := HXn.lt
        have HGn := HG1.out.later hG
        have hBn : w.heap.size ≤ B := by have := HB1.out; omega
        have hBne : B ≠ w.heap.size := by have := HB1.out; omega
        have hbel := ((HGn.bel.setCell (p := ⟨B, 0, none⟩) hBn (.slice A' S.length c')).setCell (p := ⟨B, 1, none⟩) hBn (.slice PA P.length pc)).setCell (p := ⟨B, 2, none⟩) hBn (.slice OA O.length oc)
        have hb0 := ((HGn.b0.other (p := ⟨B, 0, none⟩) hBne (.slice A' S.length c')).other (p := ⟨B, 1, none⟩) hBne (.slice PA P.length pc)).other (p := ⟨B, 2, none⟩) hBne (.slice OA O.length oc)
        have hxb := ((HXn.set 0 (.slice A' S.length c')).set 1 (.slice PA P.length pc)).set 2 (.slice OA O.length oc)
        have hsl2 : Sl 1 encI (((V5.setCell ⟨B, 0, none⟩ (.slice A' S.length c')).setCell ⟨B, 1, none⟩ (.slice PA P.length pc)).setCell ⟨B, 2, none⟩ (.slice OA O.length oc)) V5.heap.size A' S.length c' (addLs S L (i + 1)) := by
          have hno := hsl.notShop HXn
          exact ((hsl.setO (p := ⟨B, 0, none⟩) hno _).setO (p := ⟨B, 1, none⟩) hno _).setO (p := ⟨B, 2, none⟩) hno _
        have HGf := Lib.hid (show GW w _ w.heap.size _ S.length sc PA P.length pc OA O.length oc S P O from ⟨hbel, hb0, Hs.out.later hbel⟩)
        have HXf := Lib.hid (show XW _ B S.length PA P.length pc OA O.length oc (addLs S L (i + 1)) from ⟨A', c', hxb, hsl2.more (by simp)⟩)
        have HNf := Lib.hid (show ∀ (j : Nat) x y, j < i + 1 → L[j]? = some x → S[j]? = some y → inR 0 (50 - y) x = true from fun j a b hj ha hb => by
          rcases Nat.lt_or_ge j i with h | h
          · exact HN.out j a b h ha hb
          · obtain rfl : j = i := by omega
            have h1 := Hx.out
            have h2 := Hy.out
            rw [ha] at h1; rw [hb] at h2; cases h1; cases h2; exact Hin.out)
        rw [he6]
        clear hok hsl HXn HGn hBn hBne hbel hb0 hxb hsl2 hG hc hf x0 x1 x2 x3 p0
        unfold doesAt
        go_simp
        obtain ⟨wz, hwz⟩ : ∃ x, ((V5.setCell ⟨B, 0, none⟩ (.slice A' S.length c')).setCell ⟨B, 1, none⟩ (.slice PA P.length pc)).setCell ⟨B, 2, none⟩ (.slice OA O.length oc) = x := ⟨_, rfl⟩
        rw [hwz] at HGf HXf ⊢
        clear hwz y0 y1 y2 y3 y4 y5 y6
        go_wp2
        refine hK _ _ (m - 1) (by have := Him.out; omega) ⟨rfl, i + 1, by have := Him.out; omega, HGf, HXf, HNf, ?_⟩
        repeat (first | exact fits_nil | refine fits_none ?_ | refine fits_some ?_)
  have i1 : ¬ (i : Int) < (L.length : Int) := by omega
  obtain rfl : i = L.length := by omega
  have Hov := Lib.hid (overB_all (fun j x y hx hy => HN.out j x y (List.getElem?_eq_some_iff.1 hx).1 hx hy) Hn.out)
  have HQ0 := HX
  clear hK him hlt HN HX
  go_wp2_with fail
  refine (Hcan.out _ HG0.out.sh).mono ?_
  rintro e w5 ⟨rfl, hb⟩
  have HG1 := Lib.hid (HG0.out.later hb)
  have HQ1 := Lib.hid (HQ0.out.later hb)
  clear hb HG0 HQ0 g0 g1 g2 g3
  obtain ⟨g0, g1, g2, g3⟩ := HG1.out.cells
  obtain ⟨q, hq⟩ : ∃ q, canB S.length O (stockM S) = q := ⟨_, rfl⟩
  rw [hq]
  have Hq := Lib.hid hq
  clear hq
  cases q with
  | false =>
    have HR := Lib.hid (show res = (0, 0, 25) by rw [← Hres.out, if_neg (by rw [Hov.out]; decide), if_neg (by rw [Hq.out]; decide)])
    go_wp2
    go_ret3
    exact ⟨ret_three (by rw [HR.out]) (by rw [HR.out]) (by rw [HR.out]), HG1.out.bel⟩
  | true =>
  have HR := Lib.hid (show res = (leV S.length P O (addM (stockM S) L), leV S.length P O (stockM S), 0) by rw [← Hres.out, if_neg (by rw [Hov.out]; decide), if_pos Hq.out])
  obtain ⟨A, c, hX1, hX2⟩ := HQ1.out.ex
  have x0 := hX1.cell 0
  have x1 := hX1.cell 1
  have x2 := hX1.cell 2
  have x3 := hX1.lt
  have hlen := addLs_len S L L.length
  have hstk : stockM (addLs S L L.length) = addM (stockM S) L := by rw [addLs_stock S L _ (by have := Hn.out; omega), List.take_length]
  have hok2 : ShOk S.length P O (addM (stockM S) L) 100 := by
    have := Hok.out.add Hov.out L.length
    rwa [List.take_length] at this
  have Hl1 := Lib.hid (fun U (hb : Below w5.heap.size w5 U) => refLeastOf_any A S.length c PA P.length pc OA O.length oc (addLs S L L.length) P O U ⟨hX2.later hb, HG1.out.sh.prc.later hb, HG1.out.sh.ord.later hb⟩ (b := 100) (by rw [hlen]; exact shOk_list hok2 hstk) (by omega))
  have Hl2 := Lib.hid (fun U (hb : Below w5.heap.size w5 U) => refLeastOf_any SA S.length sc PA P.length pc OA O.length oc S P O U (HG1.out.sh.later hb) Hok.out (by omega))
  rw [hlen, hstk] at Hl1
  generalize leV S.length P O (addM (stockM S) L) = v1 at *
  generalize leV S.length P O (stockM S) = v2 at *
  have HX9 := Lib.hid hX1
  clear hX1 hX2 hlen hstk hok2
  go_wp2_with fail
  refine dag 7 (by kernel_rfl) (by kernel_rfl) (.is ?_ :: .is ?_ :: .is ?_ :: .is ?_ :: .is ?_ :: .is ?_ :: .is ?_ :: []) rfl ?st6 ?ob6
  case st6 => simp [Spec.ok]
  case ob6 =>
    intro env6 V6 hG
    obtain ⟨hc, hf⟩ := bcell hG
    have HV := Lib.hid hG
    have HG9 := Lib.hid (HG1.out.later hG)
    iterate 1 (refine obls_is ?_ ?_; unfold doesAt; go_simp; (try go_bits); (first | (refine ⟨brefl _, ?_⟩; rfl) | rfl); intro K hK; go_simp; refine hK _ ?_; clear hK K)
    refine obls_is ?_ ?_
    · unfold doesAt
      go_simp
      refine (Hl1.out _ HV.out).mono ?_
      rintro e w1 ⟨rfl, hb1⟩
      (refine ⟨?_, hb1⟩; rfl)
    intro K hK
    go_simp
    refine hK _ ?_
    clear hK K
    iterate 1 (refine obls_is ?_ ?_; unfold doesAt; go_simp; (try go_bits); (first | (refine ⟨brefl _, ?_⟩; rfl) | rfl); intro K hK; go_simp; refine hK _ ?_; clear hK K)
    refine obls_is ?_ ?_
    · unfold doesAt
      go_simp
      refine (Hl2.out _ HV.out).mono ?_
      rintro e w1 ⟨rfl, hb1⟩
      (refine ⟨?_, hb1⟩; rfl)
    intro K hK
    go_simp
    refine hK _ ?_
    clear hK K
    repeat (refine obls_is ?_ ?_; unfold doesAt; go_simp; (try go_bits); (first | (refine ⟨brefl _, ?_⟩; rfl) | rfl); intro K hK; go_simp; refine hK _ ?_; clear hK K)
    refine obls_nil (fun _ => ?_)
    clear hc hf hG g0 g1 g2 g3 x0 x1 x2 x3
    go_wp2
    go_ret3
    exact ⟨ret_three (by rw [HR.out]) (by rw [HR.out]) (by rw [HR.out]), HG9.out.bel⟩
end Go.Proofs.Ytmfiggbobaihcaa
