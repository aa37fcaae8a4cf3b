/- The document's CheckProof. -/
import Derived.Test.YtmfiggbobaihcaaGRefD
namespace Go.Proofs.Ytmfiggbobaihcaa
open Go.RowKit Go.Shelf

/-- The least of what grades ask, but for the last one. -/
def lowE (q : Nat → Int) : Nat → Int
  | 0 => q 0
  | g + 1 => lowQ q g
theorem lowE_step (q : Nat → Int) : ∀ g, lowE q (g + 1) = min (lowE q g) (q g)
  | 0 => by show q 0 = min (q 0) (q 0); omega
  | g + 1 => rfl
theorem lowE_bound {q : Nat → Int} {b : Int} (h : ∀ k, 0 ≤ q k ∧ q k ≤ b) : ∀ g, 0 ≤ lowE q g ∧ lowE q g ≤ b
  | 0 => h 0
  | g + 1 => lowQ_bound h g
theorem min_if2 (q r : Int) : (if r < q then r else q) = min q r := by
  split <;> omega
set_option maxRecDepth 100000 in
set_option maxHeartbeats 8000000 in
theorem refProof_any (SA : Option Addr) (sn sc : Nat) (PA : Option Addr) (pn pc : Nat) (OA : Option Addr) (on oc : Nat) (S P : List Int) (O : List Od) (LA : Option Addr) (ln lc : Nat) (L : List Int) (w : World) (hs : ShopIn w w.heap.size SA sn sc PA pn pc OA on oc S P O) (hl : Sl 1 encI w w.heap.size LA ln lc L) : Calls Try.prog 34 #[.agg #[.slice SA sn sc, .slice PA pn pc, .slice OA on oc], .slice LA ln lc] w fun e w' => e = .returned (.tuple #[.int .i64 (proofR S P O L).1, .int .i64 (proofR S P O L).2]) ∧ Below w.heap.size w w' := by
  obtain rfl := hs.stk.len
  obtain rfl := hs.prc.len
  obtain rfl := hs.ord.len
  have HG0 := Lib.hid (GW.start hs)
  obtain ⟨g0, g1, g2, g3⟩ := HG0.out.cells
  obtain rfl := hl.len
  have Hl := Lib.hid hl
  unfold proofR
  have Ho := Lib.hid (fun W (h : ShopIn W W.heap.size SA S.length sc PA P.length pc OA O.length oc S P O) => refShop_any SA S.length sc PA P.length pc OA O.length oc S P O W h)
  by_cases he : shopE S P O = 0
  case neg =>
    rw [if_pos he]
    obtain ⟨q, hq⟩ : ∃ q, shopE S P O = q := ⟨_, rfl⟩
    rw [hq] at Ho he ⊢
    have d1 : (q != 0) = true := by simpa using he
    clear hs hq he
    go_enter Try.func34, Try.ntmps34
    go_wp2_with fail
    refine (Ho.out _ HG0.out.sh).mono ?_
    rintro e w1 ⟨rfl, hb⟩
    have HG1 := Lib.hid (HG0.out.later hb)
    clear hb HG0 g0 g1 g2 g3
    obtain ⟨g0, g1, g2, g3⟩ := HG1.out.cells
    go_wp2_with fail
    refine (Ho.out _ HG1.out.sh).mono ?_
    rintro e w2 ⟨rfl, hb⟩
    have HG2 := Lib.hid (HG1.out.later hb)
    clear hb HG1 g0 g1 g2 g3
    obtain ⟨g0, g1, g2, g3⟩ := HG2.out.cells
    go_wp2
    go_ret2
    exact ⟨rfl, HG2.out.bel⟩
  rw [if_neg (fun h => h he)]
  have hF := fine_of he
  rw [he] at Ho
  by_cases hn : L.length = S.length
  case neg =>
    rw [if_pos hn]
    have dn : ((L.length : Int) != (S.length : Int)) = true := by simp; omega
    have dn2 : ¬ L.length = S.length := hn
    clear hs he hF hn hl
    go_enter Try.func34, Try.ntmps34
    go_wp2_with fail
    refine (Ho.out _ HG0.out.sh).mono ?_
    rintro e w3 ⟨rfl, hb⟩
    have HG1 := Lib.hid (HG0.out.later hb)
    clear hb HG0 g0 g1 g2 g3
    obtain ⟨g0, g1, g2, g3⟩ := HG1.out.cells
    go_wp2
    go_ret2
    exact ⟨rfl, HG1.out.bel⟩
  rw [if_neg (fun h => h hn)]
  have dn : ((L.length : Int) != (S.length : Int)) = false := by simp; omega
  have Hn := Lib.hid hn
  have n5 : L.length ≤ 5 := by have := hF.n5; omega
  have HF := Lib.hid hF
  obtain ⟨res, hres⟩ : ∃ res : Int × Int, (if L.any (outR 0 100) = true then (0, 3) else (proofV S P O L, 0)) = res := ⟨_, rfl⟩
  rw [hres]
  have Hres := Lib.hid hres
  clear hs he hF hn hl hres
  go_enter Try.func34, Try.ntmps34
  go_wp2_with fail
  refine (Ho.out _ HG0.out.sh).mono ?_
  rintro e w4 ⟨rfl, hb⟩
  have HG1 := Lib.hid (HG0.out.later hb)
  clear hb HG0 g0 g1 g2 g3
  obtain ⟨g0, g1, g2, g3⟩ := HG1.out.cells
  go_wp2_with fail
  refine loop_n (fun m b W => b.defers = [] ∧ ∃ i : Nat, i + m = L.length ∧ Hid (GW w W w.heap.size SA S.length sc PA P.length pc OA O.length oc S P O) ∧ Hid (∀ (j : Nat) x, j < i → L[j]? = some x → outR 0 100 x = false) ∧ Fits (none :: some (.slice LA L.length lc) :: some (.pointer (some ⟨w.heap.size, 0, none⟩)) :: none :: none :: none :: some (.int .i64 (0 - stT S L i)) :: some (.int .i64 (i : Nat)) :: none :: none :: none :: none :: none :: none :: none :: none :: none :: none :: none :: none :: none :: none :: none :: none :: none :: none :: none :: none :: none :: none :: none :: none :: none :: none :: none :: none :: none :: none :: none :: none :: none :: none :: none :: none :: none :: none :: none :: none :: none :: none :: none :: none :: none :: none :: none :: none :: none :: none :: none :: none :: none :: none :: none :: none :: none :: none :: none :: none :: none :: none :: none :: none :: none :: none :: none :: none :: none :: none :: none :: none :: none :: none :: none :: none :: none :: none :: none :: none :: none :: none :: none :: none :: none :: none :: none :: none :: none :: none :: none :: none :: []) b.tmps.toList) L.length ?_ ?_
  · refine ⟨rfl, 0, by omega, HG1, Lib.hid (fun j x h => by omega), ?_⟩
    repeat (first | exact fits_nil | refine fits_none ?_ | refine fits_some ?_)
  clear HG1 g0 g1 g2 g3
  intro m b W hI K hK
  obtain ⟨hds, i, him, HG0, HN, hfit⟩ := hI
  obtain ⟨f, hf⟩ := fits_act hfit
  rw [hds] at hf
  subst hf
  clear hfit hds
  simp only [fillP, Nat.reduceAdd]
  obtain ⟨g0, g1, g2, g3⟩ := HG0.out.cells
  by_cases hlt : i < L.length
  · obtain ⟨rb, ro, x, rfl, hrb, hx, p0⟩ := (Hl.out.later HG0.out.bel).ltI (i := i) hlt
    obtain ⟨qb, qo, y, rfl, hqb, hy, q0⟩ := HG0.out.sh.stk.ltI (i := i) (by have := Hn.out; omega)
    have hy50 := HF.out.stk y (List.mem_of_getElem? hy)
    have i1 : (i : Int) < (L.length : Int) := by omega
    have i2 : (0 : Int) ≤ (i : Int) := by omega
    have i3 : IntKind.i64.wrap ((i : Int) + 1) = (i : Int) + 1 := by rw [IntKind.wrap_i64]; omega
    have i4 : (i : Int) < (S.length : Int) := by have := Hn.out; omega
    have Him := Lib.hid (show i + m = L.length ∧ i < L.length from ⟨him, hlt⟩)
    have Hbad := Lib.hid (show outR 0 100 x = true → res = (0, 3) from fun h => by rw [← Hres.out, if_pos (List.any_eq_true.2 ⟨x, List.mem_of_getElem? hx, h⟩)])
    have Hsucc := Lib.hid (fun h => no_succ HN.out hx h)
    have hst : stT S L (i + 1) = stT S L i + x * y := by show sumF _ (i + 1) = _; rw [sumF, sl_getD hx, sl_getD hy]; rfl
    have Hst := Lib.hid hst
    have hsb : (∀ z ∈ L.take i, 0 ≤ z ∧ z ≤ 100) := fun z hz => by
      obtain ⟨j, hj⟩ := List.getElem?_of_mem hz
      rw [List.getElem?_take] at hj
      split at hj
      · exact out_in (HN.out j z (by assumption) hj)
      · cases hj
    have hsb2 : 0 ≤ stT S L i ∧ stT S L i ≤ 5000 * i := sumF_bound i fun j hj => by
      have e1 : 0 ≤ L.getD j 0 ∧ L.getD j 0 ≤ 100 := by
        have h1 := List.getElem?_eq_getElem (show j < L.length by omega)
        rw [sl_getD h1]
        exact out_in (HN.out j _ hj h1)
      have e2 : 0 ≤ S.getD j 0 ∧ S.getD j 0 ≤ 50 := getD_in HF.out.stk (by omega) j
      have := mul_bound e1 e2
      omega
    clear him hlt hx hy hst hsb
    cases h1 : decide (x < 0) with
    | true =>
      have HR := Lib.hid (Hbad.out (out_bad (.inl (of_decide_eq_true h1))))
      clear hK hy50 hsb2
      go_wp2
      go_ret2
      exact ⟨ret_two (by rw [HR.out]) (by rw [HR.out]), HG0.out.bel⟩
    | false =>
    cases h2 : decide (100 < x) with
    | true =>
      have HR := Lib.hid (Hbad.out (out_bad (.inr (of_decide_eq_true h2))))
      clear hK hy50 hsb2
      go_wp2
      go_ret2
      exact ⟨ret_two (by rw [HR.out]) (by rw [HR.out]), HG0.out.bel⟩
    | false =>
    have HN2 := Lib.hid (Hsucc.out (out_fine h1 h2))
    have hm := mul_bound (show 0 ≤ x ∧ x ≤ 100 by have := of_decide_eq_false h1; have := of_decide_eq_false h2; omega) hy50
    have i5 : IntKind.i64.wrap (x * y) = x * y := by rw [IntKind.wrap_i64]; omega
    have i6 : IntKind.i64.wrap (0 - stT S L i - x * y) = 0 - stT S L i - x * y := by rw [IntKind.wrap_i64]; omega
    have Hst2 := Lib.hid (show 0 - stT S L (i + 1) = 0 - stT S L i - x * y by rw [Hst.out]; omega)
    generalize 0 - stT S L i = t at *
    clear hm hy50 hsb2
    go_wp2_with fail
    refine dag 13 (by kernel_rfl) (by kernel_rfl) (.is ?_ :: .is ?_ :: .is ?_ :: .is ?_ :: .is ?_ :: .is ?_ :: .is ?_ :: .is ?_ :: .is ?_ :: .is ?_ :: .is ?_ :: .is ?_ :: .is ?_ :: []) rfl ?st1 ?ob1
    case st1 => simp [Spec.ok]
    case ob1 =>
      intro env V hG
      obtain ⟨hc, hf⟩ := bcell hG
      repeat (refine obls_is ?_ ?_; unfold doesAt; go_simp; (try go_bits); (first | (refine ⟨brefl _, ?_⟩; rfl) | rfl); intro K hK; go_simp; refine hK _ ?_; clear hK K)
      refine obls_nil (fun _ => ?_)
      have HG2 := Lib.hid (HG0.out.later hG)
      clear hc hf hG g0 g1 g2 g3 p0 q0
      go_wp2
      refine hK _ _ (m - 1) (by have := Him.out; omega) ⟨rfl, i + 1, by have := Him.out; omega, HG2, HN2, ?_⟩
      rw [Hst2.out]
      repeat (first | exact fits_nil | refine fits_none ?_ | refine fits_some ?_)
  have i1 : ¬ (i : Int) < (L.length : Int) := by omega
  obtain rfl : i = L.length := by omega
  have hLa : L.any (outR 0 100) = false := any_no (fun j x h hx => HN.out j x h hx)
  have hL : ∀ x ∈ L, 0 ≤ x ∧ x ≤ 100 := fun x hx => out_in (by simpa using List.any_eq_false.1 hLa x hx)
  have HR := Lib.hid (show res = (proofV S P O L, 0) by rw [← Hres.out, if_neg (by rw [hLa]; decide)])
  have HLb := Lib.hid hL
  obtain ⟨s0, hs0⟩ : ∃ s0, stT S L L.length = s0 := ⟨_, rfl⟩
  have hsb := stT_bound HF.out hL (i := L.length) n5
  rw [hs0] at hsb ⊢
  have Hs0 := Lib.hid hs0
  have Hsb := Lib.hid hsb
  obtain ⟨t0, ht0⟩ : ∃ t0, 0 - s0 = t0 := ⟨_, rfl⟩
  rw [ht0]
  have Ht0 := Lib.hid ht0
  clear hK him hlt HN hLa hL Hres hs0 hsb ht0
  go_wp2_with fail
  clear i1
  refine loop_n (fun m b W => b.defers = [] ∧ ∃ i : Nat, i + m = O.length ∧ Hid (GW w W w.heap.size SA S.length sc PA P.length pc OA O.length oc S P O) ∧ Fits (none :: some (.slice LA L.length lc) :: some (.pointer (some ⟨w.heap.size, 0, none⟩)) :: none :: none :: none :: some (.int .i64 (prT O (quM P L) i + t0)) :: none :: some (.int .i64 (i : Nat)) :: none :: none :: none :: none :: none :: none :: none :: none :: none :: none :: none :: none :: none :: none :: none :: none :: none :: none :: none :: none :: none :: none :: none :: none :: none :: none :: none :: none :: none :: none :: none :: none :: none :: none :: none :: none :: none :: none :: none :: none :: none :: none :: none :: none :: none :: none :: none :: none :: none :: none :: none :: none :: none :: none :: none :: none :: none :: none :: none :: none :: none :: none :: none :: none :: none :: none :: none :: none :: none :: none :: none :: none :: none :: none :: none :: none :: none :: none :: none :: none :: none :: none :: none :: none :: none :: none :: none :: none :: none :: none :: none :: []) b.tmps.toList) O.length ?_ ?_
  · refine ⟨rfl, 0, by omega, HG0, ?_⟩
    rw [show prT O (quM P L) 0 = 0 from rfl, Int.zero_add]
    repeat (first | exact fits_nil | refine fits_none ?_ | refine fits_some ?_)
  clear HG0 g0 g1 g2 g3
  intro m b W hI K hK
  obtain ⟨hds, i, him, HG0, hfit⟩ := hI
  obtain ⟨f, hf⟩ := fits_act hfit
  rw [hds] at hf
  subst hf
  clear hfit hds
  simp only [fillP, Nat.reduceAdd]
  obtain ⟨g0, g1, g2, g3⟩ := HG0.out.cells
  by_cases hlt : i < O.length
  · obtain ⟨lb, lo, x, hLA, hlb, hx, p0⟩ := (Hl.out.later HG0.out.bel).ltI (i := 0) (by have := HF.out.n1; have := Hn.out; omega)
    obtain ⟨qb, qo, y, hPA, hqbb, hy, q0⟩ := HG0.out.sh.prc.ltI (i := 0) (by have := HF.out.n1; have := HF.out.len; omega)
    subst hLA hPA
    rw [Nat.add_zero] at p0 q0
    have hq0 : quM P L 0 = y + x := by unfold quM; rw [sl_getD hx, sl_getD hy]
    have hqb := quM_bound HF.out HLb.out
    have hq1 := hqb 0
    rw [hq0] at hq1
    have i1 : (i : Int) < (O.length : Int) := by omega
    have i2 : (0 : Int) ≤ (i : Int) := by omega
    have i3 : IntKind.i64.wrap ((i : Int) + 1) = (i : Int) + 1 := by have := HF.out.o8; rw [IntKind.wrap_i64]; omega
    have i4 : IntKind.i64.wrap (y + x) = y + x := by rw [IntKind.wrap_i64]; omega
    have i5 : (0 : Int) < (L.length : Int) := by have := HF.out.n1; have := Hn.out; omega
    have i6 : (0 : Int) < (P.length : Int) := by have := HF.out.n1; have := HF.out.len; omega
    have i7 : 0 < L.length := by omega
    have i8 : 0 < P.length := by omega
    have i9 : L ≠ [] := List.ne_nil_of_length_pos i7
    have i10 : P ≠ [] := List.ne_nil_of_length_pos i8
    have Him := Lib.hid (show i + m = O.length ∧ i < O.length from ⟨him, hlt⟩)
    have Hq0 := Lib.hid (show lowE (quM P L) 0 = y + x from hq0)
    have Hqb := Lib.hid hqb
    clear him hlt hx hy hq0 hq1 hqb
    go_wp2_with fail
    refine dag 9 (by kernel_rfl) (by kernel_rfl) (.is ?_ :: .is ?_ :: .is ?_ :: .is ?_ :: .is ?_ :: .is ?_ :: .is ?_ :: .is ?_ :: .is ?_ :: []) rfl ?st2 ?ob2
    case st2 => simp [Spec.ok]
    case ob2 =>
      intro env V hG
      obtain ⟨hc, hf⟩ := bcell hG
      repeat (refine obls_is ?_ ?_; unfold doesAt; go_simp; (try go_bits); (first | (refine ⟨brefl _, ?_⟩; rfl) | rfl); intro K hK; go_simp; refine hK _ ?_; clear hK K)
      refine obls_nil (fun hnil => ?_)
      clear hnil
      have HG1 := Lib.hid (HG0.out.later hG)
      clear hc hf hG g0 g1 g2 g3 p0 q0 HG0 hlb hqbb
      clear W
      obtain ⟨g0, g1, g2, g3⟩ := HG1.out.cells
      obtain ⟨ob, oo, u, rfl, hob, hu, -, -⟩ := HG1.out.sh.ord.ltO (i := i) Him.out.2
      have hu1 := HF.out.ord u (List.mem_of_getElem? hu)
      obtain ⟨gr, hgr⟩ : ∃ gr : Nat, u.g = (gr : Int) := ⟨u.g.toNat, by omega⟩
      have Hgr := Lib.hid (show gr < S.length ∧ grO O i = gr ∧ mAt O i = u.m ∧ 0 ≤ u.m ∧ u.m ≤ 20 ∧ u.g = (gr : Int) from ⟨by omega, by unfold grO; rw [gAt_eq hu, hgr]; omega, mAt_eq hu, hu1.2.1, hu1.2.2, hgr⟩)
      have Hu := Lib.hid hu
      clear hu1 hgr hu hob
      go_wp2_with fail
      refine loop_n (fun q b W => b.defers = [] ∧ ∃ j : Nat, j + q = gr + 1 ∧ Hid (GW w W w.heap.size SA S.length sc (some ⟨qb, qo, none⟩) P.length pc (some ⟨ob, oo, none⟩) O.length oc S P O) ∧ Fits (none :: some (.slice (some ⟨lb, lo, none⟩) L.length lc) :: some (.pointer (some ⟨w.heap.size, 0, none⟩)) :: none :: none :: none :: some (.int .i64 (prT O (quM P L) i + t0)) :: none :: some (.int .i64 (i : Nat)) :: some (.int .i64 (lowE (quM P L) j)) :: some (.int .i64 (j : Nat)) :: none :: none :: none :: none :: none :: none :: none :: none :: none :: none :: none :: none :: none :: none :: none :: none :: none :: none :: none :: none :: none :: none :: none :: none :: none :: none :: none :: none :: none :: none :: none :: none :: none :: none :: none :: none :: none :: none :: none :: none :: none :: none :: none :: none :: none :: none :: none :: none :: none :: none :: none :: none :: none :: none :: none :: none :: none :: none :: none :: none :: none :: none :: none :: none :: none :: none :: none :: none :: none :: none :: none :: none :: none :: none :: none :: none :: none :: none :: none :: none :: none :: none :: none :: none :: none :: none :: none :: none :: none :: []) b.tmps.toList) (gr + 1) ?_ ?_
      · refine ⟨rfl, 0, by omega, HG1, ?_⟩
        rw [Hq0.out]
        repeat (first | exact fits_nil | refine fits_none ?_ | refine fits_some ?_)
      clear HG1 g0 g1 g2 g3
      clear V
      intro q b W hI K2 hK2
      obtain ⟨hds, j, hjq, HG1, hfit⟩ := hI
      obtain ⟨f2, hf2⟩ := fits_act hfit
      rw [hds] at hf2
      subst hf2
      clear hfit hds
      simp only [fillP, Nat.reduceAdd]
      obtain ⟨g0, g1, g2, g3⟩ := HG1.out.cells
      obtain ⟨ob2, oo2, u2, hA2, hob2, hu2, p0, p1⟩ := HG1.out.sh.ord.ltO (i := i) Him.out.2
      simp only [Option.some.injEq, Addr.mk.injEq, and_true] at hA2
      obtain ⟨rfl, rfl⟩ := hA2
      rw [Hu.out] at hu2
      cases hu2
      rw [Hgr.out.2.2.2.2.2] at p0
      by_cases hlt : j < gr + 1
      · obtain ⟨rb, ro, x2, hA3, hrb, hx, r0⟩ := (Hl.out.later HG1.out.bel).ltI (i := j) (by have := Hgr.out; have := Hn.out; omega)
        simp only [Option.some.injEq, Addr.mk.injEq, and_true] at hA3
        obtain ⟨rfl, rfl⟩ := hA3
        obtain ⟨qb2, qo2, y2, hA4, hqb2, hy, q0⟩ := HG1.out.sh.prc.ltI (i := j) (by have := Hgr.out; have := HF.out.len; omega)
        simp only [Option.some.injEq, Addr.mk.injEq, and_true] at hA4
        obtain ⟨rfl, rfl⟩ := hA4
        have hqj : quM P L j = y2 + x2 := by unfold quM; rw [sl_getD hx, sl_getD hy]
        have hq1 := Hqb.out j
        rw [hqj] at hq1
        have hstep := lowE_step (quM P L) j
        rw [hqj] at hstep
        have hgr := Hgr.out
        have hnn := Hn.out
        have hpl := HF.out.len
        have j1 : (j : Int) ≤ (gr : Int) := by omega
        have j2 : (0 : Int) ≤ (j : Int) := by omega
        have j3 : IntKind.i64.wrap ((j : Int) + 1) = (j : Int) + 1 := by rw [IntKind.wrap_i64]; omega
        have j4 : (j : Int) < (P.length : Int) := by omega
        have j5 : (j : Int) < (L.length : Int) := by omega
        have j6 : IntKind.i64.wrap (y2 + x2) = y2 + x2 := by rw [IntKind.wrap_i64]; omega
        have hmn := min_if2 (lowE (quM P L) j) (y2 + x2)
        rw [← hstep] at hmn
        have Hjq := Lib.hid (show j + q = gr + 1 ∧ j < gr + 1 from ⟨hjq, hlt⟩)
        generalize hle2 : lowE (quM P L) (j + 1) = le2 at *
        have Hle2 := Lib.hid hle2
        clear hle2
        generalize lowE (quM P L) j = le1 at *
        generalize prT O (quM P L) i + t0 = nn at *
        have hmn2 : (if le1 < y2 + x2 then le1 else y2 + x2) = le2 := by rw [← hmn]; split <;> split <;> omega
        clear hjq hlt hqj hq1 hstep hx hy hgr hnn hpl
        go_wp2_with fail
        refine dag 13 (by kernel_rfl) (by kernel_rfl) (.is ?_ :: .is ?_ :: .is ?_ :: .is ?_ :: .is ?_ :: .is ?_ :: .is ?_ :: .is ?_ :: .is ?_ :: .is ?_ :: .is ?_ :: .is ?_ :: .is ?_ :: []) rfl ?st3 ?ob3
        case st3 => simp [Spec.ok]
        case ob3 =>
          intro env3 V3 hG
          obtain ⟨hc, hf⟩ := bcell hG
          repeat (refine obls_is ?_ ?_; unfold doesAt; go_simp; (try go_bits); (first | (refine ⟨brefl _, ?_⟩; rfl) | rfl); intro K hK; go_simp; refine hK _ ?_; clear hK K)
          refine obls_nil (fun _ => ?_)
          have HG2 := Lib.hid (HG1.out.later hG)
          clear hc hf hG g0 g1 g2 g3 p0 p1 q0 r0 hmn hmn2
          go_wp2
          refine hK2 _ _ (q - 1) (by have := Hjq.out; omega) ⟨rfl, j + 1, by have := Hjq.out; omega, HG2, ?_⟩
          rw [Hle2.out]
          repeat (first | exact fits_nil | refine fits_none ?_ | refine fits_some ?_)
      · obtain rfl : j = gr + 1 := by omega
        have j1 : ¬ ((gr + 1 : Nat) : Int) ≤ (gr : Int) := by omega
        have hlow : lowE (quM P L) (gr + 1) = lowQ (quM P L) (grO O i) := by rw [Hgr.out.2.1]; rfl
        have hps : prT O (quM P L) (i + 1) = prT O (quM P L) i + lowQ (quM P L) (grO O i) * u.m := by
          show sumF _ (i + 1) = _
          rw [sumF, Hgr.out.2.2.1, Int.mul_comm u.m]; rfl
        rw [← hlow] at hps
        have hb1 := prT_bound HF.out HLb.out (i := i) (by have := Him.out; omega)
        have hb2 := lowE_bound (fun k => Hqb.out k) (gr + 1)
        have hb3 := mul_bound hb2 ⟨Hgr.out.2.2.2.1, Hgr.out.2.2.2.2.1⟩
        have hsb := Hsb.out
        have ht0 := Ht0.out
        generalize lowE (quM P L) (gr + 1) = le at *
        have j2 : IntKind.i64.wrap (le * u.m) = le * u.m := by rw [IntKind.wrap_i64]; omega
        have j3 : IntKind.i64.wrap (prT O (quM P L) i + t0 + le * u.m) = prT O (quM P L) i + t0 + le * u.m := by rw [IntKind.wrap_i64]; omega
        have Hps := Lib.hid (show prT O (quM P L) (i + 1) + t0 = prT O (quM P L) i + t0 + le * u.m by rw [hps]; omega)
        generalize prT O (quM P L) i + t0 = nn at *
        clear hjq hlt hlow hps hb1 hb2 hb3 hsb ht0 hK2
        go_wp2
        refine hK _ _ (m - 1) (by have := Him.out; omega) ⟨rfl, i + 1, by have := Him.out; omega, HG1, ?_⟩
        rw [Hps.out]
        repeat (first | exact fits_nil | refine fits_none ?_ | refine fits_some ?_)
  · obtain rfl : i = O.length := by omega
    have i1 : ¬ (O.length : Int) < (O.length : Int) := by omega
    have HR2 := Lib.hid (show (res.1 = prT O (quM P L) O.length + t0) ∧ res.2 = 0 from by
      rw [HR.out]
      refine ⟨?_, rfl⟩
      show proofV S P O L = _
      unfold proofV
      rw [Hs0.out, ← Ht0.out]
      omega)
    generalize prT O (quM P L) O.length + t0 = nn at *
    clear him hlt hK
    go_wp2
    go_ret2
    exact ⟨ret_two HR2.out.1.symm HR2.out.2.symm, HG0.out.bel⟩
end Go.Proofs.Ytmfiggbobaihcaa
