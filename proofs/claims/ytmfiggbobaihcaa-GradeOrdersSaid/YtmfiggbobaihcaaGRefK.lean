/- The document's CheckFill. -/
import Derived.Test.YtmfiggbobaihcaaGRefI
namespace Go.Proofs.Ytmfiggbobaihcaa
open Go.RowKit Go.Shelf

theorem poorT_no {n : Nat} {O : List Od} {X : List (List Int)} {m : Nat} (h : ∀ i, i < m → poorR O X i n = false) : poorT n O X m = false := by
  rw [Bool.eq_false_iff]
  intro hp
  obtain ⟨i, hi, h1⟩ := (poorT_iff m).1 hp
  rw [h i hi] at h1
  cases h1
theorem givL_at {n g : Nat} {X : List (List Int)} (hg : g < n) : (givL n X)[g]? = some (gotX X g) := by
  unfold givL
  rw [List.getElem?_map, List.getElem?_range hg]
  rfl
theorem costX_giv {n : Nat} {P : List Int} {X : List (List Int)} : costX P (givL n X) = costL P (gotX X) n := by
  have h1 : (givL n X).length = n := by simp [givL]
  unfold costX
  rw [h1]
  have : ∀ m, m ≤ n → costL P (stockM (givL n X)) m = costL P (gotX X) m := by
    intro m
    induction m with
    | zero => intro _; rfl
    | succ m ih =>
      intro hm
      rw [costL, costL, ih (by omega), stockM_at (givL_at (by omega))]
  exact this n (Nat.le_refl n)
set_option maxRecDepth 100000 in
set_option maxHeartbeats 8000000 in
theorem refFill_any (SA : Option Addr) (sn sc : Nat) (PA : Option Addr) (pn pc : Nat) (OA : Option Addr) (on oc : Nat) (S P : List Int) (O : List Od) (FA : Option Addr) (fn fc : Nat) (L : List Rw) (w : World) (hs : ShopIn w w.heap.size SA sn sc PA pn pc OA on oc S P O) (hl : FillIn w FA fn fc L) (h100 : fn ≤ 1000) : Calls Try.prog 20 #[.agg #[.slice SA sn sc, .slice PA pn pc, .slice OA on oc], .slice FA fn fc] w fun e w' => e = .returned (.tuple #[.int .i64 (fillR S P O (rowsX L)).1, .int .i64 (fillR S P O (rowsX L)).2]) ∧ Below w.heap.size w w' := by
  have Hs := Lib.hid hs
  obtain rfl := hs.stk.len
  obtain rfl := hs.prc.len
  obtain rfl := hs.ord.len
  have HG0 := Lib.hid (GW.start hs)
  obtain ⟨g0, g1, g2, g3⟩ := HG0.out.cells
  obtain rfl := hl.sl.len
  have Hl := Lib.hid hl
  have HL0 := Lib.hid (hl.later (balloc (brefl w) (.cells #[.slice SA S.length sc, .slice PA P.length pc, .slice OA O.length oc] 25)))
  have Ho := Lib.hid (fun W (h : ShopIn W W.heap.size SA S.length sc PA P.length pc OA O.length oc S P O) (hl : FillIn W FA L.length fc L) => refSized_any SA S.length sc PA P.length pc OA O.length oc S P O FA L.length fc L W h hl h100)
  obtain ⟨res, hres⟩ : ∃ res : Int × Int, fillR S P O (rowsX L) = res := ⟨_, rfl⟩
  rw [hres]
  have Hres := Lib.hid hres
  clear hres
  by_cases hz : sizeE S P O (rowsX L) = 0
  case neg =>
    have hR : res = (0, sizeE S P O (rowsX L)) := by
      have h2 : fillE S P O (rowsX L) = sizeE S P O (rowsX L) := by unfold fillE; rw [if_pos hz]
      rw [← Hres.out]; unfold fillR; rw [h2, if_pos hz]
    rw [hR]
    clear hR Hres hl Hl Hs
    obtain ⟨q, hq⟩ : ∃ q, sizeE S P O (rowsX L) = q := ⟨_, rfl⟩
    rw [hq] at Ho hz ⊢
    have d1 : (q != 0) = true := by simpa using hz
    clear hs hq hz
    go_enter Try.func20, Try.ntmps20
    go_wp2_with fail
    refine (Ho.out _ HG0.out.sh HL0.out).mono ?_
    rintro e w1 ⟨rfl, hb⟩
    have HG1 := Lib.hid (HG0.out.later hb)
    have HL1 := Lib.hid (HL0.out.later hb)
    clear hb HG0 HL0 g0 g1 g2 g3
    obtain ⟨g0, g1, g2, g3⟩ := HG1.out.cells
    go_wp2_with fail
    refine (Ho.out _ HG1.out.sh HL1.out).mono ?_
    rintro e w2 ⟨rfl, hb⟩
    have HG2 := Lib.hid (HG1.out.later hb)
    have HL2 := Lib.hid (HL1.out.later hb)
    clear hb HG1 HL1 g0 g1 g2 g3
    obtain ⟨g0, g1, g2, g3⟩ := HG2.out.cells
    go_wp2
    go_ret2
    exact ⟨rfl, HG2.out.bel⟩
  rw [hz] at Ho
  obtain ⟨he, hsz⟩ := sizeE_zero hz
  have hF := fine_of he
  have HF := Lib.hid hF
  have HSz := Lib.hid hsz
  have n5 := hF.n5
  have o8 := hF.o8
  have Hn := Lib.hid (show L.length = O.length by rw [← rows_length]; exact hsz.len)
  have hfe : fillE S P O (rowsX L) = if poorT S.length O (rowsX L) L.length then 25 else if sumT S.length O (rowsX L) L.length then 14 else if overT (stockM S) (gotX (rowsX L)) S.length then 4 else 0 := by
    unfold fillE
    rw [hz, if_neg (fun h => h rfl), rows_length]
  have Hfe := Lib.hid hfe
  have Hrn := Lib.hid (fun (k : Nat) r (hr : L[k]? = some r) => (show r.n = S.length from by
    have h1 := hsz.row _ (List.mem_of_getElem? (rows_at hr))
    rw [← rows_len Hl.out (List.mem_of_getElem? hr)]
    exact h1))
  clear hs he hF hl hz hsz hfe
  go_enter Try.func20, Try.ntmps20
  go_wp2_with fail
  refine (Ho.out _ HG0.out.sh HL0.out).mono ?_
  rintro e w3 ⟨rfl, hb⟩
  have HG1 := Lib.hid (HG0.out.later hb)
  have HL1 := Lib.hid (HL0.out.later hb)
  clear hb HG0 HL0 g0 g1 g2 g3
  obtain ⟨g0, g1, g2, g3⟩ := HG1.out.cells
  go_wp2_with fail
  clear HL1
  refine loop_n (fun m b W => b.defers = [] ∧ ∃ i : Nat, i + m = L.length ∧ Hid (GW w W w.heap.size SA S.length sc PA P.length pc OA O.length oc S P O) ∧ Hid (∀ k, k < i → poorR O (rowsX L) k S.length = false) ∧ Fits (none :: some (.slice FA L.length fc) :: some (.pointer (some ⟨w.heap.size, 0, none⟩)) :: none :: none :: none :: some (.int .i64 (i : Nat)) :: none :: none :: none :: none :: none :: none :: none :: none :: none :: none :: none :: none :: none :: none :: none :: none :: none :: none :: none :: none :: none :: none :: none :: none :: none :: none :: none :: none :: none :: none :: none :: none :: none :: none :: none :: none :: none :: none :: none :: none :: none :: none :: none :: none :: none :: none :: none :: none :: none :: none :: none :: none :: none :: none :: none :: none :: none :: none :: none :: none :: none :: none :: none :: none :: none :: none :: none :: none :: none :: none :: none :: none :: none :: none :: none :: none :: none :: none :: none :: none :: none :: none :: none :: none :: none :: none :: none :: none :: none :: none :: none :: none :: none :: none :: none :: none :: none :: []) b.tmps.toList) L.length ?_ ?_
  · refine ⟨rfl, 0, by omega, HG1, Lib.hid (fun k hk => by omega), ?_⟩
    repeat (first | exact fits_nil | refine fits_none ?_ | refine fits_some ?_)
  clear HG1 g0 g1 g2 g3
  intro m b W hI K hK
  obtain ⟨hds, i, him, HG0, HN, hfit⟩ := hI
  obtain ⟨f, hf⟩ := fits_act hfit
  rw [hds] at hf
  subst hf
  clear hfit hds
  simp only [fillP, Nat.reduceAdd]
  obtain ⟨g0, g1, g2, g3⟩ := HG0.out.cells
  by_cases hlt : i < L.length
  · obtain ⟨rb, ro, r, rfl, hrb, hr, p0⟩ := (Hl.out.later HG0.out.bel).sl.ltW (i := i) hlt
    obtain ⟨ob, oo, u, rfl, hob, hu, q0, q1⟩ := HG0.out.sh.ord.ltO (i := i) (by have := Hn.out; omega)
    have hu1 := HF.out.ord u (List.mem_of_getElem? hu)
    obtain ⟨gr, hgr⟩ : ∃ gr : Nat, u.g = (gr : Int) := ⟨u.g.toNat, by omega⟩
    rw [hgr] at q0
    have hrn := Hrn.out i r hr
    obtain ⟨rA, rn, rc, rxs⟩ := r
    simp only at hrn p0
    subst hrn
    have i1 : (i : Int) < (L.length : Int) := by omega
    have i2 : (0 : Int) ≤ (i : Int) := by omega
    have i3 : IntKind.i64.wrap ((i : Int) + 1) = (i : Int) + 1 := by rw [IntKind.wrap_i64]; omega
    have i4 : (i : Int) < (O.length : Int) := by have := Hn.out; omega
    have i5 : IntKind.i64.wrap ((gr : Int) + 1) = (gr : Int) + 1 := by rw [IntKind.wrap_i64]; omega
    have Him := Lib.hid (show i + m = L.length ∧ i < L.length from ⟨him, hlt⟩)
    have Hgr := Lib.hid (show gr < S.length ∧ gAt O i = (gr : Int) from ⟨by omega, by rw [gAt_eq hu, hgr]⟩)
    have Hr := Lib.hid (Hl.out.rows _ (List.mem_of_getElem? hr))
    have Hrx := Lib.hid (rows_at hr)
    clear hu1 hgr hu him hlt hr
    go_wp2_with fail
    refine loop_n (fun q b W' => b.defers = [] ∧ W' = W ∧ ∃ g : Nat, gr < g ∧ g + q = S.length ∧ Hid (∀ j, gr < j → j < g → fX (rowsX L) i j ≤ 0) ∧ Fits (none :: some (.slice (some ⟨rb, ro, none⟩) L.length fc) :: some (.pointer (some ⟨w.heap.size, 0, none⟩)) :: none :: none :: none :: some (.int .i64 (i : Nat)) :: some (.int .i64 (g : Nat)) :: none :: none :: none :: none :: none :: none :: none :: none :: none :: none :: none :: none :: none :: none :: none :: none :: none :: none :: none :: none :: none :: none :: none :: none :: none :: none :: none :: none :: none :: none :: none :: none :: none :: none :: none :: none :: none :: none :: none :: none :: none :: none :: none :: none :: none :: none :: none :: none :: none :: none :: none :: none :: none :: none :: none :: none :: none :: none :: none :: none :: none :: none :: none :: none :: none :: none :: none :: none :: none :: none :: none :: none :: none :: none :: none :: none :: none :: none :: none :: none :: none :: none :: none :: none :: none :: none :: none :: none :: none :: none :: none :: none :: none :: none :: none :: none :: []) b.tmps.toList) (S.length - (gr + 1)) ?_ ?_
    · refine ⟨rfl, rfl, gr + 1, by omega, by have := Hgr.out.1; omega, Lib.hid (fun j h1 h2 => by omega), ?_⟩
      repeat (first | exact fits_nil | refine fits_none ?_ | refine fits_some ?_)
    intro q b W' hI K2 hK2
    obtain ⟨hds, rfl, g, hgg, hgq, HN2, hfit⟩ := hI
    obtain ⟨f2, hf2⟩ := fits_act hfit
    rw [hds] at hf2
    subst hf2
    clear hfit hds
    simp only [fillP, Nat.reduceAdd]
    by_cases hlt : g < S.length
    · obtain ⟨xb, xo, x, rfl, hxb, hx, r0⟩ := (Hr.out.later HG0.out.bel).ltI (i := g) hlt
      have hfx := fX_at Hrx.out hx
      have j1 : (g : Int) < (S.length : Int) := by omega
      have j2 : (0 : Int) ≤ (g : Int) := by omega
      have j3 : IntKind.i64.wrap ((g : Int) + 1) = (g : Int) + 1 := by rw [IntKind.wrap_i64]; omega
      have Hgq := Lib.hid (show gr < g ∧ g + q = S.length ∧ g < S.length from ⟨hgg, hgq, hlt⟩)
      have Hfx := Lib.hid hfx
      clear hgg hgq hlt hx hfx
      cases d1 : decide (0 < x) with
      | true =>
        have HR := Lib.hid (show res = (0, 25) by
          have h1 : poorT S.length O (rowsX L) L.length = true := (poorT_iff _).2 ⟨i, Him.out.2, (poorR_iff i _).2 ⟨g, Hgq.out.2.2, by rw [Hfx.out]; exact of_decide_eq_true d1, by rw [Hgr.out.2]; have := Hgq.out.1; omega⟩⟩
          have h2 : fillE S P O (rowsX L) = 25 := by rw [Hfe.out, h1]; rfl
          rw [← Hres.out]; unfold fillR; rw [h2, if_pos (by decide)])
        clear hK hK2
        go_wp2
        go_ret2
        exact ⟨ret_two (by rw [HR.out]) (by rw [HR.out]), HG0.out.bel⟩
      | false =>
        have HN3 := Lib.hid (show ∀ j, gr < j → j < g + 1 → fX (rowsX L) i j ≤ 0 from fun j h1 h2 => by
          rcases Nat.lt_or_ge j g with h | h
          · exact HN2.out j h1 h
          · obtain rfl : j = g := by omega
            rw [Hfx.out]
            have := of_decide_eq_false d1
            omega)
        go_wp2
        refine hK2 _ _ (q - 1) (by have := Hgq.out; omega) ⟨rfl, rfl, g + 1, by have := Hgq.out; omega, by have := Hgq.out; omega, HN3, ?_⟩
        repeat (first | exact fits_nil | refine fits_none ?_ | refine fits_some ?_)
    · obtain rfl : g = S.length := by omega
      have j1 : ¬ (S.length : Int) < (S.length : Int) := by omega
      have HN3 := Lib.hid (show ∀ k, k < i + 1 → poorR O (rowsX L) k S.length = false from fun k hk => by
        rcases Nat.lt_or_ge k i with h | h
        · exact HN.out k h
        · obtain rfl : k = i := by omega
          rw [Bool.eq_false_iff]
          intro hp
          obtain ⟨j, h1, h2, h3⟩ := (poorR_iff k _).1 hp
          rw [Hgr.out.2] at h3
          have := HN2.out j (by omega) h1
          omega)
      clear hgq hlt hK2
      go_wp2
      refine hK _ _ (m - 1) (by have := Him.out; omega) ⟨rfl, i + 1, by have := Him.out; omega, HG0, HN3, ?_⟩
      repeat (first | exact fits_nil | refine fits_none ?_ | refine fits_some ?_)
  have i1 : ¬ (i : Int) < (L.length : Int) := by omega
  obtain rfl : i = L.length := by omega
  have Hpo := Lib.hid (poorT_no HN.out)
  clear hK him hlt HN
  go_wp2_with fail
  clear i1
  refine loop_n (fun m b W => b.defers = [] ∧ ∃ i : Nat, i + m = L.length ∧ Hid (GW w W w.heap.size SA S.length sc PA P.length pc OA O.length oc S P O) ∧ Hid (sumT S.length O (rowsX L) i = false) ∧ Fits (none :: some (.slice FA L.length fc) :: some (.pointer (some ⟨w.heap.size, 0, none⟩)) :: none :: none :: none :: none :: none :: some (.int .i64 (i : Nat)) :: none :: none :: none :: none :: none :: none :: none :: none :: none :: none :: none :: none :: none :: none :: none :: none :: none :: none :: none :: none :: none :: none :: none :: none :: none :: none :: none :: none :: none :: none :: none :: none :: none :: none :: none :: none :: none :: none :: none :: none :: none :: none :: none :: none :: none :: none :: none :: none :: none :: none :: none :: none :: none :: none :: none :: none :: none :: none :: none :: none :: none :: none :: none :: none :: none :: none :: none :: none :: none :: none :: none :: none :: none :: none :: none :: none :: none :: none :: none :: none :: none :: none :: none :: none :: none :: none :: none :: none :: none :: none :: none :: none :: none :: none :: none :: []) b.tmps.toList) L.length ?_ ?_
  · refine ⟨rfl, 0, by omega, HG0, Lib.hid rfl, ?_⟩
    repeat (first | exact fits_nil | refine fits_none ?_ | refine fits_some ?_)
  clear HG0 g0 g1 g2 g3
  intro m b W hI K hK
  obtain ⟨hds, i, him, HG0, HN, hfit⟩ := hI
  obtain ⟨f, hf⟩ := fits_act hfit
  rw [hds] at hf
  subst hf
  clear hfit hds
  simp only [fillP, Nat.reduceAdd]
  obtain ⟨g0, g1, g2, g3⟩ := HG0.out.cells
  by_cases hlt : i < L.length
  · obtain ⟨rb, ro, r, rfl, hrb, hr, p0⟩ := (Hl.out.later HG0.out.bel).sl.ltW (i := i) hlt
    obtain ⟨ob, oo, u, rfl, hob, hu, q0, q1⟩ := HG0.out.sh.ord.ltO (i := i) (by have := Hn.out; omega)
    have hrn := Hrn.out i r hr
    obtain ⟨rA, rn, rc, rxs⟩ := r
    simp only at hrn p0
    subst hrn
    have i1 : (i : Int) < (L.length : Int) := by omega
    have i2 : (0 : Int) ≤ (i : Int) := by omega
    have i3 : IntKind.i64.wrap ((i : Int) + 1) = (i : Int) + 1 := by rw [IntKind.wrap_i64]; omega
    have i4 : (i : Int) < (O.length : Int) := by have := Hn.out; omega
    have Him := Lib.hid (show i + m = L.length ∧ i < L.length from ⟨him, hlt⟩)
    have Hr := Lib.hid (Hl.out.rows _ (List.mem_of_getElem? hr))
    have Hrx := Lib.hid (rows_at hr)
    have Hm := Lib.hid (mAt_eq hu)
    clear hu him hlt hr
    go_wp2_with fail
    refine loop_n (fun q b W' => b.defers = [] ∧ W' = W ∧ ∃ g : Nat, g + q = S.length ∧ Fits (none :: some (.slice (some ⟨rb, ro, none⟩) L.length fc) :: some (.pointer (some ⟨w.heap.size, 0, none⟩)) :: none :: none :: none :: none :: none :: some (.int .i64 (i : Nat)) :: some (.int .i64 (sumN (fX (rowsX L) i) g)) :: some (.int .i64 (g : Nat)) :: none :: none :: none :: none :: none :: none :: none :: none :: none :: none :: none :: none :: none :: none :: none :: none :: none :: none :: none :: none :: none :: none :: none :: none :: none :: none :: none :: none :: none :: none :: none :: none :: none :: none :: none :: none :: none :: none :: none :: none :: none :: none :: none :: none :: none :: none :: none :: none :: none :: none :: none :: none :: none :: none :: none :: none :: none :: none :: none :: none :: none :: none :: none :: none :: none :: none :: none :: none :: none :: none :: none :: none :: none :: none :: none :: none :: none :: none :: none :: none :: none :: none :: none :: none :: none :: none :: none :: none :: none :: none :: none :: none :: none :: []) b.tmps.toList) S.length ?_ ?_
    · refine ⟨rfl, rfl, 0, by omega, ?_⟩
      repeat (first | exact fits_nil | refine fits_none ?_ | refine fits_some ?_)
    intro q b W' hI K2 hK2
    obtain ⟨hds, rfl, g, hgq, hfit⟩ := hI
    obtain ⟨f2, hf2⟩ := fits_act hfit
    rw [hds] at hf2
    subst hf2
    clear hfit hds
    simp only [fillP, Nat.reduceAdd]
    by_cases hlt : g < S.length
    · obtain ⟨xb, xo, x, rfl, hxb, hx, r0⟩ := (Hr.out.later HG0.out.bel).ltI (i := g) hlt
      have hfx := fX_at Hrx.out hx
      have hsb := sumN_bound (M := fX (rowsX L) i) (b := 20) g (fun j _ => fX_bound HSz.out.small i j)
      have hxb2 := HSz.out.small _ (List.mem_of_getElem? Hrx.out) x (List.mem_of_getElem? hx)
      have j1 : (g : Int) < (S.length : Int) := by omega
      have j2 : (0 : Int) ≤ (g : Int) := by omega
      have j3 : IntKind.i64.wrap ((g : Int) + 1) = (g : Int) + 1 := by rw [IntKind.wrap_i64]; omega
      have j4 : IntKind.i64.wrap (sumN (fX (rowsX L) i) g + x) = sumN (fX (rowsX L) i) g + x := by rw [IntKind.wrap_i64]; omega
      have Hst := Lib.hid (show sumN (fX (rowsX L) i) (g + 1) = sumN (fX (rowsX L) i) g + x by rw [sumN, hfx])
      have Hgq := Lib.hid (show g + q = S.length ∧ g < S.length from ⟨hgq, hlt⟩)
      generalize sumN (fX (rowsX L) i) g = sg at *
      clear hgq hlt hx hfx hsb hxb2
      go_wp2
      refine hK2 _ _ (q - 1) (by have := Hgq.out; omega) ⟨rfl, rfl, g + 1, by have := Hgq.out; omega, ?_⟩
      rw [Hst.out]
      repeat (first | exact fits_nil | refine fits_none ?_ | refine fits_some ?_)
    · obtain rfl : g = S.length := by omega
      have j1 : ¬ (S.length : Int) < (S.length : Int) := by omega
      have hsu : sumT S.length O (rowsX L) (i + 1) = decide (u.m - sumN (fX (rowsX L) i) S.length ≠ 0) := by rw [sumT, HN.out, Bool.false_or, Hm.out]
      generalize sumN (fX (rowsX L) i) S.length = sg at *
      obtain ⟨s1, hs1⟩ : ∃ s1, (sg != u.m) = s1 := ⟨_, rfl⟩
      have hs2 : decide (u.m - sg ≠ 0) = s1 := by rw [← hs1, Bool.eq_iff_iff]; simp; omega
      rw [hs2] at hsu
      have Hsu := Lib.hid hsu
      clear hgq hlt hsu hs2 hK2
      cases s1 with
      | true =>
        have HR := Lib.hid (show res = (0, 14) by
          have h1 : sumT S.length O (rowsX L) L.length = true := by
            obtain ⟨k, hk, h⟩ := (sumT_iff _).1 Hsu.out
            exact (sumT_iff _).2 ⟨k, by have := Him.out; omega, h⟩
          have h2 : fillE S P O (rowsX L) = 14 := by rw [Hfe.out, Hpo.out, h1]; rfl
          rw [← Hres.out]; unfold fillR; rw [h2, if_pos (by decide)])
        clear hK
        go_wp2
        go_ret2
        exact ⟨ret_two (by rw [HR.out]) (by rw [HR.out]), HG0.out.bel⟩
      | false =>
        go_wp2
        refine hK _ _ (m - 1) (by have := Him.out; omega) ⟨rfl, i + 1, by have := Him.out; omega, HG0, Hsu, ?_⟩
        repeat (first | exact fits_nil | refine fits_none ?_ | refine fits_some ?_)
  have i1 : ¬ (i : Int) < (L.length : Int) := by omega
  obtain rfl : i = L.length := by omega
  clear hK him hlt
  have HL0 := Lib.hid (Hl.out.later HG0.out.bel)
  go_wp2_with fail
  refine (refGiven_any _ _ _ _ _ _ _ _ _ S P O FA L.length fc L _ HG0.out.sh HL0.out n5 (by have := Hn.out; omega) HSz.out.row HSz.out.small).mono ?_
  rintro e w4 ⟨vb, rfl, hb, hsl⟩
  have HG1 := Lib.hid (HG0.out.later hb)
  have HL1 := Lib.hid (HL0.out.later hb)
  clear hb HG0 HL0 g0 g1 g2 g3
  obtain ⟨g0, g1, g2, g3⟩ := HG1.out.cells
  have HV1 := Lib.hid (ListIn.mk hsl)
  clear hsl
  go_wp2_with fail
  refine loop_n (fun m b W => b.defers = [] ∧ ∃ g : Nat, g + m = S.length ∧ Hid (GW w W w.heap.size SA S.length sc PA P.length pc OA O.length oc S P O) ∧ Hid (ListIn W (some ⟨vb, 0, none⟩) S.length S.length (givL S.length (rowsX L))) ∧ Hid (overT (stockM S) (gotX (rowsX L)) g = false) ∧ Fits (none :: some (.slice FA L.length fc) :: some (.pointer (some ⟨w.heap.size, 0, none⟩)) :: none :: none :: none :: none :: none :: none :: none :: none :: some (.slice (some ⟨vb, 0, none⟩) S.length S.length) :: some (.int .i64 (g : Nat)) :: none :: none :: none :: none :: none :: none :: none :: none :: none :: none :: none :: none :: none :: none :: none :: none :: none :: none :: none :: none :: none :: none :: none :: none :: none :: none :: none :: none :: none :: none :: none :: none :: none :: none :: none :: none :: none :: none :: none :: none :: none :: none :: none :: none :: none :: none :: none :: none :: none :: none :: none :: none :: none :: none :: none :: none :: none :: none :: none :: none :: none :: none :: none :: none :: none :: none :: none :: none :: none :: none :: none :: none :: none :: none :: none :: none :: none :: none :: none :: none :: none :: none :: none :: none :: none :: none :: none :: none :: none :: none :: none :: []) b.tmps.toList) S.length ?_ ?_
  · refine ⟨rfl, 0, by omega, HG1, HV1, Lib.hid rfl, ?_⟩
    repeat (first | exact fits_nil | refine fits_none ?_ | refine fits_some ?_)
  clear HG1 HV1 HL1 g0 g1 g2 g3
  intro m b W hI K hK
  obtain ⟨hds, g, hgm, HG0, HV, HN2, hfit⟩ := hI
  obtain ⟨f, hf⟩ := fits_act hfit
  rw [hds] at hf
  subst hf
  clear hfit hds
  simp only [fillP, Nat.reduceAdd]
  obtain ⟨g0, g1, g2, g3⟩ := HG0.out.cells
  by_cases hlt : g < S.length
  · obtain ⟨rb, ro, x, hA, hrb, hx, p0⟩ := HV.out.sl.ltI (i := g) hlt
    simp only [Option.some.injEq, Addr.mk.injEq, and_true] at hA
    obtain ⟨rfl, rfl⟩ := hA
    rw [Nat.zero_add] at p0
    obtain ⟨qb, qo, y, rfl, hqb, hy, q0⟩ := HG0.out.sh.stk.ltI (i := g) hlt
    have hxe : x = gotX (rowsX L) g := by rw [givL_at hlt] at hx; cases hx; rfl
    have hye : stockM S g = y := stockM_at hy
    have j1 : (g : Int) < (S.length : Int) := by omega
    have j2 : (0 : Int) ≤ (g : Int) := by omega
    have j3 : IntKind.i64.wrap ((g : Int) + 1) = (g : Int) + 1 := by rw [IntKind.wrap_i64]; omega
    have hov : overT (stockM S) (gotX (rowsX L)) (g + 1) = decide (y < x) := by rw [overT, HN2.out, Bool.false_or, hye, hxe]
    have Hov := Lib.hid hov
    have Hgm := Lib.hid (show g + m = S.length ∧ g < S.length from ⟨hgm, hlt⟩)
    clear hgm hlt hx hy hxe hye hov
    go_wp2_with fail
    refine dag 10 (by kernel_rfl) (by kernel_rfl) (.is ?_ :: .is ?_ :: .is ?_ :: .is ?_ :: .is ?_ :: .is ?_ :: .is ?_ :: .is ?_ :: .is ?_ :: .is ?_ :: []) rfl ?st1 ?ob1
    case st1 => simp [Spec.ok]
    case ob1 =>
      intro env V hG
      obtain ⟨hc, hf⟩ := bcell hG
      repeat (refine obls_is ?_ ?_; unfold doesAt; go_simp; (try go_bits); (first | (refine ⟨brefl _, ?_⟩; rfl) | rfl); intro K hK; go_simp; refine hK _ ?_; clear hK K)
      refine obls_nil (fun _ => ?_)
      have HG1 := Lib.hid (HG0.out.later hG)
      have HV1 := Lib.hid (HV.out.later hG)
      clear hc hf hG g0 g1 g2 g3 p0 q0
      cases d1 : decide (y < x) with
      | true =>
        have HR := Lib.hid (show res = (0, 4) by
          have h1 : overT (stockM S) (gotX (rowsX L)) S.length = true := by
            obtain ⟨k, hk, h⟩ := (overT_iff _ _ _).1 (Hov.out.trans d1)
            exact (overT_iff _ _ _).2 ⟨k, by have := Hgm.out; omega, h⟩
          have h2 : fillE S P O (rowsX L) = 4 := by rw [Hfe.out, Hpo.out, HN.out, h1]; rfl
          rw [← Hres.out]; unfold fillR; rw [h2, if_pos (by decide)])
        clear hK
        go_wp2
        go_ret2
        exact ⟨ret_two (by rw [HR.out]) (by rw [HR.out]), HG1.out.bel⟩
      | false =>
        have Hov2 := Lib.hid (Hov.out.trans d1)
        go_wp2
        refine hK _ _ (m - 1) (by have := Hgm.out; omega) ⟨rfl, g + 1, by have := Hgm.out; omega, HG1, HV1, Hov2, ?_⟩
        repeat (first | exact fits_nil | refine fits_none ?_ | refine fits_some ?_)
  · obtain rfl : g = S.length := by omega
    have j1 : ¬ (S.length : Int) < (S.length : Int) := by omega
    have HR := Lib.hid (show res = (costX P (givL S.length (rowsX L)), 0) by
      have h2 : fillE S P O (rowsX L) = 0 := by rw [Hfe.out, Hpo.out, HN.out, HN2.out]; rfl
      rw [← Hres.out]; unfold fillR; rw [h2, if_neg (by decide), costX_giv])
    have hgl : ∀ x ∈ givL S.length (rowsX L), 0 ≤ x ∧ x ≤ 1000 := fun x hx => by
      unfold givL at hx
      simp only [List.mem_map, List.mem_range] at hx
      obtain ⟨k, _, rfl⟩ := hx
      have h1 := gotP_bound HSz.out.small k (rowsX L).length
      have h2 := rows_length L
      have := Hn.out
      unfold gotX
      omega
    have Hco := Lib.hid (refCost_any _ _ _ _ _ _ _ _ _ S P O W HG0.out.sh _ _ _ (givL S.length (rowsX L)) HV.out.sl (by have := HF.out.len; omega) (by have := HF.out.len; omega) HF.out.prc hgl)
    generalize costX P (givL S.length (rowsX L)) = cst at *
    clear hK hgm hlt hgl
    go_wp2_with fail
    refine (Hco.out).mono ?_
    rintro e w5 ⟨rfl, hb⟩
    have HG1 := Lib.hid (HG0.out.later hb)
    clear hb HG0 g0 g1 g2 g3
    obtain ⟨g0, g1, g2, g3⟩ := HG1.out.cells
    go_wp2
    go_ret2
    exact ⟨ret_two (by rw [HR.out]) (by rw [HR.out]), HG1.out.bel⟩
end Go.Proofs.Ytmfiggbobaihcaa
