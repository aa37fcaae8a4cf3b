/- The walk of ClipParted. -/
import Derived.Test.YtjmphmnimnbgkaaParts
import Derived.Test.YtjmphmnimnbgkaaOutMore
import Derived.Test.YtjmphmnimnbgkaaParted
namespace Go.Proofs.Ytjmphmnimnbgkaa
open Go.RowKit Go.Shelf

theorem over_any {L : Nat} {F : Nat → Int} {ks : List Kd} {l : List Sh} {p : Nat} : (!l.any (overS ks p)) = true ↔ ∀ s ∈ l, ¬ (s.f < p ∧ (p : Int) < s.f + wOf ks s) := by
  have _ := (L, F)
  rw [Bool.not_eq_true', List.any_eq_false]
  refine ⟨fun h s hs ho => h s hs ?_, fun h s hs ho => h s hs ?_⟩
  · unfold overS
    simp only [Bool.and_eq_true, decide_eq_true_eq]
    exact ho
  · unfold overS at ho
    simp only [Bool.and_eq_true, decide_eq_true_eq] at ho
    exact ho

set_option maxRecDepth 100000 in
set_option maxHeartbeats 8000000 in
theorem parted_law (L : Int) (FA : Option Addr) (fn fc : Nat) (fs : List Int) (KA : Option Addr) (kc : Nat) (ks : List Kd) (wh : Int) (BA : Option Addr) (bn bc : Nat) (bs : List Nat) (w : World) (hfs : Sl 1 encI w w.heap.size FA fn fc fs) (hks : Sl 3 encK w w.heap.size KA ks.length kc ks) (hwh : 0 ≤ wh ∧ wh ≤ 255) (hbs : Sl 1 encB w w.heap.size BA bn bc bs) (hbd : ∀ x ∈ bs, x < 256) :
    Calls Try.prog 10 #[.agg #[.int .i64 L, .slice FA fn fc], .slice KA ks.length kc, .int .u8 wh, .slice BA bn bc] w fun e w' => e = .returned (.bool true) ∧ Below w.heap.size w w' := by
  have hB := balloc (brefl w) (.cells #[.int .i64 L, .slice FA fn fc] 24)
  have HK := Lib.hid (show LW w (w.alloc (.cells #[.int .i64 L, .slice FA fn fc] 24)) w.heap.size L FA fn fc fs KA kc ks from ⟨hB, Blk.new w _ _, hfs.later hB, hks.later hB⟩)
  have Hbs := Lib.hid hbs
  have Hbd := Lib.hid hbd
  have hfi := Lib.hid (fun W h1 h2 => fine_any L FA fn fc fs KA kc ks W h1 h2)
  have hfsl := hfs.len
  clear hB hfs hks hbs hbd
  obtain ⟨c0, c1, c2⟩ := HK.out.cells
  cases hg : (fineB L fn fs ks && !decide (L < 2) && !decide ((60 : Int) < (bn : Int))) with
  | false =>
    have hway : (fineB L fn fs ks = false) ∨ (fineB L fn fs ks = true ∧ decide (L < 2) = true) ∨ (fineB L fn fs ks = true ∧ decide (L < 2) = false ∧ decide ((60 : Int) < (bn : Int)) = true) := by
      cases h1 : fineB L fn fs ks <;> cases h2 : decide (L < 2) <;> cases h3 : decide ((60 : Int) < (bn : Int)) <;> simp_all
    clear hg c0 c1 c2
    rcases hway with h1 | ⟨h1, h2⟩ | ⟨h1, h2, h3⟩
    all_goals
      rw [h1] at hfi
      clear h1
      go_enter Try.func10, Try.ntmps10
      go_wp2_with fail
      refine (hfi.out _ HK.out.fsl HK.out.ksl).mono ?_
      rintro e w1 ⟨rfl, hb1⟩
      have HK1 := Lib.hid (HK.out.later hb1)
      obtain ⟨c0, c1, c2⟩ := HK1.out.cells
      clear hb1
      go_wp2_with fail
      refine (works_any _).mono ?_
      rintro e w2 ⟨rfl, hb2⟩
      have HB2 := Lib.hid (HK1.out.later hb2).bel
      clear hb2
      go_wp2
      go_ret
      exact ⟨rfl, HB2.out⟩
  | true =>
    simp only [Bool.and_eq_true, Bool.not_eq_true'] at hg
    obtain ⟨⟨h1, h2⟩, h3⟩ := hg
    rw [h1] at hfi
    obtain ⟨he, hfn, _⟩ := fine_rk h1
    obtain ⟨n, rfl, hl1, hl2, hko⟩ := valid_nat he
    have hn2 : 2 ≤ n := by simp at h2; omega
    have hbn : bn ≤ 60 := by simp at h3; omega
    obtain ⟨hri, hkn⟩ := rk_rib he
    obtain ⟨n1, hn1⟩ : ∃ n1 : Int, (n : Int) - 1 = n1 := ⟨_, rfl⟩
    obtain ⟨q, hq⟩ : ∃ q : Int, wh.tmod n1 = q := ⟨_, rfl⟩
    have hqb : 0 ≤ q ∧ q < n1 := by
      rw [← hq, Int.tmod_eq_emod_of_nonneg (by omega)]
      exact ⟨Int.emod_nonneg _ (by omega), Int.emod_lt_of_pos _ (by omega)⟩
    obtain ⟨p, hp⟩ : ∃ p : Nat, 1 + q = (p : Int) := ⟨(1 + q).toNat, by omega⟩
    have hp1 : 1 ≤ p := by omega
    have hp2 : p < n := by omega
    have hrA : rkE (p : Int) (pieceF fs (0 : Nat) p) ks = 0 := rk_of (by have := piece_rib (a := 0) (b := p) hri (by omega) (by omega); rw [show ((p : Int) - ((0 : Nat) : Int)) = (p : Int) by omega] at this; exact this) hkn
    have hrB : rkE ((n - p : Nat) : Int) (pieceF fs p n) ks = 0 := rk_of (by have := piece_rib (a := p) (b := n) hri hp2 hl2; rw [show ((n : Int) - (p : Int)) = ((n - p : Nat) : Int) by omega] at this; exact this) hkn
    obtain ⟨hS, hM⟩ := parted_same (L := n) (p := p) (F := Fst fs n) (F1 := Fst (pieceF fs (0 : Nat) p) p) (F2 := Fst (pieceF fs p n) (n - p)) hko (by omega) (piece_can1 hko (by omega)) (piece_can2 hko (by omega))
    obtain ⟨w1, w2, w3, w4, w5⟩ := parts_worth (L := n) (p := p) (F := Fst fs n) (F1 := Fst (pieceF fs (0 : Nat) p) p) (F2 := Fst (pieceF fs p n) (n - p)) hko (by omega) (piece_can1 hko (by omega)) (piece_can2 hko (by omega))
    rw [ref_many0 hko, ref_many0 hko, ref_many0 hko] at hS hM
    have hbp := fun l g hv => best_part (L := n) (F := Fst fs n) (p := p) (l := l) hko (by omega) g hv
    have hcw := fun (l : List Sh) (g : GoodL n (Fst fs n) ks 0 l) => g.worth hko
    have hm1 := many_pos (L := p) (F := Fst (pieceF fs (0 : Nat) p) p) hko
    have hm2 := many_pos (L := n - p) (F := Fst (pieceF fs p n) (n - p)) hko
    have hmt := many_top (L := n) (F := Fst fs n) hko hl2
    have hb1 := behindAt_bd (L := p) (F := Fst (pieceF fs (0 : Nat) p) p) hko p (Nat.le_refl _) 0
    have hb2 := behindAt_bd (L := n - p) (F := Fst (pieceF fs p n) (n - p)) hko (n - p) (Nat.le_refl _) 0
    obtain ⟨⟨pr, pe⟩, hpr⟩ : ∃ r, partedP n (Fst fs n) ks (aheadAt n (Fst fs n) ks n) (behindAt n (Fst fs n) ks n) p = r := ⟨_, rfl⟩
    rw [hpr] at hS w2 w3 w4 w5
    simp only [hpr] at hbp
    obtain rfl : pe = 0 := w3
    have hF := behind_from (L := n) (F := Fst fs n) hko
    have hcg := first_good hko hF n 0 (by omega) (Nat.zero_le _)
    have hgood := given_good (F := Fst fs n) hko bs 0 (Nat.zero_le n)
    obtain ⟨g, hgd⟩ : ∃ g, givenP n (Fst fs n) ks bs 0 = g := ⟨_, rfl⟩
    rw [hgd] at hgood
    have hcw := hgood.worth hko
    obtain ⟨v, hv⟩ : ∃ v, behindAt n (Fst fs n) ks n 0 = v := ⟨_, rfl⟩
    obtain ⟨va, hva⟩ : ∃ va, behindAt p (Fst (pieceF fs (0 : Nat) p) p) ks p 0 = va := ⟨_, rfl⟩
    obtain ⟨vb, hvb⟩ : ∃ vb, behindAt (n - p) (Fst (pieceF fs p n) (n - p)) ks (n - p) 0 = vb := ⟨_, rfl⟩
    obtain ⟨m, hm⟩ : ∃ m, manyAt n (Fst fs n) ks (behindAt n (Fst fs n) ks n) n 0 = m := ⟨_, rfl⟩
    obtain ⟨ma, hma⟩ : ∃ ma, manyAt p (Fst (pieceF fs (0 : Nat) p) p) ks (behindAt p (Fst (pieceF fs (0 : Nat) p) p) ks p) p 0 = ma := ⟨_, rfl⟩
    obtain ⟨mb, hmb⟩ : ∃ mb, manyAt (n - p) (Fst (pieceF fs p n) (n - p)) ks (behindAt (n - p) (Fst (pieceF fs p n) (n - p)) ks (n - p)) (n - p) 0 = mb := ⟨_, rfl⟩
    obtain ⟨a, ha⟩ : ∃ a, valL ks g = a := ⟨_, rfl⟩
    obtain ⟨cc, hcc⟩ : ∃ cc, firstAt n (Fst fs n) ks (behindAt n (Fst fs n) ks n) n 0 = cc := ⟨_, rfl⟩
    rw [hcc, hv] at hcg
    rw [hv, hm, hva, hma, hvb, hmb] at hS hM
    rw [hva, hvb, hv] at w1 w2
    rw [hma] at hm1
    rw [hmb] at hm2
    rw [hm] at hmt
    rw [hva] at hb1
    rw [hvb] at hb2
    have a5 : IntKind.i64.wrap (va + vb) = va + vb := by rw [IntKind.wrap_i64]; omega
    have a6 : decide (v < va + vb) = false := by simp; omega
    rw [hv] at hbp
    rw [ha] at hcw
    have hbc := hbp cc hcg.1 hcg.2
    have hbg : a = v → _ := fun h => hbp g hgood (ha.trans h)
    have hce : ∀ s ∈ cc, ∃ (f k : Nat) (x : Kd), s = ⟨f, k⟩ ∧ ks[k]? = some x ∧ f ≤ 24 := fun s hs => by
      obtain ⟨f, k, x, e1, e2, e3⟩ := hcg.1.each s hs
      have := (canB_iff.1 e3).1
      have := hko.bd e2
      exact ⟨f, k, x, e1, e2, by omega⟩
    have hge : ∀ s ∈ g, ∃ (f k : Nat) (x : Kd), s = ⟨f, k⟩ ∧ ks[k]? = some x ∧ f ≤ 24 := fun s hs => by
      obtain ⟨f, k, x, e1, e2, e3⟩ := hgood.each s hs
      have := (canB_iff.1 e3).1
      have := hko.bd e2
      exact ⟨f, k, x, e1, e2, by omega⟩
    have hgl := hgood.len hko
    have hcl := hcg.1.len hko
    obtain ⟨own, hown⟩ : ∃ own, (!cc.any (overS ks p)) = own := ⟨_, rfl⟩
    obtain ⟨giv, hgiv⟩ : ∃ giv, (!g.any (overS ks p)) = giv := ⟨_, rfl⟩
    have hno : ∀ (l : List Sh) (b : Bool), (!l.any (overS ks p)) = b → ((pr = 0 → ∃ s ∈ l, s.f < p ∧ (p : Int) < s.f + wOf ks s) ∧ (pr = 2 → ∀ s ∈ l, ¬ (s.f < p ∧ (p : Int) < s.f + wOf ks s))) → (pr = 0 → b = false) ∧ (pr = 2 → b = true) := fun l b hb h => by
      refine ⟨fun h0 => ?_, fun h0 => ?_⟩
      · obtain ⟨s, hs, ho⟩ := h.1 h0
        cases b with
        | false => rfl
        | true => exact absurd ho ((over_any (L := 0) (F := fun _ => 0)).1 hb s hs)
      · rw [← hb]
        exact (over_any (L := 0) (F := fun _ => 0)).2 (h.2 h0)
    have hO := hno cc own hown hbc
    have hG : a = v → (pr = 0 → giv = false) ∧ (pr = 2 → giv = true) := fun h => hno g giv hgiv (hbg h)
    -- the three cases
    have hdiv : va + vb = v → decide (m.tdiv mb < ma) = false ∧ IntKind.i64.wrap (ma * mb) = ma * mb ∧ IntKind.i64.wrap (m.tdiv mb) = m.tdiv mb := fun h => by
      have h4 := hM (by omega)
      have h7 := Int.mul_nonneg (show 0 ≤ ma by omega) (show 0 ≤ mb by omega)
      have h5 : ma ≤ m.tdiv mb := by
        rw [Int.tdiv_eq_ediv_of_nonneg (by omega)]
        exact Int.le_ediv_of_mul_le (by omega) h4
      have h6 : m.tdiv mb ≤ m := by
        rw [Int.tdiv_eq_ediv_of_nonneg (by omega)]
        exact Int.ediv_le_self _ (by omega)
      refine ⟨by simp; omega, by rw [IntKind.wrap_i64]; omega, by rw [IntKind.wrap_i64]; omega⟩
    have hcase : (pr = 0 ∧ (va + vb == v) = false ∧ own = false ∧ ((a != v) = true ∨ (a != v) = false ∧ giv = false)) ∨ (pr = 1 ∧ (va + vb == v) = true ∧ (ma * mb == m) = false) ∨ (pr = 2 ∧ (va + vb == v) = true ∧ (ma * mb == m) = true ∧ own = true ∧ ((a != v) = true ∨ (a != v) = false ∧ giv = true)) := by
      unfold partsP at hS
      have hav : (a != v) = true ∨ (a != v) = false ∧ a = v := by
        by_cases h : a = v
        · right; exact ⟨by simpa using h, h⟩
        · left; simpa using h
      by_cases e0 : va + vb < v
      · rw [if_pos e0] at hS
        left
        refine ⟨hS.symm, by simp; omega, hO.1 hS.symm, ?_⟩
        rcases hav with h | ⟨h, h'⟩
        · exact .inl h
        · exact .inr ⟨h, (hG h').1 hS.symm⟩
      · rw [if_neg e0] at hS
        right
        have h4 := hM e0
        by_cases e1 : ma * mb < m
        · rw [if_pos e1] at hS
          left
          exact ⟨hS.symm, by simp; omega, by simp; omega⟩
        · rw [if_neg e1] at hS
          right
          refine ⟨hS.symm, by simp; omega, by simp; omega, hO.2 hS.symm, ?_⟩
          rcases hav with h | ⟨h, h'⟩
          · exact .inl h
          · exact .inr ⟨h, (hG h').2 hS.symm⟩
    have a0 : IntKind.i64.wrap wh = wh := by rw [IntKind.wrap_i64]; omega
    have a1 : IntKind.i64.wrap ((n : Int) - 1) = n1 := by rw [IntKind.wrap_i64]; omega
    have a3 : n1 ≠ 0 := by omega
    have a4 : IntKind.i64.wrap (1 + q) = (p : Int) := by rw [IntKind.wrap_i64]; omega
    have a7 : mb ≠ 0 := by omega
    have hdiv' : (pr = 0) ∨ (decide (m.tdiv mb < ma) = false ∧ IntKind.i64.wrap (ma * mb) = ma * mb ∧ IntKind.i64.wrap (m.tdiv mb) = m.tdiv mb) := by
      rcases hcase with h | h | h
      · exact .inl h.1
      · exact .inr (hdiv (by simpa using h.2.1))
      · exact .inr (hdiv (by simpa using h.2.1))
    obtain ⟨dq, hdq⟩ : ∃ dq, m.tdiv mb = dq := ⟨_, rfl⟩
    rw [hdq] at hdiv'
    obtain ⟨ab, hab⟩ : ∃ ab, va + vb = ab := ⟨_, rfl⟩
    rw [hab] at a5 a6 hcase
    obtain ⟨mm, hmm⟩ : ∃ mm, ma * mb = mm := ⟨_, rfl⟩
    rw [hmm] at hdiv' hcase
    have Hgd := Lib.hid hgd
    have Hv := Lib.hid hv
    have Hva := Lib.hid hva
    have Hvb := Lib.hid hvb
    have Hm := Lib.hid hm
    have Hma := Lib.hid hma
    have Hmb := Lib.hid hmb
    have Hcc := Lib.hid hcc
    have Hcw := Lib.hid hcw
    have He := Lib.hid he
    have HeA := Lib.hid hrA
    have HeB := Lib.hid hrB
    have Hk := Lib.hid hko
    have Hpr := Lib.hid hpr
    have Hown := Lib.hid hown
    have Hgiv := Lib.hid hgiv
    have Hce := Lib.hid hce
    have Hge := Lib.hid hge
    have Hgl := Lib.hid hgl
    have Hcl := Lib.hid hcl
    have Hcase := Lib.hid hcase
    have Hdiv := Lib.hid hdiv'
    clear hgd hv hva hvb hm hma hmb hcc hcw he hrA hrB hko hpr hown hgiv hce hge hgl hcl hcase hdiv' h1 h3 hri hkn hS hM w1 w2 w4 w5 hbp hm1 hm2 hmt hb1 hb2 hF hcg hgood ha hbc hbg hno hO hG hdiv hqb hwh hp hn1 hfsl
    go_enter Try.func10, Try.ntmps10
    go_wp2_with fail
    refine (hfi.out _ HK.out.fsl HK.out.ksl).mono ?_
    rintro e w1 ⟨rfl, hb1⟩
    have HK1 := Lib.hid (HK.out.later hb1)
    clear c0 c1 c2
    obtain ⟨c0, c1, c2⟩ := HK1.out.cells
    clear hb1 HK hfi
    go_wp2_with fail
    refine (best_fine n FA fn fc fs KA kc ks _ HK1.out.fsl HK1.out.ksl He.out).mono ?_
    rintro e w2 ⟨G2, n2, d2, rfl, hb2, hS2⟩
    rw [Hv.out]
    rw [Hcc.out] at hS2
    have HK2 := Lib.hid (HK1.out.later hb2)
    have HS2 := Lib.hid hS2
    clear hb2 HK1 c0 c1 c2 hS2
    obtain ⟨c0, c1, c2⟩ := HK2.out.cells
    go_wp2_with fail
    refine (piece_any n FA fn fc fs 0 p _ HK2.out.fsl hfn (Nat.zero_le _) (by omega)).mono ?_
    rintro e w3 ⟨G3, g3, gc3, rfl, hb3, hG3⟩
    rw [show ((p : Int) - ((0 : Nat) : Int)) = ((p : Nat) : Int) by omega]
    have HKx := Lib.hid (HK2.out.later hb3)
    have HSx := Lib.hid (HS2.out.later hb3)
    have HGx := Lib.hid hG3
    clear hb3 hG3 HK2 HS2 c0 c1 c2
    obtain ⟨c0, c1, c2⟩ := HKx.out.cells
    go_wp2_with fail
    refine (best_fine p G3 g3 gc3 _ KA kc ks _ HGx.out HKx.out.ksl HeA.out).mono ?_
    rintro e w4 ⟨G4, g4, gc4, rfl, hb4, _⟩
    rw [Hva.out]
    have HK3 := Lib.hid (HKx.out.later hb4)
    have HS3 := Lib.hid (HSx.out.later hb4)
    clear hb4 HKx HSx HGx c0 c1 c2
    obtain ⟨c0, c1, c2⟩ := HK3.out.cells
    go_wp2_with fail
    refine (piece_any n FA fn fc fs p n _ HK3.out.fsl hfn (by omega) hl2).mono ?_
    rintro e w3 ⟨G3, g3, gc3, rfl, hb3, hG3⟩
    rw [show ((n : Int) - (p : Int)) = ((n - p : Nat) : Int) by omega]
    have HKx := Lib.hid (HK3.out.later hb3)
    have HSx := Lib.hid (HS3.out.later hb3)
    have HGx := Lib.hid hG3
    clear hb3 hG3 HK3 HS3 c0 c1 c2
    obtain ⟨c0, c1, c2⟩ := HKx.out.cells
    go_wp2_with fail
    refine (best_fine (n - p) G3 g3 gc3 _ KA kc ks _ HGx.out HKx.out.ksl HeB.out).mono ?_
    rintro e w4 ⟨G4, g4, gc4, rfl, hb4, _⟩
    rw [Hvb.out]
    have HK4 := Lib.hid (HKx.out.later hb4)
    have HS4 := Lib.hid (HSx.out.later hb4)
    clear hb4 HKx HSx HGx c0 c1 c2
    obtain ⟨c0, c1, c2⟩ := HK4.out.cells
    go_wp2_with fail
    refine (count_fine n FA fn fc fs KA kc ks _ HK4.out.fsl HK4.out.ksl He.out).mono ?_
    rintro e w3 ⟨rfl, hb3⟩
    rw [Hm.out]
    have HK5 := Lib.hid (HK4.out.later hb3)
    have HS5 := Lib.hid (HS4.out.later hb3)
    clear hb3 HK4 HS4 c0 c1 c2
    obtain ⟨c0, c1, c2⟩ := HK5.out.cells
    go_wp2_with fail
    refine (piece_any n FA fn fc fs 0 p _ HK5.out.fsl hfn (Nat.zero_le _) (by omega)).mono ?_
    rintro e w3 ⟨G3, g3, gc3, rfl, hb3, hG3⟩
    rw [show ((p : Int) - ((0 : Nat) : Int)) = ((p : Nat) : Int) by omega]
    have HKx := Lib.hid (HK5.out.later hb3)
    have HSx := Lib.hid (HS5.out.later hb3)
    have HGx := Lib.hid hG3
    clear hb3 hG3 HK5 HS5 c0 c1 c2
    obtain ⟨c0, c1, c2⟩ := HKx.out.cells
    go_wp2_with fail
    refine (count_fine p G3 g3 gc3 _ KA kc ks _ HGx.out HKx.out.ksl HeA.out).mono ?_
    rintro e w4 ⟨rfl, hb4⟩
    rw [Hma.out]
    have HK6 := Lib.hid (HKx.out.later hb4)
    have HS6 := Lib.hid (HSx.out.later hb4)
    clear hb4 HKx HSx HGx c0 c1 c2
    obtain ⟨c0, c1, c2⟩ := HK6.out.cells
    go_wp2_with fail
    refine (piece_any n FA fn fc fs p n _ HK6.out.fsl hfn (by omega) hl2).mono ?_
    rintro e w3 ⟨G3, g3, gc3, rfl, hb3, hG3⟩
    rw [show ((n : Int) - (p : Int)) = ((n - p : Nat) : Int) by omega]
    have HKx := Lib.hid (HK6.out.later hb3)
    have HSx := Lib.hid (HS6.out.later hb3)
    have HGx := Lib.hid hG3
    clear hb3 hG3 HK6 HS6 c0 c1 c2
    obtain ⟨c0, c1, c2⟩ := HKx.out.cells
    go_wp2_with fail
    refine (count_fine (n - p) G3 g3 gc3 _ KA kc ks _ HGx.out HKx.out.ksl HeB.out).mono ?_
    rintro e w4 ⟨rfl, hb4⟩
    rw [Hmb.out]
    have HK7 := Lib.hid (HKx.out.later hb4)
    have HS7 := Lib.hid (HSx.out.later hb4)
    clear hb4 HKx HSx HGx c0 c1 c2
    obtain ⟨c0, c1, c2⟩ := HK7.out.cells
    go_wp2_with fail
    refine (Parted_ok n FA fn fc fs KA kc ks p _ HK7.out.fsl HK7.out.ksl He.out).mono ?_
    rintro e w3 ⟨rfl, hb3⟩
    rw [Hpr.out]
    have HK8 := Lib.hid (HK7.out.later hb3)
    have HS8 := Lib.hid (HS7.out.later hb3)
    clear hb3 HK7 HS7 c0 c1 c2
    obtain ⟨c0, c1, c2⟩ := HK8.out.cells
    have hpg := Hdiv.out
    have hpo := Hcase.out
    clear Hdiv Hcase
    rcases hpo with ⟨rfl, o1, rfl, hpz⟩ | ⟨rfl, o1, o2⟩ | ⟨rfl, o1, o2, rfl, hpz⟩
    · clear hpg
      go_wp2_with fail
      refine (given_any n FA fn fc fs KA kc ks BA bn bc bs _ HK8.out.fsl HK8.out.ksl (Hbs.out.later HK8.out.bel) Hbd.out hbn hl2 Hk.out).mono ?_
      rintro e w4 ⟨u, rfl, hb4, hown⟩
      rw [Hgd.out] at hown
      obtain ⟨G9, n9, d9, rfl, hS9⟩ := own_slS hown
      have HK9 := Lib.hid (HK8.out.later hb4)
      have HC9 := Lib.hid (HS8.out.later hb4)
      have HG9 := Lib.hid hS9
      clear hb4 hown hS9 HK8 HS8 c0 c1 c2
      obtain ⟨c0, c1, c2⟩ := HK9.out.cells
      go_wp2_with fail
      refine (CheckCuts_ok n FA fn fc fs KA kc ks G9 n9 d9 g _ HK9.out.fsl HK9.out.ksl HG9.out He.out).mono ?_
      rintro e w5 ⟨rfl, hb5⟩
      rw [Hcw.out]
      have HKa := Lib.hid (HK9.out.later hb5)
      have HCa := Lib.hid (HC9.out.later hb5)
      have HGa := Lib.hid (HG9.out.later hb5)
      clear hb5 HK9 HC9 HG9 c0 c1 c2
      go_wp2_with fail
      refine (parts_any KA kc ks G2 n2 d2 cc p _ HKa.out.ksl HCa.out Hk.out (by omega) (by have := Hcl.out; have := HCa.out.len; omega) Hce.out).mono ?_
      rintro e w6 ⟨rfl, hb6⟩
      rw [Hown.out]
      have HKb := Lib.hid (HKa.out.later hb6)
      have HGb := Lib.hid (HGa.out.later hb6)
      clear hb6 HKa HCa HGa
      go_wp2_with fail
      refine (parts_any KA kc ks G9 n9 d9 g p _ HKb.out.ksl HGb.out Hk.out (by omega) (by have := Hgl.out; have := HGb.out.len; omega) Hge.out).mono ?_
      rintro e w7 ⟨rfl, hb7⟩
      rw [Hgiv.out]
      have HKc := Lib.hid (HKb.out.later hb7)
      clear hb7 HKb HGb Hown Hgiv
      rcases hpz with o6 | ⟨o6, rfl⟩
      all_goals
        go_wp2_with fail
        refine (works_any _).mono ?_
        rintro e w8 ⟨rfl, hb8⟩
        have HB := Lib.hid (HKc.out.later hb8).bel
        clear hb8
        go_wp2
        go_ret
        exact ⟨rfl, HB.out⟩
    · obtain ⟨o3, o4, o5⟩ := hpg.resolve_left (by omega)
      clear hpg
      go_wp2_with fail
      refine (given_any n FA fn fc fs KA kc ks BA bn bc bs _ HK8.out.fsl HK8.out.ksl (Hbs.out.later HK8.out.bel) Hbd.out hbn hl2 Hk.out).mono ?_
      rintro e w4 ⟨u, rfl, hb4, hown⟩
      rw [Hgd.out] at hown
      obtain ⟨G9, n9, d9, rfl, hS9⟩ := own_slS hown
      have HK9 := Lib.hid (HK8.out.later hb4)
      have HC9 := Lib.hid (HS8.out.later hb4)
      have HG9 := Lib.hid hS9
      clear hb4 hown hS9 HK8 HS8 c0 c1 c2
      obtain ⟨c0, c1, c2⟩ := HK9.out.cells
      go_wp2_with fail
      refine (CheckCuts_ok n FA fn fc fs KA kc ks G9 n9 d9 g _ HK9.out.fsl HK9.out.ksl HG9.out He.out).mono ?_
      rintro e w5 ⟨rfl, hb5⟩
      rw [Hcw.out]
      have HKa := Lib.hid (HK9.out.later hb5)
      have HCa := Lib.hid (HC9.out.later hb5)
      have HGa := Lib.hid (HG9.out.later hb5)
      clear hb5 HK9 HC9 HG9 c0 c1 c2
      go_wp2_with fail
      refine (parts_any KA kc ks G2 n2 d2 cc p _ HKa.out.ksl HCa.out Hk.out (by omega) (by have := Hcl.out; have := HCa.out.len; omega) Hce.out).mono ?_
      rintro e w6 ⟨rfl, hb6⟩
      rw [Hown.out]
      have HKb := Lib.hid (HKa.out.later hb6)
      have HGb := Lib.hid (HGa.out.later hb6)
      clear hb6 HKa HCa HGa
      go_wp2_with fail
      refine (parts_any KA kc ks G9 n9 d9 g p _ HKb.out.ksl HGb.out Hk.out (by omega) (by have := Hgl.out; have := HGb.out.len; omega) Hge.out).mono ?_
      rintro e w7 ⟨rfl, hb7⟩
      rw [Hgiv.out]
      have HKc := Lib.hid (HKb.out.later hb7)
      clear hb7 HKb HGb Hown Hgiv
      cases own
      all_goals
        cases hav : (a != v)
        all_goals
          go_wp2_with fail
          refine (works_any _).mono ?_
          rintro e w8 ⟨rfl, hb8⟩
          have HB := Lib.hid (HKc.out.later hb8).bel
          clear hb8
          go_wp2
          go_ret
          exact ⟨rfl, HB.out⟩
    · obtain ⟨o3, o4, o5⟩ := hpg.resolve_left (by omega)
      clear hpg
      go_wp2_with fail
      refine (given_any n FA fn fc fs KA kc ks BA bn bc bs _ HK8.out.fsl HK8.out.ksl (Hbs.out.later HK8.out.bel) Hbd.out hbn hl2 Hk.out).mono ?_
      rintro e w4 ⟨u, rfl, hb4, hown⟩
      rw [Hgd.out] at hown
      obtain ⟨G9, n9, d9, rfl, hS9⟩ := own_slS hown
      have HK9 := Lib.hid (HK8.out.later hb4)
      have HC9 := Lib.hid (HS8.out.later hb4)
      have HG9 := Lib.hid hS9
      clear hb4 hown hS9 HK8 HS8 c0 c1 c2
      obtain ⟨c0, c1, c2⟩ := HK9.out.cells
      go_wp2_with fail
      refine (CheckCuts_ok n FA fn fc fs KA kc ks G9 n9 d9 g _ HK9.out.fsl HK9.out.ksl HG9.out He.out).mono ?_
      rintro e w5 ⟨rfl, hb5⟩
      rw [Hcw.out]
      have HKa := Lib.hid (HK9.out.later hb5)
      have HCa := Lib.hid (HC9.out.later hb5)
      have HGa := Lib.hid (HG9.out.later hb5)
      clear hb5 HK9 HC9 HG9 c0 c1 c2
      go_wp2_with fail
      refine (parts_any KA kc ks G2 n2 d2 cc p _ HKa.out.ksl HCa.out Hk.out (by omega) (by have := Hcl.out; have := HCa.out.len; omega) Hce.out).mono ?_
      rintro e w6 ⟨rfl, hb6⟩
      rw [Hown.out]
      have HKb := Lib.hid (HKa.out.later hb6)
      have HGb := Lib.hid (HGa.out.later hb6)
      clear hb6 HKa HCa HGa
      go_wp2_with fail
      refine (parts_any KA kc ks G9 n9 d9 g p _ HKb.out.ksl HGb.out Hk.out (by omega) (by have := Hgl.out; have := HGb.out.len; omega) Hge.out).mono ?_
      rintro e w7 ⟨rfl, hb7⟩
      rw [Hgiv.out]
      have HKc := Lib.hid (HKb.out.later hb7)
      clear hb7 HKb HGb Hown Hgiv
      rcases hpz with o6 | ⟨o6, rfl⟩
      all_goals
        go_wp2_with fail
        refine (works_any _).mono ?_
        rintro e w8 ⟨rfl, hb8⟩
        have HB := Lib.hid (HKc.out.later hb8).bel
        clear hb8
        go_wp2
        go_ret
        exact ⟨rfl, HB.out⟩
end Go.Proofs.Ytjmphmnimnbgkaa
