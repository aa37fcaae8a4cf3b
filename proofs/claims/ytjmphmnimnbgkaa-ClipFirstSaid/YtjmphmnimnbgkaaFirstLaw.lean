/- The walk of ClipFirst. -/
import Derived.Test.YtjmphmnimnbgkaaGiven
import Derived.Test.YtjmphmnimnbgkaaOutMore
namespace Go.Proofs.Ytjmphmnimnbgkaa
open Go.RowKit Go.Shelf

/-- Two lists of sheets stand. -/
structure TS (w W : World) (A : Option Addr) (n c : Nat) (xs : List Sh) (B : Option Addr) (m d : Nat) (ys : List Sh) : Prop where
  bel : Below w.heap.size w W
  s1 : Sl 2 encS W W.heap.size A n c xs
  s2 : Sl 2 encS W W.heap.size B m d ys
theorem TS.later {w W W' : World} {A : Option Addr} {n c : Nat} {xs : List Sh} {B : Option Addr} {m d : Nat} {ys : List Sh} (h : TS w W A n c xs B m d ys) (hb : Below W.heap.size W W') : TS w W' A n c xs B m d ys := ⟨Below.later h.bel hb, h.s1.later hb, h.s2.later hb⟩

set_option maxRecDepth 100000 in
set_option maxHeartbeats 4000000 in
theorem first_law (L : Int) (FA : Option Addr) (fn fc : Nat) (fs : List Int) (KA : Option Addr) (kc : Nat) (ks : List Kd) (BA : Option Addr) (bn bc : Nat) (bs : List Nat) (w : World) (hfs : Sl 1 encI w w.heap.size FA fn fc fs) (hks : Sl 3 encK w w.heap.size KA ks.length kc ks) (hbs : Sl 1 encB w w.heap.size BA bn bc bs) (hbd : ∀ x ∈ bs, x < 256) :
    Calls Try.prog 8 #[.agg #[.int .i64 L, .slice FA fn fc], .slice KA ks.length kc, .slice BA bn bc] w fun e w' => e = .returned (.bool true) ∧ Below w.heap.size w w' := by
  have hB := balloc (brefl w) (.cells #[.int .i64 L, .slice FA fn fc] 24)
  have HK := Lib.hid (show LW w (w.alloc (.cells #[.int .i64 L, .slice FA fn fc] 24)) w.heap.size L FA fn fc fs KA kc ks from ⟨hB, Blk.new w _ _, hfs.later hB, hks.later hB⟩)
  have Hbs := Lib.hid hbs
  have Hbd := Lib.hid hbd
  have hfi := Lib.hid (fun W h1 h2 => fine_any L FA fn fc fs KA kc ks W h1 h2)
  clear hB hfs hks hbs hbd
  cases hg : (fineB L fn fs ks && !decide ((60 : Int) < (bn : Int))) with
  | false =>
    have hway : (fineB L fn fs ks = false) ∨ (fineB L fn fs ks = true ∧ decide ((60 : Int) < (bn : Int)) = true) := by
      cases h1 : fineB L fn fs ks <;> cases h2 : decide ((60 : Int) < (bn : Int)) <;> simp_all
    clear hg
    rcases hway with h1 | ⟨h1, h2⟩
    all_goals
      rw [h1] at hfi
      clear h1
      go_enter Try.func8, Try.ntmps8
      go_wp2_with fail
      refine (hfi.out _ HK.out.fsl HK.out.ksl).mono ?_
      rintro e w1 ⟨rfl, hb1⟩
      have HB := Lib.hid (Below.later HK.out.bel hb1)
      clear hb1
      go_wp2_with fail
      refine (works_any _).mono ?_
      rintro e w2 ⟨rfl, hb2⟩
      have HB2 := Lib.hid (Below.later HB.out hb2)
      clear hb2
      go_wp2
      go_ret
      exact ⟨rfl, HB2.out⟩
  | true =>
    simp only [Bool.and_eq_true, Bool.not_eq_true'] at hg
    obtain ⟨h1, h2⟩ := hg
    rw [h1] at hfi
    obtain ⟨he, hfn, _⟩ := fine_rk h1
    obtain ⟨n, rfl, hl1, hl2, hko⟩ := valid_nat he
    have hbn : bn ≤ 60 := by simp at h2; omega
    obtain ⟨g, hgd⟩ : ∃ g, givenP n (Fst fs n) ks bs 0 = g := ⟨_, rfl⟩
    obtain ⟨v, hv⟩ : ∃ v, behindAt n (Fst fs n) ks n 0 = v := ⟨_, rfl⟩
    obtain ⟨a, ha⟩ : ∃ a, valL ks g = a := ⟨_, rfl⟩
    obtain ⟨cc, hcc⟩ : ∃ cc, firstAt n (Fst fs n) ks (behindAt n (Fst fs n) ks n) n 0 = cc := ⟨_, rfl⟩
    obtain ⟨mm, hmm⟩ : ∃ mm, manyAt n (Fst fs n) ks (behindAt n (Fst fs n) ks n) n 0 = mm := ⟨_, rfl⟩
    have hgood := given_good (F := Fst fs n) hko bs 0 (Nat.zero_le n)
    rw [hgd] at hgood
    have hcw := hgood.worth hko
    rw [ha] at hcw
    have hF := behind_from (L := n) (F := Fst fs n) hko
    have hcg := first_good hko hF n 0 (by omega) (Nat.zero_le _)
    rw [hcc] at hcg
    have hNB : a = v → NotBefore g cc := fun h => by
      have := first_least hko hF n 0 (by omega) (Nat.zero_le _) g hgood (by rw [ha, hv, h])
      rw [hcc] at this
      exact this
    have hTwo : a = v → g ≠ cc → decide (1 < mm) = true := fun h hne => by
      have := two_best hko hF (cnt_ref (L := n) (F := Fst fs n) hko) n 0 (by omega) g cc hgood hcg.1 (by rw [ha, hv, h]) hcg.2 hne
      rw [ref_many0 hko, hmm] at this
      simp
      omega
    have hgl := hgood.len hko
    have hcl := hcg.1.len hko
    have Hgd := Lib.hid hgd
    have Hv := Lib.hid hv
    have Hcc := Lib.hid hcc
    have Hmm := Lib.hid hmm
    have Hcw := Lib.hid hcw
    have He := Lib.hid he
    have Hk := Lib.hid hko
    have HNB := Lib.hid hNB
    have HTwo := Lib.hid hTwo
    have Hgl := Lib.hid hgl
    have Hcl := Lib.hid hcl
    clear hgd hv ha hcc hmm hgood hcw hF hcg hNB hTwo hgl hcl he hko h1
    go_enter Try.func8, Try.ntmps8
    go_wp2_with fail
    refine (hfi.out _ HK.out.fsl HK.out.ksl).mono ?_
    rintro e w1 ⟨rfl, hb1⟩
    have HK1 := Lib.hid (HK.out.later hb1)
    obtain ⟨c0, c1, c2⟩ := HK1.out.cells
    clear hb1 HK hfi
    go_wp2_with fail
    refine (best_fine n FA fn fc fs KA kc ks _ HK1.out.fsl HK1.out.ksl He.out).mono ?_
    rintro e w2 ⟨G2, n2, d2, rfl, hb2, hS2⟩
    rw [Hv.out]
    rw [Hcc.out] at hS2
    have HK2 := Lib.hid (HK1.out.later hb2)
    have HS2 := Lib.hid hS2
    clear hb2 HK1 c0 c1 c2 hS2
    obtain ⟨c0, c1, c2⟩ := HK2.out.cells
    go_wp2_with fail
    refine (count_fine n FA fn fc fs KA kc ks _ HK2.out.fsl HK2.out.ksl He.out).mono ?_
    rintro e w3 ⟨rfl, hb3⟩
    rw [Hmm.out]
    have HK3 := Lib.hid (HK2.out.later hb3)
    have HS3 := Lib.hid (HS2.out.later hb3)
    clear hb3 HK2 HS2 c0 c1 c2
    obtain ⟨c0, c1, c2⟩ := HK3.out.cells
    go_wp2_with fail
    refine (given_any n FA fn fc fs KA kc ks BA bn bc bs _ HK3.out.fsl HK3.out.ksl (Hbs.out.later HK3.out.bel) Hbd.out hbn hl2 Hk.out).mono ?_
    rintro e w4 ⟨u, rfl, hb4, hown⟩
    rw [Hgd.out] at hown
    obtain ⟨G3, n3, d3, rfl, hS4⟩ := own_slS hown
    have HK4 := Lib.hid (HK3.out.later hb4)
    have HT4 := Lib.hid (show TS w _ G3 n3 d3 g G2 n2 d2 cc from ⟨HK4.out.bel, hS4, HS3.out.later hb4⟩)
    clear hb4 HK3 HS3 hown hS4 c0 c1 c2
    obtain ⟨c0, c1, c2⟩ := HK4.out.cells
    go_wp2_with fail
    refine (CheckCuts_ok n FA fn fc fs KA kc ks G3 n3 d3 g _ HK4.out.fsl HK4.out.ksl HT4.out.s1 He.out).mono ?_
    rintro e w5 ⟨rfl, hb5⟩
    rw [Hcw.out]
    have HT := Lib.hid (HT4.out.later hb5)
    clear hb5 HK4 HT4 c0 c1 c2
    by_cases hav : a = v
    case neg =>
      have d1 : (a != v) = true := by simpa using hav
      clear hav
      go_wp2_with fail
      refine (works_any _).mono ?_
      rintro e w6 ⟨rfl, hb6⟩
      have HB := Lib.hid (HT.out.later hb6).bel
      clear hb6
      go_wp2
      go_ret
      exact ⟨rfl, HB.out⟩
    case pos =>
    subst hav
    have HNB2 := Lib.hid (HNB.out rfl)
    have HTwo2 := Lib.hid (HTwo.out rfl)
    clear HNB HTwo
    have hg1 := HT.out.s1.len
    have hg2 := HT.out.s2.len
    have hn3 : n3 ≤ 24 := by have := Hgl.out; omega
    have hn2 : n2 ≤ 24 := by have := Hcl.out; omega
    have Hg1 := Lib.hid hg1
    have Hg2 := Lib.hid hg2
    clear hg1 hg2
    have d1 : (a != a) = false := by simp
    go_wp2_with fail
    clear d1
    refine loop_n (fun k b W => b.defers = [] ∧ ∃ i : Nat, i + k = n3 ∧ TS w W G3 n3 d3 g G2 n2 d2 cc ∧ (∀ j, j < i → g[j]? = cc[j]?) ∧ Fits (none :: none :: none :: none :: none :: none :: none :: none :: some (.slice G2 n2 d2) :: none :: some (.int .i64 mm) :: none :: some (.slice G3 n3 d3) :: none :: none :: some (.int .i64 (i : Nat)) :: none :: none :: none :: none :: none :: none :: none :: none :: none :: none :: none :: none :: none :: none :: none :: none :: none :: none :: none :: none :: none :: none :: none :: none :: none :: none :: none :: none :: none :: none :: none :: none :: none :: none :: none :: none :: none :: none :: none :: none :: none :: none :: none :: none :: none :: none :: none :: none :: none :: none :: none :: none :: none :: none :: none :: none :: none :: none :: none :: none :: none :: none :: none :: none :: none :: none :: none :: none :: none :: none :: none :: none :: none :: none :: none :: none :: none :: none :: none :: none :: none :: none :: none :: none :: none :: none :: none :: none :: none :: none :: none :: none :: none :: none :: none :: none :: none :: none :: none :: none :: none :: none :: none :: none :: none :: none :: none :: none :: none :: none :: none :: none :: none :: none :: none :: none :: none :: []) b.tmps.toList) n3 ?_ ?_
    · refine ⟨rfl, 0, by omega, HT.out, fun j hj => by omega, ?_⟩
      repeat (first | exact fits_nil | refine fits_none ?_ | refine fits_some ?_)
    clear HT
    intro k b W hI K hK'
    obtain ⟨hds, i, hik, hS, hno, hfit⟩ := hI
    obtain ⟨f, hf⟩ := fits_act hfit
    rw [hds] at hf
    subst hf
    clear hfit hds
    simp only [fillP, Nat.reduceAdd]
    have HS := Lib.hid hS
    have Hno := Lib.hid hno
    by_cases hlt : i < n3 ∧ i < n2
    · obtain ⟨lt3, lt2⟩ := hlt
      obtain ⟨b1, o1, x, rfl, hb1', hx, g0, g1⟩ := hS.s1.ltS lt3
      obtain ⟨b2, o2, y, rfl, hb2', hy, g2, g3⟩ := hS.s2.ltS lt2
      have i1 : (i : Int) < (n3 : Int) := by omega
      have i2 : (i : Int) < (n2 : Int) := by omega
      have i3 : (0 : Int) ≤ (i : Int) := by omega
      have i4 : IntKind.i64.wrap ((i : Int) + 1) = (i : Int) + 1 := by rw [IntKind.wrap_i64]; omega
      obtain ⟨q1, q2⟩ := HNB2.out.at i x y Hno.out hx hy
      have e1 : decide (x.f < y.f) = false := by simpa using q1
      by_cases hxy : x = y
      · subst hxy
        have Hno2 := Lib.hid (show ∀ j, j < i + 1 → g[j]? = cc[j]? from fun j hj => by
          by_cases e : j = i
          · subst e; rw [hx, hy]
          · exact Hno.out j (by omega))
        have e2 : decide (x.k < x.k) = false := by simp
        clear hno hx hy hS q1 q2 Hno
        go_wp2_with fail
        refine dag 37 (by kernel_rfl) (by kernel_rfl) (.is ?_ :: .is ?_ :: .is ?_ :: .is ?_ :: .is ?_ :: .is ?_ :: .is ?_ :: .is ?_ :: .is ?_ :: .is ?_ :: .is ?_ :: .is ?_ :: .is ?_ :: .is ?_ :: .is ?_ :: .is ?_ :: .is ?_ :: .is ?_ :: .is ?_ :: .is ?_ :: .is ?_ :: .is ?_ :: .is ?_ :: .is ?_ :: .is ?_ :: .is ?_ :: .is ?_ :: .is ?_ :: .is ?_ :: .is ?_ :: .is ?_ :: .is ?_ :: .is ?_ :: .is ?_ :: .is ?_ :: .is ?_ :: .is ?_ :: []) rfl ?st1 ?ob1
        case st1 => simp [Spec.ok]
        case ob1 =>
          intro env W' hG
          obtain ⟨hc, hf⟩ := bcell hG
          repeat (refine obls_is ?_ ?_; unfold doesAt; go_simp; (try go_bits); (first | (refine ⟨brefl _, ?_⟩; rfl) | rfl); intro K hK; go_simp; refine hK _ ?_; clear hK K)
          refine obls_nil (fun _ => ?_)
          have HS2 := Lib.hid (HS.out.later hG)
          have g0' := (hc b1 (o1 + i * 2) hb1').trans g0
          have g1' := (hc b1 (o1 + i * 2 + 1) hb1').trans g1
          have g2' := (hc b2 (o2 + i * 2) hb2').trans g2
          have g3' := (hc b2 (o2 + i * 2 + 1) hb2').trans g3
          have hb1s := hG.size
          have hb1'' : b1 < W'.heap.size := by omega
          have hb2'' : b2 < W'.heap.size := by omega
          clear hc hf hG g0 g1 g2 g3 hb1' hb2' hb1s HS
          go_wp2_with fail
          refine dag 9 (by kernel_rfl) (by kernel_rfl) (.is ?_ :: .is ?_ :: .is ?_ :: .is ?_ :: .is ?_ :: .is ?_ :: .is ?_ :: .is ?_ :: .is ?_ :: []) rfl ?st2 ?ob2
          case st2 => simp [Spec.ok]
          case ob2 =>
            intro env2 W2 hG
            obtain ⟨hc, hf⟩ := bcell hG
            repeat (refine obls_is ?_ ?_; unfold doesAt; go_simp; (try go_bits); (first | (refine ⟨brefl _, ?_⟩; rfl) | rfl); intro K hK; go_simp; refine hK _ ?_; clear hK K)
            refine obls_nil (fun _ => ?_)
            have HS3 := Lib.hid (HS2.out.later hG)
            clear hc hf hG HS2 g0' g1' g2' g3'
            go_wp2
            refine hK' _ _ (k - 1) (by omega) ⟨rfl, i + 1, by omega, HS3.out, Hno2.out, ?_⟩
            repeat (first | exact fits_nil | refine fits_none ?_ | refine fits_some ?_)
      · have HE := Lib.hid (HTwo2.out fun e => by
          rw [e, hy] at hx
          cases hx
          exact hxy rfl)
        have hne : (x.f == y.f && x.k == y.k) = false := by
          rw [Bool.and_eq_false_iff]
          by_cases e1 : x.f = y.f
          · right
            simp only [beq_eq_false_iff_ne, ne_eq]
            intro e2
            apply hxy
            cases x; cases y; simp_all
          · left; simpa using e1
        have hq : ∀ W, (binOp .neq 56 (.agg #[.int .i64 x.f, .int .i64 x.k]) (.agg #[.int .i64 y.f, .int .i64 y.k])).run Try.prog W = .ok (.bool true) W := by
          intro W
          rw [Bool.and_eq_false_iff] at hne
          rcases hne with h | h <;> (cases h3 : (x.f == y.f) <;> simp [go_sem, h, h3])
        have hm1 := HE.out
        have hcs : (x.f == y.f) = false ∨ ((x.f == y.f) = true ∧ decide (x.k < y.k) = false) := by
          cases h3 : (x.f == y.f) with
          | false => exact .inl rfl
          | true => exact .inr ⟨rfl, by simp at h3; simp; omega⟩
        clear hno hx hy hS hK' hne hxy q1 q2 Hno HE HTwo2
        rcases hcs with e2 | ⟨e2, e3⟩
        all_goals
          go_wp2_with fail
          refine dag 37 (by kernel_rfl) (by kernel_rfl) (.is ?_ :: .is ?_ :: .is ?_ :: .is ?_ :: .is ?_ :: .is ?_ :: .is ?_ :: .is ?_ :: .is ?_ :: .is ?_ :: .is ?_ :: .is ?_ :: .is ?_ :: .is ?_ :: .is ?_ :: .is ?_ :: .is ?_ :: .is ?_ :: .is ?_ :: .is ?_ :: .is ?_ :: .is ?_ :: .is ?_ :: .is ?_ :: .is ?_ :: .is ?_ :: .is ?_ :: .is ?_ :: .is ?_ :: .is ?_ :: .is ?_ :: .is ?_ :: .is ?_ :: .is ?_ :: .is ?_ :: .is ?_ :: .is ?_ :: []) rfl ?st3 ?ob3
          case st3 => simp [Spec.ok]
          case ob3 =>
            intro env W' hG
            obtain ⟨hc, hf⟩ := bcell hG
            repeat (refine obls_is ?_ ?_; unfold doesAt; go_simp; (try go_bits); (first | (refine ⟨brefl _, ?_⟩; rfl) | rfl); intro K hK; go_simp; refine hK _ ?_; clear hK K)
            refine obls_nil (fun _ => ?_)
            have HS2 := Lib.hid (HS.out.later hG)
            have g0' := (hc b1 (o1 + i * 2) hb1').trans g0
            have g1' := (hc b1 (o1 + i * 2 + 1) hb1').trans g1
            have g2' := (hc b2 (o2 + i * 2) hb2').trans g2
            have g3' := (hc b2 (o2 + i * 2 + 1) hb2').trans g3
            have hb1s := hG.size
            have hb1'' : b1 < W'.heap.size := by omega
            have hb2'' : b2 < W'.heap.size := by omega
            clear hc hf hG g0 g1 g2 g3 hb1' hb2' hb1s HS
            go_wp2_with fail
            refine dag 9 (by kernel_rfl) (by kernel_rfl) (.is ?_ :: .is ?_ :: .is ?_ :: .is ?_ :: .is ?_ :: .is ?_ :: .is ?_ :: .is ?_ :: .is ?_ :: []) rfl ?st4 ?ob4
            case st4 => simp [Spec.ok]
            case ob4 =>
              intro env2 W2 hG
              obtain ⟨hc, hf⟩ := bcell hG
              repeat (refine obls_is ?_ ?_; unfold doesAt; go_simp; (try go_bits); (first | (refine ⟨brefl _, ?_⟩; rfl) | rfl); intro K hK; go_simp; refine hK _ ?_; clear hK K)
              refine obls_nil (fun _ => ?_)
              have HS3 := Lib.hid (HS2.out.later hG)
              clear hc hf hG HS2 g0' g1' g2' g3'
              go_wp2_with fail
              refine (works_any _).mono ?_
              rintro e w6 ⟨rfl, hb6⟩
              have HB := Lib.hid (HS3.out.later hb6).bel
              clear hb6
              go_wp2
              go_ret
              exact ⟨rfl, HB.out⟩
    · have heq := HNB2.out.same_end (fun j h1 h2 => Hno.out j (by have := Hg1.out; have := Hg2.out; omega))
      have hnn : n3 = n2 := by have := Hg1.out; have := Hg2.out; rw [heq] at *; omega
      subst hnn
      clear hno hS Hno hK' heq
      have i1 : ¬ (i : Int) < (n3 : Int) := by omega
      clear hlt
      go_wp2_with fail
      refine (works_any _).mono ?_
      rintro e w6 ⟨rfl, hb6⟩
      have HB := Lib.hid (HS.out.later hb6).bel
      clear hb6
      go_wp2
      go_ret
      exact ⟨rfl, HB.out⟩
end Go.Proofs.Ytjmphmnimnbgkaa
