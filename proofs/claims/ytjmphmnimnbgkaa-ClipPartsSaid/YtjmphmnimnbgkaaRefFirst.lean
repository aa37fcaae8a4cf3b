/- The document's answer: the first best cuts. -/
import Derived.Test.YtjmphmnimnbgkaaRefWorth
namespace Go.Proofs.Ytjmphmnimnbgkaa
open Go.RowKit Go.Shelf

/-! ### The last kind that serves, sought from behind, is the first one -/
def pB (L : Nat) (F : Nat → Int) (ks : List Kd) (Bh : Nat → Int) (i k : Nat) : Bool := canI L F ks i k && tieB ks Bh i k
theorem find_none {K : Nat} {c t : Nat → Bool} (h : ∀ j, j < K → (c j && t j) = false) : ((List.range K).filter c).find? t = none := by
  rw [List.find?_filter, List.find?_eq_none]
  intro j hj
  have := h j (List.mem_range.1 hj)
  simp at this ⊢
  exact this
theorem find_some {K j : Nat} {c t : Nat → Bool} (hj : j < K) (h1 : (c j && t j) = true) (h2 : ∀ j', j' < j → (c j' && t j') = false) : ((List.range K).filter c).find? t = some j := by
  rw [List.find?_filter, List.find?_range_eq_some]
  refine ⟨by simpa using h1, List.mem_range.2 hj, fun j' hj' => ?_⟩
  have := h2 j' hj'
  cases h3 : c j' <;> cases h4 : t j' <;> simp_all
/-- What is held while kinds are looked at from behind: all from place a on are done. -/
def HeldB (p : Nat → Bool) (K a : Nat) (b : Int) : Prop := (b = -1 ∧ ∀ j, a ≤ j → j < K → p j = false) ∨ ∃ j : Nat, b = j ∧ a ≤ j ∧ j < K ∧ p j = true ∧ ∀ j', a ≤ j' → j' < j → p j' = false
theorem HeldB.no {p : Nat → Bool} {K a : Nat} {b : Int} (h : HeldB p K (a + 1) b) (hp : p a = false) : HeldB p K a b := by
  rcases h with ⟨h1, h2⟩ | ⟨j, h1, h2, h3, h4, h5⟩
  · exact .inl ⟨h1, fun j hj hjK => by by_cases e : j = a; subst e; exact hp; exact h2 j (by omega) hjK⟩
  · exact .inr ⟨j, h1, by omega, h3, h4, fun j' hj' hjj => by by_cases e : j' = a; subst e; exact hp; exact h5 j' (by omega) hjj⟩
theorem HeldB.yes {p : Nat → Bool} {K a : Nat} (ha : a < K) (hp : p a = true) : HeldB p K a (a : Nat) := .inr ⟨a, rfl, Nat.le_refl _, ha, hp, fun j' h1 h2 => by omega⟩

structure FW (w W : World) (L : Nat) (FA : Option Addr) (fn fc g1 : Nat) (A : Nat → Int) (v : Value) (xs : List Sh) : Prop where
  bel : Below w.heap.size w W
  b0 : Blk W w.heap.size 24 #[.int .i64 L, .slice FA fn fc]
  b1 : Blk W g1 2 (numArr (L + 1) A)
  own : W.ownsRow w.heap.size 56 2 v xs.length (xs.flatMap encS)
section
variable {w W W' : World} {L : Nat} {FA : Option Addr} {fn fc g1 : Nat} {A : Nat → Int} {v : Value} {xs : List Sh}
theorem FW.later (h : FW w W L FA fn fc g1 A v xs) (hb : Below W.heap.size W W') : FW w W' L FA fn fc g1 A v xs := ⟨Below.later h.bel hb, h.b0.later hb, h.b1.later hb, own_later h.own hb⟩
theorem FW.grown {v' : Value} (h : FW w W L FA fn fc g1 A v xs) (x : Sh) (hg : W.grownBy W' v.ownBlock) (ho : W'.ownsRow w.heap.size 56 2 v' (xs.length + 1) (xs.flatMap encS ++ encS x)) : FW w W' L FA fn fc g1 A v' (xs ++ [x]) := by
  have hrow : ∀ k, v.ownBlock = some k → w.heap.size ≤ k := fun k hk => (h.own.lt k hk).1
  refine ⟨h.bel.trans ⟨hg.os, hg.tape, hg.output, hg.size, fun i hi => hg.block i (by have := h.bel.size; omega) (fun e => by have := hrow i e.symm; omega)⟩, h.b0.grown hg (h.b0.notRow h.own (by decide)), h.b1.grown hg (h.b1.notRow h.own (by decide)), ?_⟩
  simpa [List.flatMap_append] using ho
theorem FW.num (h : FW w W L FA fn fc g1 A v xs) {j : Nat} (hj : j ≤ L) : W.cell? ⟨g1, j, none⟩ = some (.int .i64 (A j)) := by rw [h.b1.cell, numArr_get (by omega)]
end

set_option maxRecDepth 100000 in
set_option maxHeartbeats 4000000 in
theorem refFirst_ok (L : Nat) (FA : Option Addr) (fn fc : Nat) (fs : List Int) (KA : Option Addr) (kc : Nat) (ks : List Kd) (w : World) (hfs : Sl 1 encI w w.heap.size FA fn fc fs) (hks : Sl 3 encK w w.heap.size KA ks.length kc ks) (he : rkE L fs ks = 0) :
    Calls Try.prog 27 #[.agg #[.int .i64 L, .slice FA fn fc], .slice KA ks.length kc] w fun e w' => ∃ v, e = .returned (.tuple #[v, .int .i64 0]) ∧ Below w.heap.size w w' ∧ w'.ownsRow w.heap.size 56 2 v (firstAt L (Fst fs L) ks (behindAt L (Fst fs L) ks L) L 0).length ((firstAt L (Fst fs L) ks (behindAt L (Fst fs L) ks L) L 0).flatMap encS) := by
  obtain ⟨n, hn, hl1, hl2, hko⟩ := valid_nat he
  have hn := Int.ofNat.inj hn
  subst hn
  have hR := RW.new (L := L) hfs hks
  obtain ⟨W, hW⟩ : ∃ W, w.alloc (.cells #[.int .i64 L, .slice FA fn fc] 24) = W := ⟨_, rfl⟩
  rw [hW] at hR
  have hbo := Lib.hid (both_any L FA fn fc fs KA kc ks W hR.fsl hR.ksl)
  rw [he] at hbo
  have HR := Lib.hid hR
  have Hk := Lib.hid hko
  have hkl := hko.2.1
  have c0 := hR.b0.cell 0
  have c1 := hR.b0.cell 1
  have c2 := hR.b0.lt
  have Hfs := Lib.hid hfs
  have Hks := Lib.hid hks
  have hbd := behindAt_bd (L := L) (F := Fst fs L) hko L (Nat.le_refl _)
  obtain ⟨Bh, hBh⟩ : ∃ Bh, behindAt L (Fst fs L) ks L = Bh := ⟨_, rfl⟩
  rw [hBh] at hbd ⊢
  have HBd := Lib.hid hbd
  have HBh := Lib.hid hBh
  clear hfs hks hR hko he hbd hBh
  go_enter Try.func27, Try.ntmps27
  go_wp2_with fail
  clear hW
  refine hbo.out.mono ?_
  rintro e w1 ⟨rfl, hb1⟩
  have hR1 := HR.out.later hb1
  have Hbe := Lib.hid (behind_any L FA fn fc fs KA kc ks w1 hR1.fsl hR1.ksl hl1 hl2 Hk.out)
  have c0 := hR1.b0.cell 0
  have c1 := hR1.b0.cell 1
  have c2 := hR1.b0.lt
  have HR1 := Lib.hid hR1
  clear hb1 HR hbo hR1
  go_wp2_with fail
  refine Hbe.out.mono ?_
  rintro e w2 ⟨g1, g2, rfl, hS⟩
  have hF0 : FW w w2 L FA fn fc g1 Bh (.slice none 0 0) [] := by
    have h1 := hS.b1
    rw [refAt_A Hk.out, HBh.out] at h1
    exact ⟨(HR1.out.later hS.bel).bel, (HR1.out.later hS.bel).b0, h1, World.ownsRow_nil _ _ _ _⟩
  have HF0 := Lib.hid hF0
  have d0 := hF0.b0.cell 0
  have d1 := hF0.b0.lt
  clear hF0 hS Hbe HR1 c0 c1 c2
  clear w1
  go_wp2_with fail
  refine loop_n (fun n a W => a.defers = [] ∧ ∃ (i : Nat) (v : Value) (xs : List Sh), L ≤ i + n ∧ i ≤ L ∧ xs ++ firstAt L (Fst fs L) ks Bh n i = firstAt L (Fst fs L) ks Bh L 0 ∧ FW w W L FA fn fc g1 Bh v xs ∧ Fits (none :: some (.slice KA ks.length kc) :: some (.pointer (some ⟨w.heap.size, 0, none⟩)) :: none :: none :: none :: some (.slice (some ⟨g1, 0, none⟩) (L + 1) (L + 1)) :: none :: some (v) :: some (.int .i64 (i : Nat)) :: none :: none :: none :: none :: none :: none :: none :: none :: none :: none :: none :: none :: none :: none :: none :: none :: none :: none :: none :: none :: none :: none :: none :: none :: none :: none :: none :: none :: none :: none :: none :: none :: none :: none :: none :: none :: none :: none :: none :: none :: none :: none :: none :: none :: none :: none :: none :: none :: none :: none :: none :: none :: none :: none :: none :: none :: none :: none :: none :: none :: none :: none :: none :: none :: none :: none :: none :: none :: none :: none :: none :: none :: none :: none :: none :: []) a.tmps.toList) L ?_ ?_
  · refine ⟨rfl, 0, _, [], by omega, by omega, rfl, HF0.out, ?_⟩
    repeat (first | exact fits_nil | refine fits_none ?_ | refine fits_some ?_)
  clear HF0 d0 d1
  intro n a W hI K hK
  obtain ⟨hds, i, v, xs, hin, hiL, hxs, hS, hfit⟩ := hI
  obtain ⟨f, hf⟩ := fits_act hfit
  rw [hds] at hf
  subst hf
  clear hfit hds
  simp only [fillP, Nat.reduceAdd]
  have c0 := hS.b0.cell 0
  have c2 := hS.b0.lt
  have HS := Lib.hid hS
  have Hxs := Lib.hid hxs
  clear hS hxs
  by_cases hlt : i < L
  · have i1 : (i : Int) < (L : Int) := by omega
    have hn0 : 0 < n := by omega
    go_wp2_with fail
    refine loop_n (fun m a W => a.defers = [] ∧ ∃ (k : Nat) (b : Int), k = m ∧ k ≤ ks.length ∧ HeldB (pB L (Fst fs L) ks Bh i) ks.length k b ∧ FW w W L FA fn fc g1 Bh v xs ∧ Fits (none :: some (.slice KA ks.length kc) :: some (.pointer (some ⟨w.heap.size, 0, none⟩)) :: none :: none :: none :: some (.slice (some ⟨g1, 0, none⟩) (L + 1) (L + 1)) :: none :: some (v) :: some (.int .i64 (i : Nat)) :: some (.int .i64 b) :: some (.int .i64 ((k : Int) - 1)) :: none :: none :: none :: none :: none :: none :: none :: none :: none :: none :: none :: none :: none :: none :: none :: none :: none :: none :: none :: none :: none :: none :: none :: none :: none :: none :: none :: none :: none :: none :: none :: none :: none :: none :: none :: none :: none :: none :: none :: none :: none :: none :: none :: none :: none :: none :: none :: none :: none :: none :: none :: none :: none :: none :: none :: none :: none :: none :: none :: none :: none :: none :: none :: none :: none :: none :: none :: none :: none :: none :: none :: none :: none :: []) a.tmps.toList) ks.length ?_ ?_
    · refine ⟨rfl, ks.length, -1, rfl, Nat.le_refl _, .inl ⟨rfl, fun j h1 h2 => by omega⟩, HS.out, ?_⟩
      repeat (first | exact fits_nil | refine fits_none ?_ | refine fits_some ?_)
    clear HS c0 c2
    clear W
    intro m a W hI K2 hK2
    obtain ⟨hds, k, b, rfl, hkl2, hH, hS, hfit⟩ := hI
    obtain ⟨f, hf⟩ := fits_act hfit
    rw [hds] at hf
    subst hf
    clear hfit hds
    simp only [fillP, Nat.reduceAdd]
    have c0 := hS.b0.cell 0
    have c1 := hS.b0.cell 1
    have c2 := hS.b0.lt
    cases k with
    | succ k =>
      have hks : ((k + 1 : Nat) : Int) - 1 = (k : Int) := by omega
      rw [hks]
      have hlk : k < ks.length := by omega
      obtain ⟨kb, ko, x, rfl, hkb, hx, q0, q1, q2⟩ := (Hks.out.later hS.bel).ltK hlk
      have k1 : (k : Int) < (ks.length : Int) := by omega
      have k2 : (0 : Int) ≤ (k : Int) := by omega
      have k3 : IntKind.i64.wrap ((k : Int) - 1) = (k : Int) - 1 := by rw [IntKind.wrap_i64]; omega
      have hxb := Hk.out.bd hx
      have hcan := Lib.hid (fun W' (hb : Below W.heap.size W W') => refCan_any L FA fn fc fs x i W' (Hfs.out.later (hS.later hb).bel) hxb.1.1 hxb.1.2 (by omega) (by omega))
      have hci : canI L (Fst fs L) ks i k = canB L (Fst fs L) x i := canI_of hx
      have hgd : ks.getD k ⟨0, 0, 0⟩ = x := by simp [List.getD, hx]
      obtain ⟨wd, hwd⟩ : ∃ wd : Nat, x.w = wd := ⟨x.w.toNat, by omega⟩
      have htb : tieB ks Bh i k = (x.p + Bh (i + wd) == Bh i) := by unfold tieB; rw [hgd, hwd]; rfl
      have hpb : pB L (Fst fs L) ks Bh i k = (canB L (Fst fs L) x i && (x.p + Bh (i + wd) == Bh i)) := by unfold pB; rw [hci, htb]
      cases hcb : canB L (Fst fs L) x i with
      | false =>
        rw [hcb] at hcan
        rw [hcb, Bool.false_and] at hpb
        have HH := Lib.hid (hH.no hpb)
        have HS := Lib.hid hS
        clear hci hcb hgd hx hwd hxb htb hpb hH hS
        go_wp2_with fail
        refine dag 30 (by kernel_rfl) (by kernel_rfl) (.is ?_ :: .is ?_ :: .is ?_ :: .is ?_ :: .is ?_ :: .is ?_ :: .is ?_ :: .is ?_ :: .is ?_ :: .is ?_ :: .is ?_ :: .is ?_ :: .is ?_ :: .is ?_ :: .is ?_ :: .is ?_ :: .is ?_ :: .is ?_ :: .is ?_ :: .is ?_ :: .is ?_ :: .is ?_ :: .is ?_ :: .is ?_ :: .is ?_ :: .is ?_ :: .is ?_ :: .is ?_ :: .is ?_ :: .is ?_ :: []) rfl ?st1 ?ob1
        case st1 => simp [Spec.ok]
        case ob1 =>
            intro env W' hG
            obtain ⟨hc, hf⟩ := bcell hG
            iterate 6 (refine obls_is ?_ ?_; unfold doesAt; go_simp; (try go_bits); (first | (refine ⟨brefl _, ?_⟩; rfl) | rfl); intro K hK; go_simp; refine hK _ ?_; clear hK K)
            refine obls_is ?_ ?_
            · unfold doesAt
              go_simp
              refine (hcan.out W' hG).mono ?_
              rintro e w1 ⟨rfl, hb1⟩
              refine ⟨?_, hb1⟩
              rfl
            intro K hK
            go_simp
            refine hK _ ?_
            clear hK K
            repeat (refine obls_is ?_ ?_; unfold doesAt; go_simp; (try go_bits); (first | (refine ⟨brefl _, ?_⟩; rfl) | rfl); intro K hK; go_simp; refine hK _ ?_; clear hK K)
            refine obls_nil (fun _ => ?_)
            have HR2 := Lib.hid (HS.out.later hG)
            clear hc hf hG
            go_wp2
            refine hK2 _ _ k (by omega) ⟨rfl, k, _, rfl, by omega, HH.out, HR2.out, ?_⟩
            repeat (first | exact fits_nil | refine fits_none ?_ | refine fits_some ?_)
      | true =>
        rw [hcb] at hcan
        rw [hcb, Bool.true_and] at hpb
        have hle := (canB_iff.1 hcb).1
        rw [hwd] at hle q0 hcan
        obtain ⟨⟨w1', w2'⟩, ⟨p1, p2⟩, _⟩ := hxb
        have n1a := hS.num (j := i + wd) (by omega)
        have n1b := hS.num (j := i) (by omega)
        have z1 := hS.b1.lt
        obtain ⟨ea1, ea2⟩ := HBd.out (i + wd)
        have a0 : (0 : Int) ≤ (i : Int) + (wd : Int) := by omega
        have a1 : (i : Int) + (wd : Int) < (L : Int) + 1 := by omega
        have a2 : ((i : Int) + (wd : Int)).toNat = i + wd := by omega
        have a3 : (i : Int) < (L : Int) + 1 := by omega
        have a4 : IntKind.i64.wrap ((i : Int) + (wd : Int)) = (i : Int) + (wd : Int) := by rw [IntKind.wrap_i64]; omega
        have a5 : IntKind.i64.wrap (x.p + Bh (i + wd)) = x.p + Bh (i + wd) := by rw [IntKind.wrap_i64]; omega
        have a6 : (0 : Int) ≤ (i : Int) := by omega
        clear hci hcb hgd hx htb ea1 ea2
        cases htie : (x.p + Bh (i + wd) == Bh i) with
        | true =>
          rw [htie] at hpb
          have HH := Lib.hid (HeldB.yes (p := pB L (Fst fs L) ks Bh i) hlk hpb)
          have HS := Lib.hid hS
          clear hwd hpb hH hS
          go_wp2_with fail
          refine dag 30 (by kernel_rfl) (by kernel_rfl) (.is ?_ :: .is ?_ :: .is ?_ :: .is ?_ :: .is ?_ :: .is ?_ :: .is ?_ :: .is ?_ :: .is ?_ :: .is ?_ :: .is ?_ :: .is ?_ :: .is ?_ :: .is ?_ :: .is ?_ :: .is ?_ :: .is ?_ :: .is ?_ :: .is ?_ :: .is ?_ :: .is ?_ :: .is ?_ :: .is ?_ :: .is ?_ :: .is ?_ :: .is ?_ :: .is ?_ :: .is ?_ :: .is ?_ :: .is ?_ :: []) rfl ?st2 ?ob2
          case st2 => simp [Spec.ok]
          case ob2 =>
            intro env W' hG
            obtain ⟨hc, hf⟩ := bcell hG
            iterate 6 (refine obls_is ?_ ?_; unfold doesAt; go_simp; (try go_bits); (first | (refine ⟨brefl _, ?_⟩; rfl) | rfl); intro K hK; go_simp; refine hK _ ?_; clear hK K)
            refine obls_is ?_ ?_
            · unfold doesAt
              go_simp
              refine (hcan.out W' hG).mono ?_
              rintro e w1 ⟨rfl, hb1⟩
              refine ⟨?_, hb1⟩
              rfl
            intro K hK
            go_simp
            refine hK _ ?_
            clear hK K
            repeat (refine obls_is ?_ ?_; unfold doesAt; go_simp; (try go_bits); (first | (refine ⟨brefl _, ?_⟩; rfl) | rfl); intro K hK; go_simp; refine hK _ ?_; clear hK K)
            refine obls_nil (fun _ => ?_)
            have HR2 := Lib.hid (HS.out.later hG)
            clear hc hf hG
            go_wp2
            refine hK2 _ _ k (by omega) ⟨rfl, k, _, rfl, by omega, HH.out, HR2.out, ?_⟩
            repeat (first | exact fits_nil | refine fits_none ?_ | refine fits_some ?_)
        | false =>
          rw [htie] at hpb
          have HH := Lib.hid (hH.no hpb)
          have HS := Lib.hid hS
          clear hwd hpb hH hS
          go_wp2_with fail
          refine dag 30 (by kernel_rfl) (by kernel_rfl) (.is ?_ :: .is ?_ :: .is ?_ :: .is ?_ :: .is ?_ :: .is ?_ :: .is ?_ :: .is ?_ :: .is ?_ :: .is ?_ :: .is ?_ :: .is ?_ :: .is ?_ :: .is ?_ :: .is ?_ :: .is ?_ :: .is ?_ :: .is ?_ :: .is ?_ :: .is ?_ :: .is ?_ :: .is ?_ :: .is ?_ :: .is ?_ :: .is ?_ :: .is ?_ :: .is ?_ :: .is ?_ :: .is ?_ :: .is ?_ :: []) rfl ?st3 ?ob3
          case st3 => simp [Spec.ok]
          case ob3 =>
            intro env W' hG
            obtain ⟨hc, hf⟩ := bcell hG
            iterate 6 (refine obls_is ?_ ?_; unfold doesAt; go_simp; (try go_bits); (first | (refine ⟨brefl _, ?_⟩; rfl) | rfl); intro K hK; go_simp; refine hK _ ?_; clear hK K)
            refine obls_is ?_ ?_
            · unfold doesAt
              go_simp
              refine (hcan.out W' hG).mono ?_
              rintro e w1 ⟨rfl, hb1⟩
              refine ⟨?_, hb1⟩
              rfl
            intro K hK
            go_simp
            refine hK _ ?_
            clear hK K
            repeat (refine obls_is ?_ ?_; unfold doesAt; go_simp; (try go_bits); (first | (refine ⟨brefl _, ?_⟩; rfl) | rfl); intro K hK; go_simp; refine hK _ ?_; clear hK K)
            refine obls_nil (fun _ => ?_)
            have HR2 := Lib.hid (HS.out.later hG)
            clear hc hf hG
            go_wp2
            refine hK2 _ _ k (by omega) ⟨rfl, k, _, rfl, by omega, HH.out, HR2.out, ?_⟩
            repeat (first | exact fits_nil | refine fits_none ?_ | refine fits_some ?_)
    | zero =>
      have hks : ((0 : Nat) : Int) - 1 = -1 := by omega
      rw [hks]
      clear hks
      rcases hH with ⟨rfl, hno⟩ | ⟨j, rfl, _, hjK, hp, hmin⟩
      · have hfind : ((List.range ks.length).filter (canI L (Fst fs L) ks i)).find? (tieB ks Bh i) = none := find_none (fun j hj => hno j (Nat.zero_le _) hj)
        have hx2 : xs ++ firstAt L (Fst fs L) ks Bh (n - 1) (i + 1) = firstAt L (Fst fs L) ks Bh L 0 := by
          rw [← Hxs.out]
          conv => rhs; rw [show n = (n - 1) + 1 from by omega]
          rw [firstAt, if_pos hlt, hfind]
        have Hx2 := Lib.hid hx2
        have HS := Lib.hid hS
        have i3 : IntKind.i64.wrap ((i : Int) + 1) = (i : Int) + 1 := by rw [IntKind.wrap_i64]; omega
        clear hx2 hfind hno hS hK2
        go_wp2
        refine hK _ _ (n - 1) (by omega) ⟨rfl, i + 1, v, xs, by omega, by omega, Hx2.out, HS.out, ?_⟩
        repeat (first | exact fits_nil | refine fits_none ?_ | refine fits_some ?_)
      · obtain ⟨kb, ko, x, rfl, _, hx, _, _, _⟩ := Hks.out.ltK hjK
        have hfind : ((List.range ks.length).filter (canI L (Fst fs L) ks i)).find? (tieB ks Bh i) = some j := find_some hjK hp (fun j' hj' => hmin j' (Nat.zero_le _) hj')
        have hgd : ks.getD j ⟨0, 0, 0⟩ = x := by simp [List.getD, hx]
        have hxb := Hk.out.bd hx
        have hcb : canB L (Fst fs L) x i = true := by
          have h1 := hp
          unfold pB at h1
          rw [canI_of hx] at h1
          simp only [Bool.and_eq_true] at h1
          exact h1.1
        have hle := (canB_iff.1 hcb).1
        obtain ⟨wd, hwd⟩ : ∃ wd : Nat, x.w = wd := ⟨x.w.toNat, by omega⟩
        have hx2 : (xs ++ [⟨i, j⟩]) ++ firstAt L (Fst fs L) ks Bh (n - 1) (i + wd) = firstAt L (Fst fs L) ks Bh L 0 := by
          rw [← Hxs.out]
          conv => rhs; rw [show n = (n - 1) + 1 from by omega]
          rw [firstAt, if_pos hlt, hfind]
          simp [List.getD, hx, hwd]
        have Hx2 := Lib.hid hx2
        have hxl : xs.length ≤ 24 := by
          have h1 := congrArg List.length Hxs.out
          have h2 := firstAt_len (L := L) (F := Fst fs L) (ks := ks) (Bh := Bh) L 0
          simp at h1
          omega
        have hjl : (j : Int) < (ks.length : Int) := by omega
        have j0 : (0 : Int) ≤ (j : Int) := by omega
        have j1 : decide ((j : Int) < 0) = false := by simp
        have Hx := Lib.hid hx
        have Hwd := Lib.hid hwd
        have HS := Lib.hid hS
        obtain ⟨i0, hi0, hz0, hz1, hz2⟩ := info_parts info_sheet
        have zbel := hS.bel.size
        rw [hwd] at hle
        have hwd1 : 1 ≤ wd := by have := hxb.1.1; omega
        have i3 : IntKind.i64.wrap ((i : Int) + (wd : Int)) = (i : Int) + (wd : Int) := by rw [IntKind.wrap_i64]; omega
        clear hx2 hfind hmin hS hK2 hx hgd hxb hcb hwd hp
        have hSO := HS.out.later (balloc (brefl W) (.cells #[.int .i64 i, .int .i64 j] 56))
        have HSO := Lib.hid hSO
        clear hSO
        have Hfin := Lib.hid (show ∀ (v' : Value) (W3 : World), W3.ownsRow w.heap.size 56 2 v' (xs.length + 1) (xs.flatMap encS ++ encS ⟨i, j⟩) → (W.alloc (.cells #[.int .i64 i, .int .i64 j] 56)).grownBy W3 v.ownBlock →
            W3.cell? ⟨kb, ko + j * 3, none⟩ = some (.int .i64 wd) ∧ kb < W3.heap.size ∧ FW w W3 L FA fn fc g1 Bh v' (xs ++ [⟨i, j⟩]) by
          intro v' W3 hown' hgr
          have hS3 := HSO.out.grown ⟨i, j⟩ hgr hown'
          obtain ⟨kb', ko', x', hA', hkb', hx', q0, _, _⟩ := (Hks.out.later hS3.bel).ltK hjK
          cases hA'
          rw [Hx.out] at hx'
          cases hx'
          rw [Hwd.out] at q0
          exact ⟨q0, hkb', hS3⟩)
        go_wp2_with (at_builtin; refine wpList_append_own _ rfl _ _ 26 rfl w.heap.size 56 i0 (.agg #[.int .i64 0, .int .i64 0]) 2 16 und_sheets hi0 hz0 hz1 hz2 rfl (by decide) v xs.length _ rfl HSO.out.own ⟨W.heap.size, 0, none⟩ 1 1 [.int .i64 i, .int .i64 j] rfl rfl (two_new _ _ _ _) (by simp [Value.oneCell']) (by simp only [maxLen]; omega) (by omega) (by have := HSO.out.bel.size; omega) ?_; intro v' W3 hown' hgr _; obtain ⟨q0, zk, hS3⟩ := Hfin.out v' W3 hown' hgr)
        have HS3 := Lib.hid hS3
        clear hS3
        refine hK _ _ (n - 1) (by omega) ⟨rfl, i + wd, v', xs ++ [⟨i, j⟩], by omega, by omega, Hx2.out, HS3.out, ?_⟩
        repeat (first | exact fits_nil | refine fits_none ?_ | refine fits_some ?_)
  · obtain rfl : L = i := by omega
    have hx : xs = firstAt L (Fst fs L) ks Bh L 0 := by
      rw [← Hxs.out]
      cases n with
      | zero => simp [firstAt]
      | succ n => simp [firstAt]
    have Hx := Lib.hid hx
    clear hx hK
    go_wp2
    go_ret2
    refine ⟨v, rfl, HS.out.bel, ?_⟩
    rw [← Hx.out]
    exact HS.out.own
end Go.Proofs.Ytjmphmnimnbgkaa
