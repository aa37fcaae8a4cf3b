/- Whether two lists of sheets are equal. -/
import Derived.Test.YtjmphmnimnbgkaaLitSheets
namespace Go.Proofs.Ytjmphmnimnbgkaa
open Go.RowKit Go.Shelf

structure SE (w W : World) (A : Option Addr) (n c : Nat) (xs : List Sh) (B : Option Addr) (d : Nat) (ys : List Sh) : Prop where
  bel : Below w.heap.size w W
  s1 : Sl 2 encS W W.heap.size A n c xs
  s2 : Sl 2 encS W W.heap.size B n d ys
theorem SE.later {w W W' : World} {A : Option Addr} {n c : Nat} {xs : List Sh} {B : Option Addr} {d : Nat} {ys : List Sh} (h : SE w W A n c xs B d ys) (hb : Below W.heap.size W W') : SE w W' A n c xs B d ys := ⟨Below.later h.bel hb, h.s1.later hb, h.s2.later hb⟩

set_option maxRecDepth 100000 in
set_option maxHeartbeats 2000000 in
theorem sheetsEq_any (A : Option Addr) (n c : Nat) (xs : List Sh) (B : Option Addr) (m d : Nat) (ys : List Sh) (w : World) (h1 : Sl 2 encS w w.heap.size A n c xs) (h2 : Sl 2 encS w w.heap.size B m d ys) :
    Calls Try.prog 30 #[.slice A n c, .slice B m d] w fun e w' => e = .returned (.bool (decide (xs = ys))) ∧ Below w.heap.size w w' := by
  have hl1 := h1.len
  have hc1 := h1.cap
  have hb1 := h1.big
  have hl2 := h2.len
  have hc2 := h2.cap
  have hb2 := h2.big
  by_cases hnm : n = m
  case neg =>
    have hd : ((n : Int) != (m : Int)) = true := by simp; omega
    have HE := Lib.hid (show decide (xs = ys) = false by
      rw [decide_eq_false_iff_not]
      intro e
      rw [e] at hl1
      omega)
    clear h1 h2 hnm hl1 hl2
    go_enter Try.func30, Try.ntmps30
    go_wp2
    go_ret
    exact ⟨ret_bool HE.out.symm, brefl _⟩
  subst hnm
  have hd : ((n : Int) != (n : Int)) = false := by simp
  have HS := Lib.hid (show SE w w A n c xs B d ys from ⟨brefl _, h1, h2⟩)
  have Hl1 := Lib.hid hl1
  have Hl2 := Lib.hid hl2
  clear h1 h2 hl1 hl2
  go_enter Try.func30, Try.ntmps30
  go_wp2_with fail
  clear hd
  refine loop_n (fun k a W => a.defers = [] ∧ ∃ i : Nat, i + k = n ∧ SE w W A n c xs B d ys ∧ (∀ j, j < i → xs[j]? = ys[j]?) ∧ Fits (some (.slice A n c) :: some (.slice B n d) :: none :: none :: none :: some (.int .i64 (i : Nat)) :: none :: none :: none :: none :: none :: none :: none :: none :: none :: none :: none :: none :: none :: none :: none :: none :: none :: none :: none :: none :: []) a.tmps.toList) n ?_ ?_
  · refine ⟨rfl, 0, by omega, HS.out, fun j hj => by omega, ?_⟩
    repeat (first | exact fits_nil | refine fits_none ?_ | refine fits_some ?_)
  clear HS
  intro k a W hI K hK'
  obtain ⟨hds, i, hik, hS, hno, hfit⟩ := hI
  obtain ⟨f, hf⟩ := fits_act hfit
  rw [hds] at hf
  subst hf
  clear hfit hds
  simp only [fillP, Nat.reduceAdd]
  by_cases hlt : i < n
  · obtain ⟨b1, o1, x, rfl, hb1', hx, g0, g1⟩ := hS.s1.ltS hlt
    obtain ⟨b2, o2, y, rfl, hb2', hy, g2, g3⟩ := hS.s2.ltS hlt
    have i1 : (i : Int) < (n : Int) := by omega
    have i2 : (0 : Int) ≤ (i : Int) := by omega
    have HS := Lib.hid hS
    by_cases hxy : x = y
    · subst hxy
      have Hno := Lib.hid (show ∀ j, j < i + 1 → xs[j]? = ys[j]? from fun j hj => by
        by_cases e : j = i
        · subst e; rw [hx, hy]
        · exact hno j (by omega))
      clear hno hx hy hS
      go_wp2_with fail
      refine dag 9 (by kernel_rfl) (by kernel_rfl) (.is ?_ :: .is ?_ :: .is ?_ :: .is ?_ :: .is ?_ :: .is ?_ :: .is ?_ :: .is ?_ :: .is ?_ :: []) rfl ?st1 ?ob1
      case st1 => simp [Spec.ok]
      case ob1 =>
        intro env W' hG
        obtain ⟨hc, hf⟩ := bcell hG
        repeat (refine obls_is ?_ ?_; unfold doesAt; go_simp; (try go_bits); (first | (refine ⟨brefl _, ?_⟩; rfl) | rfl); intro K hK; go_simp; refine hK _ ?_; clear hK K)
        refine obls_nil (fun _ => ?_)
        have HS2 := Lib.hid (HS.out.later hG)
        clear hc hf hG g0 g1 g2 g3
        go_wp2
        refine hK' _ _ (k - 1) (by omega) ⟨rfl, i + 1, by omega, HS2.out, Hno.out, ?_⟩
        repeat (first | exact fits_nil | refine fits_none ?_ | refine fits_some ?_)
    · have HE := Lib.hid (show decide (xs = ys) = false by
        rw [decide_eq_false_iff_not]
        intro e
        subst e
        rw [hx] at hy
        cases hy
        exact hxy rfl)
      have hne : (x.f == y.f && x.k == y.k) = false := by
        rw [Bool.and_eq_false_iff]
        by_cases e1 : x.f = y.f
        · right
          simp only [beq_eq_false_iff_ne, ne_eq]
          intro e2
          apply hxy
          cases x; cases y; simp_all
        · left; simpa using e1
      have hq : ∀ W, (binOp .neq 56 (.agg #[.int .i64 x.f, .int .i64 x.k]) (.agg #[.int .i64 y.f, .int .i64 y.k])).run Try.prog W = .ok (.bool true) W := by
        intro W
        rw [Bool.and_eq_false_iff] at hne
        rcases hne with h | h <;> (cases h3 : (x.f == y.f) <;> simp [go_sem, h, h3])
      clear hno hx hy hS hK' hne hxy
      go_wp2_with fail
      refine dag 9 (by kernel_rfl) (by kernel_rfl) (.is ?_ :: .is ?_ :: .is ?_ :: .is ?_ :: .is ?_ :: .is ?_ :: .is ?_ :: .is ?_ :: .is ?_ :: []) rfl ?st2 ?ob2
      case st2 => simp [Spec.ok]
      case ob2 =>
        intro env W' hG
        obtain ⟨hc, hf⟩ := bcell hG
        repeat (refine obls_is ?_ ?_; unfold doesAt; go_simp; (try go_bits); (first | (refine ⟨brefl _, ?_⟩; rfl) | rfl); intro K hK; go_simp; refine hK _ ?_; clear hK K)
        refine obls_nil (fun _ => ?_)
        have HS2 := Lib.hid (HS.out.later hG)
        clear hc hf hG g0 g1 g2 g3
        go_wp2
        go_ret
        exact ⟨ret_bool HE.out.symm, HS2.out.bel⟩
  · obtain rfl : i = n := by omega
    have HE := Lib.hid (show decide (xs = ys) = true by
      rw [decide_eq_true_eq]
      apply List.ext_getElem?
      intro j
      by_cases hj : j < i
      · exact hno j hj
      · rw [List.getElem?_eq_none (by rw [Hl1.out]; omega), List.getElem?_eq_none (by rw [Hl2.out]; omega)])
    have HS := Lib.hid hS
    clear hno hK' hS
    go_wp2
    go_ret
    exact ⟨ret_bool HE.out.symm, HS.out.bel⟩
end Go.Proofs.Ytjmphmnimnbgkaa
