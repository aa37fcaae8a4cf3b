/- The document's answer: whether a ribbon, and kinds, are valid. -/
import Derived.Test.YtjmphmnimnbgkaaRef
namespace Go.Proofs.Ytjmphmnimnbgkaa
open Go.RowKit Go.Shelf

structure KB (w W : World) (A : Option Addr) (c : Nat) (ks : List Kd) : Prop where
  bel : Below w.heap.size w W
  sl : Sl 3 encK W W.heap.size A ks.length c ks
theorem KB.later {w W W' : World} {A : Option Addr} {c : Nat} {ks : List Kd} (h : KB w W A c ks) (hb : Below W.heap.size W W') : KB w W' A c ks := ⟨Below.later h.bel hb, h.sl.later hb⟩

set_option maxRecDepth 100000 in
set_option maxHeartbeats 1000000 in
theorem refKinds_any (A : Option Addr) (c : Nat) (ks : List Kd) (w : World) (hs : Sl 3 encK w w.heap.size A ks.length c ks) :
    Calls Try.prog 23 #[.slice A ks.length c] w fun e w' => e = .returned (.int .i64 (kndE ks)) ∧ Below w.heap.size w w' := by
  have hcap := hs.cap
  have hbig := hs.big
  have Hs := Lib.hid hs
  clear hs
  by_cases h1 : (ks.length : Int) < 1
  · have d1 : decide ((ks.length : Int) < 1) = true := by simpa using h1
    have HE := Lib.hid (kndE_len (ks := ks) ((inR_no _ _ _).2 (.inl h1)))
    go_enter Try.func23, Try.ntmps23
    go_wp2
    go_ret
    exact ⟨ret_int HE.out.symm, brefl _⟩
  · by_cases h2 : (6 : Int) < (ks.length : Int)
    · have d1 : decide ((ks.length : Int) < 1) = false := by simpa using h1
      have d2 : decide ((6 : Int) < (ks.length : Int)) = true := by simpa using h2
      have HE := Lib.hid (kndE_len (ks := ks) ((inR_no _ _ _).2 (.inr h2)))
      go_enter Try.func23, Try.ntmps23
      go_wp2
      go_ret
      exact ⟨ret_int HE.out.symm, brefl _⟩
    · have d1 : decide ((ks.length : Int) < 1) = false := by simpa using h1
      have d2 : decide ((6 : Int) < (ks.length : Int)) = false := by simpa using h2
      have HE := Lib.hid (kndE_of (ks := ks) ((inR_iff _ _ _).2 ⟨by omega, by omega⟩))
      go_enter Try.func23, Try.ntmps23
      go_wp2_with fail
      clear d1 d2
      refine loop_n (fun n a W => a.defers = [] ∧ ∃ i : Nat, i + n = ks.length ∧ KB w W A c ks ∧ (∀ j x, j < i → ks[j]? = some x → badK x = false) ∧ Fits (some (.slice A ks.length c) :: none :: none :: some (.int .i64 (i : Nat)) :: none :: none :: none :: none :: none :: none :: none :: none :: none :: none :: none :: none :: none :: none :: none :: none :: none :: none :: none :: none :: none :: none :: none :: none :: none :: none :: none :: none :: none :: none :: none :: none :: none :: none :: none :: none :: none :: none :: none :: none :: none :: none :: none :: none :: none :: none :: none :: []) a.tmps.toList) ks.length ?_ ?_
      · refine ⟨rfl, 0, by omega, ⟨brefl _, Hs.out⟩, fun j x hj => by omega, ?_⟩
        repeat (first | exact fits_nil | refine fits_none ?_ | refine fits_some ?_)
      clear Hs
      intro n a W hI K hK
      obtain ⟨hds, i, hin, hB, hno, hfit⟩ := hI
      obtain ⟨f, hf⟩ := fits_act hfit
      rw [hds] at hf
      subst hf
      clear hfit hds
      simp only [fillP, Nat.reduceAdd]
      by_cases hlt : i < ks.length
      · obtain ⟨b, o, x, rfl, hb, hx, g0, g1, g2⟩ := hB.sl.ltK hlt
        have i1 : (i : Int) < (ks.length : Int) := by omega
        have HB := Lib.hid (hB.later (balloc (brefl W) (.cells #[.int .i64 x.w, .int .i64 x.p, .int .i64 x.m] 67)))
        clear hB
        have hE3 : badK x = true → kndE ks = 3 := fun h => by rw [HE.out, if_pos (List.any_eq_true.2 ⟨x, List.mem_of_getElem? hx, h⟩)]
        have HE3 := Lib.hid hE3
        clear hE3
        by_cases q1 : x.w < 1
        · have e1 : decide (x.w < 1) = true := by simpa using q1
          have HR := Lib.hid (HE3.out (badK_of1 ((inR_no _ _ _).2 (.inl q1))))
          clear hK hno hx
          go_wp2
          go_ret
          exact ⟨ret_int HR.out.symm, HB.out.bel⟩
        have e1 : decide (x.w < 1) = false := by simpa using q1
        by_cases q2 : 24 < x.w
        · have e2 : decide (24 < x.w) = true := by simpa using q2
          have HR := Lib.hid (HE3.out (badK_of1 ((inR_no _ _ _).2 (.inr q2))))
          clear hK hno hx
          go_wp2
          go_ret
          exact ⟨ret_int HR.out.symm, HB.out.bel⟩
        have e2 : decide (24 < x.w) = false := by simpa using q2
        by_cases q3 : x.p < 1
        · have e3 : decide (x.p < 1) = true := by simpa using q3
          have HR := Lib.hid (HE3.out (badK_of2 q3))
          clear hK hno hx
          go_wp2
          go_ret
          exact ⟨ret_int HR.out.symm, HB.out.bel⟩
        have e3 : decide (x.p < 1) = false := by simpa using q3
        by_cases q4 : 1000 < x.p
        · have e4 : decide (1000 < x.p) = true := by simpa using q4
          have HR := Lib.hid (HE3.out (badK_of3 q4))
          clear hK hno hx
          go_wp2
          go_ret
          exact ⟨ret_int HR.out.symm, HB.out.bel⟩
        have e4 : decide (1000 < x.p) = false := by simpa using q4
        by_cases q5 : x.m < 0
        · have e5 : decide (x.m < 0) = true := by simpa using q5
          have HR := Lib.hid (HE3.out (badK_of4 ((inR_no _ _ _).2 (.inl q5))))
          clear hK hno hx
          go_wp2
          go_ret
          exact ⟨ret_int HR.out.symm, HB.out.bel⟩
        have e5 : decide (x.m < 0) = false := by simpa using q5
        by_cases q6 : 24 < x.m
        · have e6 : decide (24 < x.m) = true := by simpa using q6
          have HR := Lib.hid (HE3.out (badK_of4 ((inR_no _ _ _).2 (.inr q6))))
          clear hK hno hx
          go_wp2
          go_ret
          exact ⟨ret_int HR.out.symm, HB.out.bel⟩
        have e6 : decide (24 < x.m) = false := by simpa using q6
        have hgood : badK x = false := by
          rw [badK_iff]
          omega
        have Hno := Lib.hid (show ∀ j y, j < i + 1 → ks[j]? = some y → badK y = false from fun j y hj hy => by
          by_cases e : j = i
          · subst e; rw [hx] at hy; cases hy; exact hgood
          · exact hno j y (by omega) hy)
        clear hno hx hgood
        go_wp2
        refine hK _ _ (n - 1) (by omega) ⟨rfl, i + 1, by omega, HB.out, Hno.out, ?_⟩
        repeat (first | exact fits_nil | refine fits_none ?_ | refine fits_some ?_)
      · obtain rfl : i = ks.length := by omega
        have HR := Lib.hid (show kndE ks = 0 by
          rw [HE.out]
          cases hq : ks.any badK with
          | false => rfl
          | true =>
            obtain ⟨x, hx, hbx⟩ := List.any_eq_true.1 hq
            obtain ⟨j, hj⟩ := List.getElem?_of_mem hx
            rw [hno j x (List.getElem?_eq_some_iff.1 hj).1 hj] at hbx
            cases hbx)
        have HB := Lib.hid hB
        clear hno hK hB
        go_wp2
        go_ret
        exact ⟨ret_int HR.out.symm, HB.out.bel⟩
end Go.Proofs.Ytjmphmnimnbgkaa
