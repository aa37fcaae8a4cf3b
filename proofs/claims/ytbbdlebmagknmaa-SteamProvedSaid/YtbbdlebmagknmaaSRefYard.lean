/- The document's isWindow. -/
import Derived.Test.YtbbdlebmagknmaaSYard
namespace Go.Proofs.Ytbbdlebmagknmaa
open Go.RowKit Go.Shelf

theorem win_alt (r : Rg) : winB r = (decide (0 ≤ r.lo) && decide (r.lo ≤ r.hi) && decide (r.hi ≤ 100)) := by
  unfold winB
  rw [Bool.eq_iff_iff]
  simp only [Bool.and_eq_true, inR_iff, decide_eq_true_eq]
  omega
set_option maxHeartbeats 1000000 in
theorem refWindow_any (r : Rg) (w : World) :
    Calls Try.prog 59 #[.agg #[.int .i64 r.lo, .int .i64 r.hi]] w fun e w' => e = .returned (.bool (winB r)) ∧ Below w.heap.size w w' := by
  have HB := Lib.hid (balloc (brefl w) (.cells #[.int .i64 r.lo, .int .i64 r.hi] 27))
  have HE := Lib.hid (win_alt r)
  obtain ⟨a, b⟩ := r
  simp only at HB HE ⊢
  cases h1 : decide (0 ≤ a)
  all_goals
    cases h2 : decide (a ≤ b)
    all_goals
      cases h3 : decide (b ≤ 100)
      all_goals
        rw [h1, h2, h3] at HE
        go_enter Try.func59, Try.ntmps59
        go_wp2
        go_ret
        exact ⟨ret_bool (by rw [HE.out]; rfl), HB.out⟩
/-- A yard's box stands. -/
structure YB (w W : World) (L : Int) (A : Option Addr) (n c : Nat) : Prop where
  bel : Below w.heap.size w W
  b0 : Blk W w.heap.size 24 #[.int .i64 L, .slice A n c]
theorem YB.later {w W W' : World} {L : Int} {A : Option Addr} {n c : Nat} (h : YB w W L A n c) (hb : Below W.heap.size W W') : YB w W' L A n c := ⟨Below.later h.bel hb, h.b0.later hb⟩
set_option maxRecDepth 100000 in
set_option maxHeartbeats 1000000 in
theorem refYard_any (L : Int) (A : Option Addr) (n c : Nat) (rs : List Rg) (w : World) (hs : Sl 2 encR w w.heap.size A n c rs) :
    Calls Try.prog 24 #[.agg #[.int .i64 L, .slice A n c]] w fun e w' => e = .returned (.int .i64 (yardE L rs)) ∧ Below w.heap.size w w' := by
  obtain rfl := hs.len
  have Hs := Lib.hid hs
  have HY := Lib.hid (show YB w (w.alloc (.cells #[.int .i64 L, .slice A rs.length c] 24)) L A rs.length c from ⟨balloc (brefl w) _, Blk.new w _ _⟩)
  have HB := Lib.hid HY.out.bel
  clear hs
  by_cases h1 : L < 1
  · have d1 : decide (L < 1) = true := by simpa using h1
    have HE := Lib.hid (show yardE L rs = 3 by unfold yardE; rw [(inR_no 1 10 L).2 (.inl h1)]; rfl)
    clear h1
    go_enter Try.func24, Try.ntmps24
    go_wp2
    go_ret
    exact ⟨ret_int HE.out.symm, HB.out⟩
  have d1 : decide (L < 1) = false := by simpa using h1
  by_cases h2 : 10 < L
  · have d2 : decide (10 < L) = true := by simpa using h2
    have HE := Lib.hid (show yardE L rs = 3 by unfold yardE; rw [(inR_no 1 10 L).2 (.inr h2)]; rfl)
    clear h1 h2
    go_enter Try.func24, Try.ntmps24
    go_wp2
    go_ret
    exact ⟨ret_int HE.out.symm, HB.out⟩
  have d2 : decide (10 < L) = false := by simpa using h2
  have hin : inR 1 10 L = true := (inR_iff _ _ _).2 ⟨by omega, by omega⟩
  by_cases h3 : (10 : Int) < (rs.length : Int)
  · have d3 : decide ((10 : Int) < (rs.length : Int)) = true := by simpa using h3
    have HE := Lib.hid (show yardE L rs = 6 by unfold yardE; rw [hin, if_pos rfl, if_pos h3])
    clear h1 h2 h3 hin
    go_enter Try.func24, Try.ntmps24
    go_wp2
    go_ret
    exact ⟨ret_int HE.out.symm, HB.out⟩
  have d3 : decide ((10 : Int) < (rs.length : Int)) = false := by simpa using h3
  have HE := Lib.hid (show yardE L rs = if rs.any badR then 3 else 0 by unfold yardE; rw [hin, if_pos rfl, if_neg h3])
  have hn10 : rs.length ≤ 10 := by omega
  clear h1 h2 h3 hin
  go_enter Try.func24, Try.ntmps24
  go_wp2_with fail
  clear d1 d2 d3
  refine loop_n (fun m b W => b.defers = [] ∧ ∃ i : Nat, i + m = rs.length ∧ YB w W L A rs.length c ∧ (∀ j x, j < i → rs[j]? = some x → badR x = false) ∧ Fits (none :: some (.pointer (some ⟨w.heap.size, 0, none⟩)) :: none :: some (.int .i64 (i : Nat)) :: none :: none :: none :: none :: none :: none :: none :: none :: none :: none :: none :: none :: none :: none :: none :: none :: none :: none :: none :: none :: none :: none :: none :: none :: none :: none :: []) b.tmps.toList) rs.length ?_ ?_
  · refine ⟨rfl, 0, by omega, HY.out, fun j x hj => by omega, ?_⟩
    repeat (first | exact fits_nil | refine fits_none ?_ | refine fits_some ?_)
  clear HY HB
  intro m b W hI K hK
  obtain ⟨hds, i, him, hY, hno, hfit⟩ := hI
  obtain ⟨g, hg⟩ := fits_act hfit
  rw [hds] at hg
  subst hg
  clear hfit hds
  simp only [fillP, Nat.reduceAdd]
  have c0 := hY.b0.cell 0
  have c1 := hY.b0.cell 1
  have c2 := hY.b0.lt
  have HY := Lib.hid hY
  by_cases hlt : i < rs.length
  · obtain ⟨rb, ro, x, rfl, hrb, hx, g0, g1⟩ := (Hs.out.later hY.bel).ltR hlt
    have i1 : (i : Int) < (rs.length : Int) := by omega
    have i2 : (0 : Int) ≤ (i : Int) := by omega
    have i3 : IntKind.i64.wrap ((i : Int) + 1) = (i : Int) + 1 := by rw [IntKind.wrap_i64]; omega
    have hsucc := fun h => no_succ hno hx h
    have hbad : badR x = true → yardE L rs = 3 := fun h => by rw [HE.out, if_pos (List.any_eq_true.2 ⟨x, List.mem_of_getElem? hx, h⟩)]
    have Hsucc := Lib.hid hsucc
    have Hbad := Lib.hid hbad
    clear hY hno hx hsucc hbad
    go_wp2_with fail
    refine (refWindow_any x _).mono ?_
    rintro e w2 ⟨rfl, hb2⟩
    have HY2 := Lib.hid (HY.out.later hb2)
    clear hb2
    cases hw : winB x with
    | true =>
      have HN := Lib.hid (Hsucc.out (by unfold badR; rw [hw]; rfl))
      clear hw
      go_wp2
      refine hK _ _ (m - 1) (by omega) ⟨rfl, i + 1, by omega, HY2.out, HN.out, ?_⟩
      repeat (first | exact fits_nil | refine fits_none ?_ | refine fits_some ?_)
    | false =>
      have HR := Lib.hid (Hbad.out (by unfold badR; rw [hw]; rfl))
      clear hw hK
      go_wp2
      go_ret
      exact ⟨ret_int HR.out.symm, HY2.out.bel⟩
  · obtain rfl : i = rs.length := by omega
    have HR := Lib.hid (show yardE L rs = 0 by
      rw [HE.out, if_neg]
      intro ha
      obtain ⟨x, hx, hb⟩ := List.any_eq_true.1 ha
      obtain ⟨j, hj⟩ := List.getElem?_of_mem hx
      rw [hno j x (List.getElem?_eq_some_iff.1 hj).1 hj] at hb
      cases hb)
    clear hY hno hK
    go_wp2
    go_ret
    exact ⟨ret_int HR.out.symm, HY.out.bel⟩
end Go.Proofs.Ytbbdlebmagknmaa
