/- The document's CheckShop. -/
import Derived.Test.YtmfiggbobaihcaaGCheck
namespace Go.Proofs.Ytmfiggbobaihcaa
open Go.RowKit Go.Shelf

theorem shopE_many {S P : List Int} {O : List Od} (h : (S.length : Int) < 1 ∨ (5 : Int) < S.length ∨ (8 : Int) < O.length) : shopE S P O = 6 := by
  unfold shopE
  rw [if_pos]
  rw [Bool.or_eq_true, Bool.not_eq_true', inR_no, decide_eq_true_eq]
  omega
theorem shopE_equal {S P : List Int} {O : List Od} (h : ¬ ((S.length : Int) < 1 ∨ (5 : Int) < S.length ∨ (8 : Int) < O.length)) (hn : P.length ≠ S.length) : shopE S P O = 15 := by
  unfold shopE
  rw [if_neg, if_pos hn]
  rw [Bool.or_eq_true, Bool.not_eq_true', inR_no, decide_eq_true_eq]
  omega
theorem shopE_in {S P : List Int} {O : List Od} (h : ¬ ((S.length : Int) < 1 ∨ (5 : Int) < S.length ∨ (8 : Int) < O.length)) (hn : P.length = S.length) :
    shopE S P O = if S.any (outR 0 50) || P.any (outR 0 100) || O.any (strayB S.length) then 3 else if riseB P then 16 else 0 := by
  unfold shopE
  rw [if_neg, if_neg (fun h => h hn)]
  rw [Bool.or_eq_true, Bool.not_eq_true', inR_no, decide_eq_true_eq]
  omega
theorem out_bad {lo hi x : Int} (h : x < lo ∨ hi < x) : outR lo hi x = true := by rw [outR_eq, outB, Bool.or_eq_true, decide_eq_true_eq, decide_eq_true_eq]; exact h
theorem out_fine {lo hi x : Int} (h1 : decide (x < lo) = false) (h2 : decide (hi < x) = false) : outR lo hi x = false := by rw [outR_eq, outB, h1, h2]; rfl
theorem any_no {α : Type} {p : α → Bool} {l : List α} (h : ∀ j x, j < l.length → l[j]? = some x → p x = false) : l.any p = false := by
  rw [Bool.eq_false_iff]
  intro ha
  obtain ⟨x, hx, hb⟩ := List.any_eq_true.1 ha
  obtain ⟨j, hj⟩ := List.getElem?_of_mem hx
  rw [h j x (List.getElem?_eq_some_iff.1 hj).1 hj] at hb
  cases hb
theorem stray_bad {n : Nat} {o : Od} (h : o.g < 0 ∨ (n : Int) ≤ o.g ∨ o.m < 0 ∨ 20 < o.m) : strayB n o = true := by
  unfold strayB
  rw [Bool.or_eq_true, Bool.not_eq_true', Bool.not_eq_true', inR_no, inR_no]
  omega
theorem stray_fine {n : Nat} {o : Od} (h1 : decide (o.g < 0) = false) (h2 : decide ((n : Int) ≤ o.g) = false) (h3 : decide (o.m < 0) = false) (h4 : decide (20 < o.m) = false) : strayB n o = false := by
  have a1 := of_decide_eq_false h1
  have a2 := of_decide_eq_false h2
  have a3 := of_decide_eq_false h3
  have a4 := of_decide_eq_false h4
  unfold strayB
  rw [(inR_iff _ _ _).2 ⟨by omega, by omega⟩, (inR_iff _ _ _).2 ⟨by omega, by omega⟩]
  rfl
set_option maxHeartbeats 4000000 in
theorem refShop_any (SA : Option Addr) (sn sc : Nat) (PA : Option Addr) (pn pc : Nat) (OA : Option Addr) (on oc : Nat) (S P : List Int) (O : List Od) (w : World) (hs : ShopIn w w.heap.size SA sn sc PA pn pc OA on oc S P O) :
    Calls Try.prog 26 #[.agg #[.slice SA sn sc, .slice PA pn pc, .slice OA on oc]] w fun e w' => e = .returned (.int .i64 (shopE S P O)) ∧ Below w.heap.size w w' := by
  obtain rfl := hs.stk.len
  obtain rfl := hs.prc.len
  obtain rfl := hs.ord.len
  have HG0 := Lib.hid (GW.start hs)
  obtain ⟨g0, g1, g2, g3⟩ := HG0.out.cells
  clear hs
  cases h1 : decide ((S.length : Int) < 1) with
  | true =>
    have HE := Lib.hid (shopE_many (P := P) (.inl (of_decide_eq_true h1)) : shopE S P O = 6)
    go_enter Try.func26, Try.ntmps26
    go_wp2
    go_ret
    exact ⟨ret_int HE.out.symm, HG0.out.bel⟩
  | false =>
  cases h2 : decide ((5 : Int) < (S.length : Int)) with
  | true =>
    have HE := Lib.hid (shopE_many (P := P) (.inr (.inl (of_decide_eq_true h2))) : shopE S P O = 6)
    go_enter Try.func26, Try.ntmps26
    go_wp2
    go_ret
    exact ⟨ret_int HE.out.symm, HG0.out.bel⟩
  | false =>
  cases h3 : decide ((8 : Int) < (O.length : Int)) with
  | true =>
    have HE := Lib.hid (shopE_many (P := P) (.inr (.inr (of_decide_eq_true h3))) : shopE S P O = 6)
    go_enter Try.func26, Try.ntmps26
    go_wp2
    go_ret
    exact ⟨ret_int HE.out.symm, HG0.out.bel⟩
  | false =>
  have h0 : ¬ ((S.length : Int) < 1 ∨ (5 : Int) < S.length ∨ (8 : Int) < O.length) := fun h => by
    have a1 := of_decide_eq_false h1
    have a2 := of_decide_eq_false h2
    have a3 := of_decide_eq_false h3
    omega
  have Hlen := Lib.hid h0
  clear h0
  by_cases hn : P.length = S.length
  case neg =>
    have dn : ((P.length : Int) == (S.length : Int)) = false := by simp; omega
    have dn2 : ¬ P.length = S.length := hn
    have HE := Lib.hid (shopE_equal Hlen.out hn : shopE S P O = 15)
    clear hn
    go_enter Try.func26, Try.ntmps26
    go_wp2
    go_ret
    exact ⟨ret_int HE.out.symm, HG0.out.bel⟩
  case pos =>
  have dn : ((P.length : Int) == (S.length : Int)) = true := by simp; omega
  have HE := Lib.hid (shopE_in Hlen.out hn)
  have Hn := Lib.hid hn
  clear hn
  go_enter Try.func26, Try.ntmps26
  go_wp2_with fail
  clear dn h1 h2 h3
  refine loop_n (fun m b W => b.defers = [] ∧ ∃ i : Nat, i + m = S.length ∧ Hid (GW w W w.heap.size SA S.length sc PA P.length pc OA O.length oc S P O) ∧ Hid ((∀ j x, j < i → S[j]? = some x → outR 0 50 x = false) ∧ ∀ j x, j < i → P[j]? = some x → outR 0 100 x = false) ∧ Fits (none :: some (.pointer (some ⟨w.heap.size, 0, none⟩)) :: none :: some (.int .i64 (S.length : Int)) :: some (.int .i64 (i : Nat)) :: none :: none :: none :: none :: none :: none :: none :: none :: none :: none :: none :: none :: none :: none :: none :: none :: none :: none :: none :: none :: none :: none :: none :: none :: none :: none :: none :: none :: none :: none :: none :: none :: none :: none :: none :: none :: none :: none :: none :: none :: none :: none :: none :: none :: none :: none :: none :: none :: none :: none :: none :: none :: none :: none :: none :: none :: none :: none :: none :: none :: none :: none :: none :: none :: none :: none :: none :: none :: none :: none :: none :: none :: none :: none :: none :: none :: none :: none :: none :: none :: none :: none :: none :: none :: none :: none :: none :: none :: none :: none :: none :: none :: none :: none :: none :: none :: none :: none :: none :: none :: none :: none :: none :: none :: none :: none :: []) b.tmps.toList) S.length ?_ ?_
  · refine ⟨rfl, 0, by omega, HG0, Lib.hid ⟨fun j x hj => by omega, fun j x hj => by omega⟩, ?_⟩
    repeat (first | exact fits_nil | refine fits_none ?_ | refine fits_some ?_)
  clear HG0 g0 g1 g2 g3
  intro m b W hI K hK
  obtain ⟨hds, i, him, HY, HN, hfit⟩ := hI
  obtain ⟨g, hg⟩ := fits_act hfit
  rw [hds] at hg
  subst hg
  clear hfit hds
  simp only [fillP, Nat.reduceAdd]
  obtain ⟨c0, c1, c2, c3⟩ := HY.out.cells
  by_cases hlt : i < S.length
  · obtain ⟨rb, ro, x, rfl, hrb, hx, p0⟩ := HY.out.sh.stk.ltI (i := i) hlt
    obtain ⟨qb, qo, y, rfl, hqb, hy, q0⟩ := HY.out.sh.prc.ltI (i := i) (by rw [Hn.out]; exact hlt)
    have i1 : (i : Int) < (S.length : Int) := by omega
    have i2 : (0 : Int) ≤ (i : Int) := by omega
    have i3 : IntKind.i64.wrap ((i : Int) + 1) = (i : Int) + 1 := by have := Hlen.out; rw [IntKind.wrap_i64]; omega
    have i4 : (i : Int) < (P.length : Int) := by rw [Hn.out]; exact i1
    have Hsucc := Lib.hid (fun h h' => (⟨no_succ HN.out.1 hx h, no_succ HN.out.2 hy h'⟩ : (∀ j x, j < i + 1 → S[j]? = some x → outR 0 50 x = false) ∧ ∀ j x, j < i + 1 → P[j]? = some x → outR 0 100 x = false))
    have Hb1 := Lib.hid (show outR 0 50 x = true → shopE S P O = 3 from fun h => by rw [HE.out, if_pos]; rw [List.any_eq_true.2 ⟨x, List.mem_of_getElem? hx, h⟩]; rfl)
    have Hb2 := Lib.hid (show outR 0 100 y = true → shopE S P O = 3 from fun h => by rw [HE.out, if_pos]; rw [List.any_eq_true.2 ⟨y, List.mem_of_getElem? hy, h⟩, Bool.or_true]; rfl)
    have Him := Lib.hid (show i + m = S.length ∧ i < S.length from ⟨him, hlt⟩)
    clear hx hy him hlt
    cases h1 : decide (x < 0) with
    | true =>
      have HR := Lib.hid (Hb1.out (out_bad (.inl (of_decide_eq_true h1))))
      clear hK
      go_wp2
      go_ret
      exact ⟨ret_int HR.out.symm, HY.out.bel⟩
    | false =>
    cases h2 : decide (50 < x) with
    | true =>
      have HR := Lib.hid (Hb1.out (out_bad (.inr (of_decide_eq_true h2))))
      clear hK
      go_wp2
      go_ret
      exact ⟨ret_int HR.out.symm, HY.out.bel⟩
    | false =>
    cases h3 : decide (y < 0) with
    | true =>
      have HR := Lib.hid (Hb2.out (out_bad (.inl (of_decide_eq_true h3))))
      clear hK
      go_wp2
      go_ret
      exact ⟨ret_int HR.out.symm, HY.out.bel⟩
    | false =>
    cases h4 : decide (100 < y) with
    | true =>
      have HR := Lib.hid (Hb2.out (out_bad (.inr (of_decide_eq_true h4))))
      clear hK
      go_wp2
      go_ret
      exact ⟨ret_int HR.out.symm, HY.out.bel⟩
    | false =>
    have HN2 := Lib.hid (Hsucc.out (out_fine h1 h2) (out_fine h3 h4))
    go_wp2
    refine hK _ _ (m - 1) (by have := Him.out; omega) ⟨rfl, i + 1, by have := Him.out; omega, HY, HN2, ?_⟩
    repeat (first | exact fits_nil | refine fits_none ?_ | refine fits_some ?_)
  have i1 : ¬ (i : Int) < (S.length : Int) := by omega
  have HS := Lib.hid (any_no (fun j x h hx => HN.out.1 j x (by omega) hx))
  have HP := Lib.hid (any_no (fun j x h hx => HN.out.2 j x (by have := Hn.out; omega) hx))
  have HE2 := Lib.hid (show shopE S P O = if O.any (strayB S.length) then 3 else if riseB P then 16 else 0 by rw [HE.out, HS.out, HP.out]; rfl)
  have Hlt := Lib.hid hlt
  clear him hlt hK HN HS HP HE
  go_wp2_with fail
  clear i1
  refine loop_n (fun m b W => b.defers = [] ∧ ∃ i : Nat, i + m = O.length ∧ Hid (GW w W w.heap.size SA S.length sc PA P.length pc OA O.length oc S P O) ∧ Hid (∀ j x, j < i → O[j]? = some x → strayB S.length x = false) ∧ Fits (none :: some (.pointer (some ⟨w.heap.size, 0, none⟩)) :: none :: some (.int .i64 (S.length : Int)) :: none :: some (.int .i64 (i : Nat)) :: none :: none :: none :: none :: none :: none :: none :: none :: none :: none :: none :: none :: none :: none :: none :: none :: none :: none :: none :: none :: none :: none :: none :: none :: none :: none :: none :: none :: none :: none :: none :: none :: none :: none :: none :: none :: none :: none :: none :: none :: none :: none :: none :: none :: none :: none :: none :: none :: none :: none :: none :: none :: none :: none :: none :: none :: none :: none :: none :: none :: none :: none :: none :: none :: none :: none :: none :: none :: none :: none :: none :: none :: none :: none :: none :: none :: none :: none :: none :: none :: none :: none :: none :: none :: none :: none :: none :: none :: none :: none :: none :: none :: none :: none :: none :: none :: none :: none :: none :: none :: none :: none :: none :: none :: none :: []) b.tmps.toList) O.length ?_ ?_
  · refine ⟨rfl, 0, by omega, HY, Lib.hid (fun j x hj => by omega), ?_⟩
    repeat (first | exact fits_nil | refine fits_none ?_ | refine fits_some ?_)
  clear HY c0 c1 c2 c3
  intro m b W hI K hK
  obtain ⟨hds, i, him, HY, HN, hfit⟩ := hI
  obtain ⟨g, hg⟩ := fits_act hfit
  rw [hds] at hg
  subst hg
  clear hfit hds
  simp only [fillP, Nat.reduceAdd]
  obtain ⟨c0, c1, c2, c3⟩ := HY.out.cells
  by_cases hlt : i < O.length
  · obtain ⟨rb, ro, x, rfl, hrb, hx, p0, p1⟩ := HY.out.sh.ord.ltO (i := i) hlt
    obtain ⟨a, b⟩ := x
    have i1 : (i : Int) < (O.length : Int) := by omega
    have i2 : (0 : Int) ≤ (i : Int) := by omega
    have i3 : IntKind.i64.wrap ((i : Int) + 1) = (i : Int) + 1 := by have := Hlen.out; rw [IntKind.wrap_i64]; omega
    have Hsucc := Lib.hid (fun h => no_succ HN.out hx h)
    have Hbad := Lib.hid (show strayB S.length ⟨a, b⟩ = true → shopE S P O = 3 from fun h => by rw [HE2.out, if_pos]; exact List.any_eq_true.2 ⟨_, List.mem_of_getElem? hx, h⟩)
    have Him := Lib.hid (show i + m = O.length ∧ i < O.length from ⟨him, hlt⟩)
    have HY2 := Lib.hid (HY.out.later (balloc (brefl _) (.cells #[.int .i64 a, .int .i64 b] 66)))
    have j1 : rb < W.heap.size + 1 := by omega
    have j2 : W.heap.size ≠ rb := by omega
    simp only at p0 p1
    clear hx him hlt
    cases h1 : decide (a < 0) with
    | true =>
      have HR := Lib.hid (Hbad.out (stray_bad (.inl (of_decide_eq_true h1))))
      clear hK
      go_wp2
      go_ret
      exact ⟨ret_int HR.out.symm, HY2.out.bel⟩
    | false =>
    cases h2 : decide ((S.length : Int) ≤ a) with
    | true =>
      have HR := Lib.hid (Hbad.out (stray_bad (.inr <| .inl (of_decide_eq_true h2))))
      clear hK
      go_wp2
      go_ret
      exact ⟨ret_int HR.out.symm, HY2.out.bel⟩
    | false =>
    cases h3 : decide (b < 0) with
    | true =>
      have HR := Lib.hid (Hbad.out (stray_bad (.inr <| .inr <| .inl (of_decide_eq_true h3))))
      clear hK
      go_wp2
      go_ret
      exact ⟨ret_int HR.out.symm, HY2.out.bel⟩
    | false =>
    cases h4 : decide (20 < b) with
    | true =>
      have HR := Lib.hid (Hbad.out (stray_bad (.inr <| .inr <| .inr (of_decide_eq_true h4))))
      clear hK
      go_wp2
      go_ret
      exact ⟨ret_int HR.out.symm, HY2.out.bel⟩
    | false =>
    have HN2 := Lib.hid (Hsucc.out (stray_fine h1 h2 h3 h4))
    go_wp2
    refine hK _ _ (m - 1) (by have := Him.out; omega) ⟨rfl, i + 1, by have := Him.out; omega, HY2, HN2, ?_⟩
    repeat (first | exact fits_nil | refine fits_none ?_ | refine fits_some ?_)
  have i1 : ¬ (i : Int) < (O.length : Int) := by omega
  have HE3 := Lib.hid (show shopE S P O = if riseB P then 16 else 0 by rw [HE2.out, any_no (fun j x h hx => HN.out j x (by omega) hx)]; rfl)
  have Hlt := Lib.hid hlt
  clear him hlt hK HN HE2
  go_wp2_with fail
  clear i1
  refine loop_n (fun m b W => b.defers = [] ∧ ∃ i : Nat, i + m + 1 = S.length ∧ Hid (GW w W w.heap.size SA S.length sc PA P.length pc OA O.length oc S P O) ∧ Hid (∀ j x y, j < i → P[j]? = some x → P[j + 1]? = some y → ¬ x < y) ∧ Fits (none :: some (.pointer (some ⟨w.heap.size, 0, none⟩)) :: none :: some (.int .i64 (S.length : Int)) :: none :: none :: none :: some (.int .i64 ((i : Nat) + 1 : Int)) :: none :: none :: none :: none :: none :: none :: none :: none :: none :: none :: none :: none :: none :: none :: none :: none :: none :: none :: none :: none :: none :: none :: none :: none :: none :: none :: none :: none :: none :: none :: none :: none :: none :: none :: none :: none :: none :: none :: none :: none :: none :: none :: none :: none :: none :: none :: none :: none :: none :: none :: none :: none :: none :: none :: none :: none :: none :: none :: none :: none :: none :: none :: none :: none :: none :: none :: none :: none :: none :: none :: none :: none :: none :: none :: none :: none :: none :: none :: none :: none :: none :: none :: none :: none :: none :: none :: none :: none :: none :: none :: none :: none :: none :: none :: none :: none :: none :: none :: none :: none :: none :: none :: none :: []) b.tmps.toList) (S.length - 1) ?_ ?_
  · refine ⟨rfl, 0, by have := Hlen.out; omega, HY, Lib.hid (fun j x y hj => by omega), ?_⟩
    repeat (first | exact fits_nil | refine fits_none ?_ | refine fits_some ?_)
  clear HY c0 c1 c2 c3
  intro m b W hI K hK
  obtain ⟨hds, i, him, HY, HN, hfit⟩ := hI
  obtain ⟨g, hg⟩ := fits_act hfit
  rw [hds] at hg
  subst hg
  clear hfit hds
  simp only [fillP, Nat.reduceAdd]
  obtain ⟨c0, c1, c2, c3⟩ := HY.out.cells
  by_cases hlt : i + 1 < S.length
  · obtain ⟨rb, ro, x, hA, hrb, hx, p0⟩ := HY.out.sh.prc.ltI (i := i) (by have := Hn.out; omega)
    obtain ⟨rb', ro', y, hA', hrb', hy, p1⟩ := HY.out.sh.prc.ltI (i := i + 1) (by have := Hn.out; omega)
    rw [hA] at hA'
    obtain ⟨rfl, rfl⟩ : rb = rb' ∧ ro = ro' := by simp only [Option.some.injEq, Addr.mk.injEq] at hA'; exact ⟨hA'.1, hA'.2.1⟩
    subst hA
    have i1 : (i : Int) + 1 < (S.length : Int) := by omega
    have i2 : (0 : Int) ≤ (i : Int) := by omega
    have i3 : IntKind.i64.wrap ((i : Int) + 1 + 1) = (i : Int) + 1 + 1 := by have := Hlen.out; rw [IntKind.wrap_i64]; omega
    have i8 : IntKind.i64.wrap (i : Int) = (i : Int) := by have := Hlen.out; rw [IntKind.wrap_i64]; omega
    have i4 : (i : Int) + 1 < (P.length : Int) := by have := Hn.out; omega
    have i5 : (i : Int) < (P.length : Int) := by have := Hn.out; omega
    have i6 : (0 : Int) ≤ (i : Int) + 1 := by omega
    have i7 : ((i : Int) + 1).toNat = i + 1 := by omega
    have Hno := Lib.hid (show ¬ x < y → ∀ j x y, j < i + 1 → P[j]? = some x → P[j + 1]? = some y → ¬ x < y from fun h j a b hj h1 h2 => by
      rcases Nat.lt_or_ge j i with h' | h'
      · exact HN.out j a b h' h1 h2
      · obtain rfl : j = i := by omega
        rw [hx] at h1; rw [hy] at h2; cases h1; cases h2; exact h)
    have Hye := Lib.hid (show x < y → shopE S P O = 16 from fun h => by rw [HE3.out, if_pos ((riseB_iff P).2 ⟨i, x, y, hx, hy, h⟩)])
    have Him := Lib.hid (show i + m + 1 = S.length ∧ i + 1 < S.length from ⟨him, hlt⟩)
    clear hx hy him hA' hlt
    go_wp2_with fail
    refine dag 12 (by kernel_rfl) (by kernel_rfl) (.is ?_ :: .is ?_ :: .is ?_ :: .is ?_ :: .is ?_ :: .is ?_ :: .is ?_ :: .is ?_ :: .is ?_ :: .is ?_ :: .is ?_ :: .is ?_ :: []) rfl ?st1 ?ob1
    case st1 => simp [Spec.ok]
    case ob1 =>
      intro env W' hG
      obtain ⟨hc, hf⟩ := bcell hG
      repeat (refine obls_is ?_ ?_; unfold doesAt; go_simp; (try go_bits); (first | (refine ⟨brefl _, ?_⟩; rfl) | rfl); intro K hK; go_simp; refine hK _ ?_; clear hK K)
      refine obls_nil (fun _ => ?_)
      have HY2 := Lib.hid (HY.out.later hG)
      clear hc hf hG c0 c1 c2 c3 p0 p1
      cases hd : decide (x < y) with
      | true =>
        have HR := Lib.hid (Hye.out (by simpa using hd))
        clear hK
        go_wp2
        go_ret
        exact ⟨ret_int HR.out.symm, HY2.out.bel⟩
      | false =>
        have HN2 := Lib.hid (Hno.out (by simpa using hd))
        go_wp2
        refine hK _ _ (m - 1) (by have := Him.out; omega) ⟨rfl, i + 1, by have := Him.out; omega, HY2, HN2, ?_⟩
        repeat (first | exact fits_nil | refine fits_none ?_ | refine fits_some ?_)
  have i1 : ¬ (i : Int) + 1 < (S.length : Int) := by omega
  have HR := Lib.hid (show shopE S P O = 0 by
    rw [HE3.out, if_neg]
    intro h
    obtain ⟨j, x, y, h1, h2, h3⟩ := (riseB_iff P).1 h
    have := (List.getElem?_eq_some_iff.1 h2).1
    exact HN.out j x y (by have := Hn.out; omega) h1 h2 h3)
  clear him hlt hK
  go_wp2
  go_ret
  exact ⟨ret_int HR.out.symm, HY.out.bel⟩
end Go.Proofs.Ytmfiggbobaihcaa
