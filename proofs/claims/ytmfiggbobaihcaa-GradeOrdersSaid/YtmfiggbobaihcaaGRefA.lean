/- The document's Sum, Asked, ShortOf, CheckShort, Short, Can. -/
import Derived.Test.YtmfiggbobaihcaaGRefP
namespace Go.Proofs.Ytmfiggbobaihcaa
open Go.RowKit Go.Shelf

theorem stockM_at {S : List Int} {i : Nat} {x : Int} (h : S[i]? = some x) : stockM S i = x := sl_getD h
theorem stockM_bound {S : List Int} {b : Int} (h : ∀ x ∈ S, 0 ≤ x ∧ x ≤ b) (hb : 0 ≤ b) (j : Nat) : 0 ≤ stockM S j ∧ stockM S j ≤ b := getD_in h ⟨Int.le_refl _, hb⟩ j
set_option maxRecDepth 100000 in
set_option maxHeartbeats 2000000 in
theorem refSum_any (A : Option Addr) (n c : Nat) (xs : List Int) (f t : Nat) (ti : Int) (w : World) (hs : Sl 1 encI w w.heap.size A n c xs) (hft : f ≤ t) (hti : ti = (t : Int) - 1) (ht : t ≤ n) (hn : n ≤ 10) (hx : ∀ x ∈ xs, 0 ≤ x ∧ x ≤ 150) :
    Calls Try.prog 81 #[.slice A n c, .int .i64 (f : Int), .int .i64 ti] w fun e w' => e = .returned (.int .i64 (sumN (stockM xs) t - sumN (stockM xs) f)) ∧ Below w.heap.size w w' := by
  obtain rfl := hs.len
  have Hs := Lib.hid hs
  have Hx := Lib.hid hx
  have Hti := Lib.hid hti
  have hM := fun j => stockM_bound (b := 150) hx (by omega) j
  have HM := Lib.hid hM
  have HB0 := Lib.hid (brefl w)
  clear hs hx hM hti
  go_enter Try.func81, Try.ntmps81
  go_wp2_with fail
  refine loop_n (fun m b W => b.defers = [] ∧ ∃ i : Nat, f ≤ i ∧ i + m = t ∧ Hid (Below w.heap.size w W) ∧ Fits (some (.slice A xs.length c) :: none :: some (.int .i64 ti) :: none :: none :: none :: none :: some (.int .i64 (sumN (stockM xs) i - sumN (stockM xs) f)) :: some (.int .i64 (i : Nat)) :: none :: none :: none :: none :: none :: none :: none :: none :: none :: none :: none :: none :: none :: []) b.tmps.toList) (t - f) ?_ ?_
  · refine ⟨rfl, f, by omega, by omega, HB0, ?_⟩
    rw [Int.sub_self]
    repeat (first | exact fits_nil | refine fits_none ?_ | refine fits_some ?_)
  clear HB0
  intro m b W hI K hK
  obtain ⟨hds, i, hfi, him, HB, hfit⟩ := hI
  obtain ⟨g, hg⟩ := fits_act hfit
  rw [hds] at hg
  subst hg
  clear hfit hds
  simp only [fillP, Nat.reduceAdd]
  have h1 := sumN_bound (M := stockM xs) (b := 150) i (fun j _ => HM.out j)
  have h2 := sumN_bound (M := stockM xs) (b := 150) f (fun j _ => HM.out j)
  by_cases hlt : i < t
  · obtain ⟨rb, ro, x, rfl, hrb, hx, p0⟩ := (Hs.out.later HB.out).ltI (i := i) (by omega)
    have hx1 := Hx.out x (List.mem_of_getElem? hx)
    have hs1 : sumN (stockM xs) (i + 1) = sumN (stockM xs) i + x := by rw [sumN, stockM_at hx]
    have i1 : (i : Int) ≤ ti := by have := Hti.out; omega
    have i2 : (0 : Int) ≤ (i : Int) := by omega
    have i3 : IntKind.i64.wrap ((i : Int) + 1) = (i : Int) + 1 := by rw [IntKind.wrap_i64]; omega
    have i4 : (i : Int) < (xs.length : Int) := by omega
    have i5 : IntKind.i64.wrap (sumN (stockM xs) i - sumN (stockM xs) f + x) = sumN (stockM xs) i - sumN (stockM xs) f + x := by rw [IntKind.wrap_i64]; omega
    have Hs1 := Lib.hid (show sumN (stockM xs) (i + 1) - sumN (stockM xs) f = sumN (stockM xs) i - sumN (stockM xs) f + x by omega)
    have Him := Lib.hid (show f ≤ i ∧ i + m = t ∧ i < t from ⟨hfi, him, hlt⟩)
    generalize sumN (stockM xs) i - sumN (stockM xs) f = q at *
    clear hs1 h1 h2 hx hx1 hfi him hlt
    go_wp2
    refine hK _ _ (m - 1) (by have := Him.out; omega) ⟨rfl, i + 1, by have := Him.out; omega, by have := Him.out; omega, HB, ?_⟩
    rw [Hs1.out]
    repeat (first | exact fits_nil | refine fits_none ?_ | refine fits_some ?_)
  · obtain rfl : i = t := by omega
    have i1 : ¬ (i : Int) ≤ ti := by have := Hti.out; omega
    generalize hq : sumN (stockM xs) i - sumN (stockM xs) f = q at *
    have Hq := Lib.hid hq
    clear hq h1 h2 hfi him hlt hK
    go_wp2
    go_ret
    exact ⟨ret_int Hq.out.symm, HB.out⟩
/-- Can, of a valid shop. -/
theorem firstF_can (n : Nat) (O : List Od) (M : Nat → Int) : decide ((firstF n O M).2 = 5) = canB n O M := by
  unfold firstF canB
  cases h : (List.range n).find? (fun g => decide (0 < shortI O M g)) with
  | none =>
    have h1 : ((List.range n).any fun g => decide (0 < shortI O M g)) = false := by
      rw [List.any_eq_false]
      exact fun x hx => List.find?_eq_none.1 h x hx
    rw [h1]; rfl
  | some g =>
    have h1 : ((List.range n).any fun g => decide (0 < shortI O M g)) = true := List.any_eq_true.2 ⟨g, List.mem_of_find?_eq_some h, List.find?_some (p := fun g => decide (0 < shortI O M g)) h⟩
    rw [h1]; rfl
section
variable (SA : Option Addr) (sn sc : Nat) (PA : Option Addr) (pn pc : Nat) (OA : Option Addr) (on oc : Nat) (S P : List Int) (O : List Od) (w : World) (hs : ShopIn w w.heap.size SA sn sc PA pn pc OA on oc S P O)
include hs
set_option maxRecDepth 100000 in
set_option maxHeartbeats 2000000 in
theorem refAsked_any (gi : Int) (h8 : O.length ≤ 8) (hO : ∀ o ∈ O, 0 ≤ o.m ∧ o.m ≤ 20) :
    Calls Try.prog 49 #[.agg #[.slice SA sn sc, .slice PA pn pc, .slice OA on oc], .int .i64 gi] w fun e w' => e = .returned (.int .i64 (askI O gi)) ∧ Below w.heap.size w w' := by
  obtain rfl := hs.stk.len
  obtain rfl := hs.prc.len
  obtain rfl := hs.ord.len
  have HG0 := Lib.hid (GW.start hs)
  obtain ⟨g0, g1, g2, g3⟩ := HG0.out.cells
  have HO := Lib.hid hO
  clear hs hO
  go_enter Try.func49, Try.ntmps49
  go_wp2_with fail
  refine loop_n (fun m b W => b.defers = [] ∧ ∃ i : Nat, i + m = O.length ∧ Hid (GW w W w.heap.size SA S.length sc PA P.length pc OA O.length oc S P O) ∧ Fits (none :: some (.int .i64 gi) :: some (.pointer (some ⟨w.heap.size, 0, none⟩)) :: none :: none :: some (.int .i64 (askI (O.take i) gi)) :: some (.int .i64 (i : Nat)) :: none :: none :: none :: none :: none :: none :: none :: none :: none :: none :: none :: none :: none :: none :: none :: none :: none :: none :: none :: none :: none :: none :: none :: none :: []) b.tmps.toList) O.length ?_ ?_
  · refine ⟨rfl, 0, by omega, HG0, ?_⟩
    repeat (first | exact fits_nil | refine fits_none ?_ | refine fits_some ?_)
  clear HG0 g0 g1 g2 g3
  intro m b W hI K hK
  obtain ⟨hds, i, him, HG1, hfit⟩ := hI
  obtain ⟨f, hf⟩ := fits_act hfit
  rw [hds] at hf
  subst hf
  clear hfit hds
  simp only [fillP, Nat.reduceAdd]
  obtain ⟨g0, g1, g2, g3⟩ := HG1.out.cells
  by_cases hlt : i < O.length
  · obtain ⟨rb, ro, x, rfl, hrb, hx, p0, p1⟩ := HG1.out.sh.ord.ltO (i := i) hlt
    have hb := askI_bound (O.take i) gi fun o ho => HO.out o (List.mem_of_mem_take ho)
    have hxm := HO.out x (List.mem_of_getElem? hx)
    have ht := askI_take gi hx
    have hl : (O.take i).length ≤ 8 := by rw [List.length_take]; omega
    obtain ⟨a, b⟩ := x
    simp only at p0 p1 hxm ht
    have i1 : (i : Int) < (O.length : Int) := by omega
    have i2 : (0 : Int) ≤ (i : Int) := by omega
    have i3 : IntKind.i64.wrap ((i : Int) + 1) = (i : Int) + 1 := by rw [IntKind.wrap_i64]; omega
    have i4 : IntKind.i64.wrap (askI (O.take i) gi + b) = askI (O.take i) gi + b := by rw [IntKind.wrap_i64]; omega
    have Him := Lib.hid (show i + m = O.length ∧ i < O.length from ⟨him, hlt⟩)
    generalize askI (O.take i) gi = q at *
    have Ht := Lib.hid ht
    clear hx him hlt hb hxm ht hl
    cases hd : decide (a ≤ gi) with
    | true =>
      have Ht2 := Lib.hid (show askI (O.take (i + 1)) gi = q + b by rw [Ht.out, if_pos (of_decide_eq_true hd)])
      go_wp2
      refine hK _ _ (m - 1) (by have := Him.out; omega) ⟨rfl, i + 1, by have := Him.out; omega, HG1, ?_⟩
      rw [Ht2.out]
      repeat (first | exact fits_nil | refine fits_none ?_ | refine fits_some ?_)
    | false =>
      have Ht2 := Lib.hid (show askI (O.take (i + 1)) gi = q by rw [Ht.out, if_neg (of_decide_eq_false hd), Int.add_zero])
      go_wp2
      refine hK _ _ (m - 1) (by have := Him.out; omega) ⟨rfl, i + 1, by have := Him.out; omega, HG1, ?_⟩
      rw [Ht2.out]
      repeat (first | exact fits_nil | refine fits_none ?_ | refine fits_some ?_)
  have i1 : ¬ (i : Int) < (O.length : Int) := by omega
  have hi : O.take i = O := List.take_of_length_le (by omega)
  rw [hi]
  generalize hqe : askI O gi = q at *
  have Hqe := Lib.hid hqe
  clear hK hi hlt him hqe
  go_wp2
  go_ret
  exact ⟨ret_int Hqe.out.symm, HG1.out.bel⟩
set_option maxRecDepth 100000 in
set_option maxHeartbeats 2000000 in
theorem refShortOf_any (g : Nat) (hg : g < S.length) (h5 : S.length ≤ 5) (h8 : O.length ≤ 8) (hO : ∀ o ∈ O, 0 ≤ o.m ∧ o.m ≤ 20) (hS : ∀ x ∈ S, 0 ≤ x ∧ x ≤ 150) :
    Calls Try.prog 46 #[.agg #[.slice SA sn sc, .slice PA pn pc, .slice OA on oc], .int .i64 (g : Int)] w fun e w' => e = .returned (.int .i64 (shortI O (stockM S) g)) ∧ Below w.heap.size w w' := by
  obtain rfl := hs.stk.len
  obtain rfl := hs.prc.len
  obtain rfl := hs.ord.len
  have HG0 := Lib.hid (GW.start hs)
  obtain ⟨g0, g1, g2, g3⟩ := HG0.out.cells
  have Ha := Lib.hid (fun W (h : ShopIn W W.heap.size SA S.length sc PA P.length pc OA O.length oc S P O) => refAsked_any SA S.length sc PA P.length pc OA O.length oc S P O W h (g : Int) h8 hO)
  have Hu := Lib.hid (fun W (h : ShopIn W W.heap.size SA S.length sc PA P.length pc OA O.length oc S P O) => refSum_any SA S.length sc S 0 (g + 1) (g : Int) W h.stk (by omega) (by omega) (by omega) (by omega) hS)
  have hb1 := askI_bound O (g : Int) hO
  have hb2 := sumN_bound (M := stockM S) (b := 150) (g + 1) (fun j _ => stockM_bound hS (by omega) j)
  have hz : sumN (stockM S) 0 = 0 := rfl
  rw [hz, Int.sub_zero] at Hu
  have hR : shortI O (stockM S) g = askI O (g : Int) - sumN (stockM S) (g + 1) := rfl
  have i1 : IntKind.i64.wrap (askI O (g : Int) - sumN (stockM S) (g + 1)) = askI O (g : Int) - sumN (stockM S) (g + 1) := by rw [IntKind.wrap_i64]; omega
  rw [hR]
  generalize askI O (g : Int) = q at *
  generalize sumN (stockM S) (g + 1) = r at *
  clear hs hO hS hb1 hb2 hz hR
  go_enter Try.func46, Try.ntmps46
  go_wp2_with fail
  refine dag 9 (by kernel_rfl) (by kernel_rfl) (.is ?_ :: .is ?_ :: .is ?_ :: .is ?_ :: .is ?_ :: .is ?_ :: .is ?_ :: .is ?_ :: .is ?_ :: []) rfl ?st1 ?ob1
  case st1 => simp [Spec.ok]
  case ob1 =>
    intro env V hG
    obtain ⟨hc, hf⟩ := bcell hG
    have HG1 := Lib.hid (HG0.out.later hG)
    iterate 2 (refine obls_is ?_ ?_; unfold doesAt; go_simp; (try go_bits); (first | (refine ⟨brefl _, ?_⟩; rfl) | rfl); intro K hK; go_simp; refine hK _ ?_; clear hK K)
    refine obls_is ?_ ?_
    · unfold doesAt
      go_simp
      refine (Ha.out _ HG1.out.sh).mono ?_
      rintro e w1 ⟨rfl, hb1⟩
      (refine ⟨?_, hb1⟩; rfl)
    intro K hK
    go_simp
    refine hK _ ?_
    clear hK K
    iterate 3 (refine obls_is ?_ ?_; unfold doesAt; go_simp; (try go_bits); (first | (refine ⟨brefl _, ?_⟩; rfl) | rfl); intro K hK; go_simp; refine hK _ ?_; clear hK K)
    refine obls_is ?_ ?_
    · unfold doesAt
      go_simp
      refine (Hu.out _ HG1.out.sh).mono ?_
      rintro e w1 ⟨rfl, hb1⟩
      (refine ⟨?_, hb1⟩; rfl)
    intro K hK
    go_simp
    refine hK _ ?_
    clear hK K
    repeat (refine obls_is ?_ ?_; unfold doesAt; go_simp; (try go_bits); (first | (refine ⟨brefl _, ?_⟩; rfl) | rfl); intro K hK; go_simp; refine hK _ ?_; clear hK K)
    refine obls_nil (fun _ => ?_)
    clear hc hf hG g0 g1 g2 g3
    go_wp2
    go_ret
    exact ⟨rfl, HG1.out.bel⟩
set_option maxHeartbeats 2000000 in
theorem refCheckShort_any (g : Int) : Calls Try.prog 22 #[.agg #[.slice SA sn sc, .slice PA pn pc, .slice OA on oc], .int .i64 g] w fun e w' => e = .returned (.tuple #[.int .i64 (chShortR S P O g).1, .int .i64 (chShortR S P O g).2]) ∧ Below w.heap.size w w' := by
  obtain rfl := hs.stk.len
  obtain rfl := hs.prc.len
  obtain rfl := hs.ord.len
  have HG0 := Lib.hid (GW.start hs)
  obtain ⟨g0, g1, g2, g3⟩ := HG0.out.cells
  unfold chShortR
  have Ho := Lib.hid (fun W (h : ShopIn W W.heap.size SA S.length sc PA P.length pc OA O.length oc S P O) => refShop_any SA S.length sc PA P.length pc OA O.length oc S P O W h)
  by_cases he : shopE S P O = 0
  case neg =>
    rw [if_pos he]
    obtain ⟨q, hq⟩ : ∃ q, shopE S P O = q := ⟨_, rfl⟩
    rw [hq] at Ho he ⊢
    have d1 : (q != 0) = true := by simpa using he
    clear hs hq he
    go_enter Try.func22, Try.ntmps22
    go_wp2_with fail
    refine (Ho.out _ HG0.out.sh).mono ?_
    rintro e w1 ⟨rfl, hb⟩
    have HG1 := Lib.hid (HG0.out.later hb)
    clear hb HG0 g0 g1 g2 g3
    obtain ⟨g0, g1, g2, g3⟩ := HG1.out.cells
    go_wp2_with fail
    refine (Ho.out _ HG1.out.sh).mono ?_
    rintro e w2 ⟨rfl, hb⟩
    have HG2 := Lib.hid (HG1.out.later hb)
    clear hb HG1 g0 g1 g2 g3
    obtain ⟨g0, g1, g2, g3⟩ := HG2.out.cells
    go_wp2
    go_ret2
    exact ⟨rfl, HG2.out.bel⟩
  rw [if_neg (fun h => h he)]
  have hF := fine_of he
  rw [he] at Ho
  have n5 := hF.n5
  cases hd : decide (g < 0) with
  | true =>
    rw [(inR_no _ _ _).2 (.inl (of_decide_eq_true hd))]
    clear hs he hF
    go_enter Try.func22, Try.ntmps22
    go_wp2_with fail
    refine (Ho.out _ HG0.out.sh).mono ?_
    rintro e w3 ⟨rfl, hb⟩
    have HG1 := Lib.hid (HG0.out.later hb)
    clear hb HG0 g0 g1 g2 g3
    obtain ⟨g0, g1, g2, g3⟩ := HG1.out.cells
    go_wp2
    go_ret2
    exact ⟨rfl, HG1.out.bel⟩
  | false =>
  cases hd2 : decide ((S.length : Int) ≤ g) with
  | true =>
    rw [(inR_no _ _ _).2 (.inr (by have := of_decide_eq_true hd2; omega))]
    clear hs he hF
    go_enter Try.func22, Try.ntmps22
    go_wp2_with fail
    refine (Ho.out _ HG0.out.sh).mono ?_
    rintro e w4 ⟨rfl, hb⟩
    have HG1 := Lib.hid (HG0.out.later hb)
    clear hb HG0 g0 g1 g2 g3
    obtain ⟨g0, g1, g2, g3⟩ := HG1.out.cells
    go_wp2
    go_ret2
    exact ⟨rfl, HG1.out.bel⟩
  | false =>
  have a1 := of_decide_eq_false hd
  have a2 := of_decide_eq_false hd2
  rw [(inR_iff _ _ _).2 ⟨by omega, by omega⟩, if_pos rfl]
  obtain ⟨k, rfl⟩ : ∃ k : Nat, g = (k : Int) := ⟨g.toNat, by omega⟩
  rw [show ((k : Int)).toNat = k by omega]
  have Hsh := Lib.hid (fun W (h : ShopIn W W.heap.size SA S.length sc PA P.length pc OA O.length oc S P O) => refShortOf_any SA S.length sc PA P.length pc OA O.length oc S P O W h k (by omega) n5 hF.o8 (fun o ho => (hF.ord o ho).2) (fun x hx => by have := hF.stk x hx; omega))
  generalize shortI O (stockM S) k = v at *
  have i1 : (0 : Int) ≤ (k : Int) := by omega
  have i2 : (k : Int) < (S.length : Int) := by omega
  clear hs he hF a1 a2 hd hd2
  go_enter Try.func22, Try.ntmps22
  go_wp2_with fail
  refine (Ho.out _ HG0.out.sh).mono ?_
  rintro e w5 ⟨rfl, hb⟩
  have HG1 := Lib.hid (HG0.out.later hb)
  clear hb HG0 g0 g1 g2 g3
  obtain ⟨g0, g1, g2, g3⟩ := HG1.out.cells
  go_wp2_with fail
  refine (Hsh.out _ HG1.out.sh).mono ?_
  rintro e w6 ⟨rfl, hb⟩
  have HG2 := Lib.hid (HG1.out.later hb)
  clear hb HG1 g0 g1 g2 g3
  obtain ⟨g0, g1, g2, g3⟩ := HG2.out.cells
  go_wp2
  go_ret2
  exact ⟨rfl, HG2.out.bel⟩
set_option maxRecDepth 100000 in
set_option maxHeartbeats 4000000 in
theorem refShort_any : Calls Try.prog 24 #[.agg #[.slice SA sn sc, .slice PA pn pc, .slice OA on oc]] w fun e w' => e = .returned (.tuple #[.int .i64 (shortR S P O).1, .int .i64 (shortR S P O).2]) ∧ Below w.heap.size w w' := by
  obtain rfl := hs.stk.len
  obtain rfl := hs.prc.len
  obtain rfl := hs.ord.len
  have HG0 := Lib.hid (GW.start hs)
  obtain ⟨g0, g1, g2, g3⟩ := HG0.out.cells
  unfold shortR
  have Ho := Lib.hid (fun W (h : ShopIn W W.heap.size SA S.length sc PA P.length pc OA O.length oc S P O) => refShop_any SA S.length sc PA P.length pc OA O.length oc S P O W h)
  by_cases he : shopE S P O = 0
  case neg =>
    rw [if_pos he]
    obtain ⟨q, hq⟩ : ∃ q, shopE S P O = q := ⟨_, rfl⟩
    rw [hq] at Ho he ⊢
    have d1 : (q != 0) = true := by simpa using he
    clear hs hq he
    go_enter Try.func24, Try.ntmps24
    go_wp2_with fail
    refine (Ho.out _ HG0.out.sh).mono ?_
    rintro e w7 ⟨rfl, hb⟩
    have HG1 := Lib.hid (HG0.out.later hb)
    clear hb HG0 g0 g1 g2 g3
    obtain ⟨g0, g1, g2, g3⟩ := HG1.out.cells
    go_wp2_with fail
    refine (Ho.out _ HG1.out.sh).mono ?_
    rintro e w8 ⟨rfl, hb⟩
    have HG2 := Lib.hid (HG1.out.later hb)
    clear hb HG1 g0 g1 g2 g3
    obtain ⟨g0, g1, g2, g3⟩ := HG2.out.cells
    go_wp2
    go_ret2
    exact ⟨rfl, HG2.out.bel⟩
  rw [if_neg (fun h => h he)]
  have hF := fine_of he
  rw [he] at Ho
  have n5 := hF.n5
  have Hsh := Lib.hid (fun k (hk : k < S.length) W (h : ShopIn W W.heap.size SA S.length sc PA P.length pc OA O.length oc S P O) => refShortOf_any SA S.length sc PA P.length pc OA O.length oc S P O W h k hk n5 hF.o8 (fun o ho => (hF.ord o ho).2) (fun x hx => by have := hF.stk x hx; omega))
  clear hs he hF
  obtain ⟨rs, hrs⟩ : ∃ rs : Int × Int, firstF S.length O (stockM S) = rs := ⟨_, rfl⟩
  rw [hrs]
  have Hrs := Lib.hid hrs
  clear hrs
  go_enter Try.func24, Try.ntmps24
  go_wp2_with fail
  refine (Ho.out _ HG0.out.sh).mono ?_
  rintro e w9 ⟨rfl, hb⟩
  have HG1 := Lib.hid (HG0.out.later hb)
  clear hb HG0 g0 g1 g2 g3
  obtain ⟨g0, g1, g2, g3⟩ := HG1.out.cells
  go_wp2_with fail
  refine loop_n (fun m b W => b.defers = [] ∧ ∃ i : Nat, i + m = S.length ∧ Hid (GW w W w.heap.size SA S.length sc PA P.length pc OA O.length oc S P O) ∧ Hid (∀ g, g < i → decide (0 < shortI O (stockM S) g) = false) ∧ Fits (none :: some (.pointer (some ⟨w.heap.size, 0, none⟩)) :: none :: none :: some (.int .i64 (i : Nat)) :: none :: none :: none :: none :: none :: none :: none :: none :: none :: none :: none :: none :: none :: none :: none :: none :: none :: []) b.tmps.toList) S.length ?_ ?_
  · refine ⟨rfl, 0, by omega, HG1, Lib.hid (fun g h => by omega), ?_⟩
    repeat (first | exact fits_nil | refine fits_none ?_ | refine fits_some ?_)
  clear HG1 g0 g1 g2 g3
  intro m b W hI K hK
  obtain ⟨hds, i, him, HG0, HN, hfit⟩ := hI
  obtain ⟨f, hf⟩ := fits_act hfit
  rw [hds] at hf
  subst hf
  clear hfit hds
  simp only [fillP, Nat.reduceAdd]
  obtain ⟨g0, g1, g2, g3⟩ := HG0.out.cells
  by_cases hlt : i < S.length
  · have i1 : (i : Int) < (S.length : Int) := by omega
    have i2 : (0 : Int) ≤ (i : Int) := by omega
    have i3 : IntKind.i64.wrap ((i : Int) + 1) = (i : Int) + 1 := by rw [IntKind.wrap_i64]; omega
    have Him := Lib.hid (show i + m = S.length ∧ i < S.length from ⟨him, hlt⟩)
    have Hlt := Lib.hid (Hsh.out i hlt)
    clear him hlt
    go_wp2_with fail
    refine (Hlt.out _ HG0.out.sh).mono ?_
    rintro e w10 ⟨rfl, hb⟩
    have HG1 := Lib.hid (HG0.out.later hb)
    clear hb HG0 g0 g1 g2 g3
    obtain ⟨g0, g1, g2, g3⟩ := HG1.out.cells
    generalize hq : shortI O (stockM S) i = q
    have Hq := Lib.hid hq
    clear hq
    cases hd : decide (0 < q) with
    | true =>
      have HR := Lib.hid (show rs = ((i : Int), 0) by rw [← Hrs.out]; unfold firstF; rw [find_at Him.out.2 (by rw [Hq.out]; exact hd) HN.out])
      clear hK
      go_wp2
      go_ret2
      exact ⟨ret_two (by rw [HR.out]) (by rw [HR.out]), HG1.out.bel⟩
    | false =>
      have HN2 := Lib.hid (fun g (hg : g < i + 1) => (show decide (0 < shortI O (stockM S) g) = false from by
        rcases Nat.lt_or_ge g i with h | h
        · exact HN.out g h
        · obtain rfl : g = i := by omega
          rw [Hq.out]; exact hd))
      go_wp2
      refine hK _ _ (m - 1) (by have := Him.out; omega) ⟨rfl, i + 1, by have := Him.out; omega, HG1, HN2, ?_⟩
      repeat (first | exact fits_nil | refine fits_none ?_ | refine fits_some ?_)
  have i1 : ¬ (i : Int) < (S.length : Int) := by omega
  have HR := Lib.hid (show rs = ((0 : Int), 5) by rw [← Hrs.out]; unfold firstF; rw [find_no (fun j hj => HN.out j (by omega))])
  clear hK him hlt
  go_wp2
  go_ret2
  exact ⟨ret_two (by rw [HR.out]) (by rw [HR.out]), HG0.out.bel⟩
set_option maxHeartbeats 2000000 in
theorem refCan_any (he : shopE S P O = 0) : Calls Try.prog 77 #[.agg #[.slice SA sn sc, .slice PA pn pc, .slice OA on oc]] w fun e w' => e = .returned (.bool (canB S.length O (stockM S))) ∧ Below w.heap.size w w' := by
  obtain rfl := hs.stk.len
  obtain rfl := hs.prc.len
  obtain rfl := hs.ord.len
  have HG0 := Lib.hid (GW.start hs)
  obtain ⟨g0, g1, g2, g3⟩ := HG0.out.cells
  have Hs := Lib.hid (fun W (h : ShopIn W W.heap.size SA S.length sc PA P.length pc OA O.length oc S P O) => refShort_any SA S.length sc PA P.length pc OA O.length oc S P O W h)
  have hsr : shortR S P O = firstF S.length O (stockM S) := by unfold shortR; rw [if_neg (fun h => h he)]
  rw [hsr] at Hs
  rw [← firstF_can]
  generalize firstF S.length O (stockM S) = rs at *
  clear hs he hsr
  go_enter Try.func77, Try.ntmps77
  go_wp2_with fail
  refine (Hs.out _ HG0.out.sh).mono ?_
  rintro e w11 ⟨rfl, hb⟩
  have HG1 := Lib.hid (HG0.out.later hb)
  clear hb HG0 g0 g1 g2 g3
  obtain ⟨g0, g1, g2, g3⟩ := HG1.out.cells
  go_wp2
  go_ret
  exact ⟨rfl, HG1.out.bel⟩
end
end Go.Proofs.Ytmfiggbobaihcaa
