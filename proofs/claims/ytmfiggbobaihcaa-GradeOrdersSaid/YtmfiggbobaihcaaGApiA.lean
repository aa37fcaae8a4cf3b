/- grade.filled, CheckShort, Short, Least, Spent. -/
import Derived.Test.YtmfiggbobaihcaaGWo
namespace Go.Proofs.Ytmfiggbobaihcaa
open Go.RowKit Go.Shelf

/-- The error of a shop whose orders have to be filled. -/
def filE (S P : List Int) (O : List Od) : Int := if shopE S P O ≠ 0 then shopE S P O else if canB S.length O (stockM S) then 0 else 25
theorem filE_shop {S P : List Int} {O : List Od} (h : shopE S P O ≠ 0) : filE S P O = shopE S P O := if_pos h
theorem filE_no {S P : List Int} {O : List Od} (h : shopE S P O = 0) (hc : canB S.length O (stockM S) = false) : filE S P O = 25 := by unfold filE; rw [if_neg (fun h' => h' h), hc]; rfl
theorem filE_ok {S P : List Int} {O : List Od} (h : shopE S P O = 0) (hc : canB S.length O (stockM S) = true) : filE S P O = 0 := by unfold filE; rw [if_neg (fun h' => h' h), hc]; rfl
theorem filE_zero {S P : List Int} {O : List Od} (h : filE S P O = 0) : shopE S P O = 0 ∧ canB S.length O (stockM S) = true := by
  unfold filE at h
  split at h
  · rename_i hn; exact absurd h hn
  · rename_i hn
    refine ⟨Classical.not_not.1 hn, ?_⟩
    split at h
    · assumption
    · cases h
/-- What CheckShort returns. -/
def chShortR (S P : List Int) (O : List Od) (g : Int) : Int × Int := if shopE S P O ≠ 0 then (0, shopE S P O) else if inR 0 ((S.length : Int) - 1) g then (shortI O (stockM S) g.toNat, 0) else (0, 2)
/-- The first grade that is short. -/
def firstF (n : Nat) (O : List Od) (M : Nat → Int) : Int × Int := match (List.range n).find? (fun g => decide (0 < shortI O M g)) with | some g => ((g : Int), 0) | none => (0, 5)
/-- What Short returns. -/
def shortR (S P : List Int) (O : List Od) : Int × Int := if shopE S P O ≠ 0 then (0, shopE S P O) else firstF S.length O (stockM S)
theorem find_at {p : Nat → Bool} {n i : Nat} (hi : i < n) (hp : p i = true) (hn : ∀ j, j < i → p j = false) : (List.range n).find? p = some i := by
  rw [List.find?_range_eq_some]
  exact ⟨hp, List.mem_range.2 hi, fun j hj => by rw [hn j hj]; rfl⟩
theorem find_no {p : Nat → Bool} {n : Nat} (hn : ∀ j, j < n → p j = false) : (List.range n).find? p = none := by
  rw [List.find?_range_eq_none]
  exact fun j hj => by rw [hn j hj]; rfl
/-- What is spent, as a list. -/
def spL (n : Nat) (O : List Od) (M : Nat → Int) : List Int := (List.range n).map (spV n O M)
theorem ret_two {a b a' b' : Int} (h : a = a') (h2 : b = b') : Ending.returned (.tuple #[.int .i64 a, .int .i64 b]) = .returned (.tuple #[.int .i64 a', .int .i64 b']) := by rw [h, h2]
section
variable (SA : Option Addr) (sn sc : Nat) (PA : Option Addr) (pn pc : Nat) (OA : Option Addr) (on oc : Nat) (S P : List Int) (O : List Od) (w : World) (hs : ShopIn w w.heap.size SA sn sc PA pn pc OA on oc S P O)
include hs
set_option maxHeartbeats 2000000 in
theorem filled_bad (hne : filE S P O ≠ 0) : Calls Try.prog 66 #[.agg #[.slice SA sn sc, .slice PA pn pc, .slice OA on oc]] w fun e w' => e = .returned (.tuple #[.pointer none, .int .i64 (filE S P O)]) ∧ Below w.heap.size w w' := by
  obtain rfl := hs.stk.len
  obtain rfl := hs.prc.len
  obtain rfl := hs.ord.len
  have HG0 := Lib.hid (GW.start hs)
  obtain ⟨g0, g1, g2, g3⟩ := HG0.out.cells
  by_cases he : shopE S P O = 0
  · have hc : canB S.length O (stockM S) = false := by
      cases hc : canB S.length O (stockM S) with
      | false => rfl
      | true => exact absurd (filE_ok he hc) hne
    rw [filE_no he hc]
    have hF := fine_of he
    have Hcan := Lib.hid (fun T W (h : StIn W T SA S.length sc PA P.length pc OA O.length oc S P O (stockM S)) => can_any T SA S.length sc PA P.length pc OA O.length oc S P O (stockM S) W h hF.n5 hF.o8 (fun o ho => (hF.ord o ho).2) (fun j _ => by have := hF.ok.stk j; omega))
    rw [hc] at Hcan
    have Ho := Lib.hid (fun W (h : ShopIn W W.heap.size SA S.length sc PA P.length pc OA O.length oc S P O) => open_ok SA S.length sc PA P.length pc OA O.length oc S P O W h he)
    clear hs hne he hc hF
    go_enter Try.func66, Try.ntmps66
    go_wp2_with fail
    refine (Ho.out _ HG0.out.sh).mono ?_
    rintro e w1 ⟨T, rfl, hb, hst, hT⟩
    have HG1 := Lib.hid (HG0.out.later hb)
    clear hb HG0 g0 g1 g2 g3
    obtain ⟨g0, g1, g2, g3⟩ := HG1.out.cells
    have HO1 := Lib.hid hst
    clear hst hT
    obtain ⟨o0, o1, o2, o3⟩ := HO1.out.cells
    go_wp2_with fail
    refine (Hcan.out T _ HO1.out).mono ?_
    rintro e w2 ⟨rfl, hb⟩
    have HG2 := Lib.hid (HG1.out.later hb)
    have HO2 := Lib.hid (HO1.out.later hb)
    clear hb HG1 HO1 g0 g1 g2 g3 o0 o1 o2 o3
    obtain ⟨g0, g1, g2, g3⟩ := HG2.out.cells
    obtain ⟨o0, o1, o2, o3⟩ := HO2.out.cells
    go_wp2
    go_ret2
    exact ⟨rfl, HG2.out.bel⟩
  · rw [filE_shop he]
    have Ho := Lib.hid (fun W (h : ShopIn W W.heap.size SA S.length sc PA P.length pc OA O.length oc S P O) => open_bad SA S.length sc PA P.length pc OA O.length oc S P O W h he)
    obtain ⟨q, hq⟩ : ∃ q, shopE S P O = q := ⟨_, rfl⟩
    rw [hq] at Ho he ⊢
    have d1 : (q != 0) = true := by simpa using he
    clear hs hne hq he
    go_enter Try.func66, Try.ntmps66
    go_wp2_with fail
    refine (Ho.out _ HG0.out.sh).mono ?_
    rintro e w3 ⟨rfl, hb⟩
    have HG1 := Lib.hid (HG0.out.later hb)
    clear hb HG0 g0 g1 g2 g3
    obtain ⟨g0, g1, g2, g3⟩ := HG1.out.cells
    go_wp2
    go_ret2
    exact ⟨rfl, HG1.out.bel⟩
set_option maxHeartbeats 2000000 in
theorem filled_ok (hf : filE S P O = 0) : Calls Try.prog 66 #[.agg #[.slice SA sn sc, .slice PA pn pc, .slice OA on oc]] w fun e w' => ∃ T, e = .returned (.tuple #[.pointer (some ⟨T, 0, none⟩), .int .i64 0]) ∧ Below w.heap.size w w' ∧ StIn w' T SA sn sc PA pn pc OA on oc S P O (stockM S) := by
  obtain rfl := hs.stk.len
  obtain rfl := hs.prc.len
  obtain rfl := hs.ord.len
  have HG0 := Lib.hid (GW.start hs)
  obtain ⟨g0, g1, g2, g3⟩ := HG0.out.cells
  obtain ⟨he, hc⟩ := filE_zero hf
  have hF := fine_of he
  have Hcan := Lib.hid (fun T W (h : StIn W T SA S.length sc PA P.length pc OA O.length oc S P O (stockM S)) => can_any T SA S.length sc PA P.length pc OA O.length oc S P O (stockM S) W h hF.n5 hF.o8 (fun o ho => (hF.ord o ho).2) (fun j _ => by have := hF.ok.stk j; omega))
  rw [hc] at Hcan
  have Ho := Lib.hid (fun W (h : ShopIn W W.heap.size SA S.length sc PA P.length pc OA O.length oc S P O) => open_ok SA S.length sc PA P.length pc OA O.length oc S P O W h he)
  clear hs hf he hc hF
  go_enter Try.func66, Try.ntmps66
  go_wp2_with fail
  refine (Ho.out _ HG0.out.sh).mono ?_
  rintro e w4 ⟨T, rfl, hb, hst, hT⟩
  have HG1 := Lib.hid (HG0.out.later hb)
  clear hb HG0 g0 g1 g2 g3
  obtain ⟨g0, g1, g2, g3⟩ := HG1.out.cells
  have HO1 := Lib.hid hst
  clear hst hT
  obtain ⟨o0, o1, o2, o3⟩ := HO1.out.cells
  go_wp2_with fail
  refine (Hcan.out T _ HO1.out).mono ?_
  rintro e w5 ⟨rfl, hb⟩
  have HG2 := Lib.hid (HG1.out.later hb)
  have HO2 := Lib.hid (HO1.out.later hb)
  clear hb HG1 HO1 g0 g1 g2 g3 o0 o1 o2 o3
  obtain ⟨g0, g1, g2, g3⟩ := HG2.out.cells
  obtain ⟨o0, o1, o2, o3⟩ := HO2.out.cells
  go_wp2
  go_ret2
  exact ⟨T, rfl, HG2.out.bel, HO2.out⟩
set_option maxHeartbeats 2000000 in
theorem leastA_bad (hne : filE S P O ≠ 0) : Calls Try.prog 29 #[.agg #[.slice SA sn sc, .slice PA pn pc, .slice OA on oc]] w fun e w' => e = .returned (.tuple #[.int .i64 0, .int .i64 (filE S P O)]) ∧ Below w.heap.size w w' := by
  obtain rfl := hs.stk.len
  obtain rfl := hs.prc.len
  obtain rfl := hs.ord.len
  have HG0 := Lib.hid (GW.start hs)
  obtain ⟨g0, g1, g2, g3⟩ := HG0.out.cells
  have Ho := Lib.hid (fun W (h : ShopIn W W.heap.size SA S.length sc PA P.length pc OA O.length oc S P O) => filled_bad SA S.length sc PA P.length pc OA O.length oc S P O W h hne)
  obtain ⟨q, hq⟩ : ∃ q, filE S P O = q := ⟨_, rfl⟩
  rw [hq] at Ho hne ⊢
  have d1 : (q != 0) = true := by simpa using hne
  clear hs hne hq
  go_enter Try.func29, Try.ntmps29
  go_wp2_with fail
  refine (Ho.out _ HG0.out.sh).mono ?_
  rintro e w6 ⟨rfl, hb⟩
  have HG1 := Lib.hid (HG0.out.later hb)
  clear hb HG0 g0 g1 g2 g3
  obtain ⟨g0, g1, g2, g3⟩ := HG1.out.cells
  go_wp2
  go_ret2
  exact ⟨rfl, HG1.out.bel⟩
set_option maxHeartbeats 2000000 in
theorem leastA_ok (hf : filE S P O = 0) : Calls Try.prog 29 #[.agg #[.slice SA sn sc, .slice PA pn pc, .slice OA on oc]] w fun e w' => e = .returned (.tuple #[.int .i64 (leV S.length P O (stockM S)), .int .i64 0]) ∧ Below w.heap.size w w' := by
  obtain rfl := hs.stk.len
  obtain rfl := hs.prc.len
  obtain rfl := hs.ord.len
  have HG0 := Lib.hid (GW.start hs)
  obtain ⟨g0, g1, g2, g3⟩ := HG0.out.cells
  have Ho := Lib.hid (fun W (h : ShopIn W W.heap.size SA S.length sc PA P.length pc OA O.length oc S P O) => filled_ok SA S.length sc PA P.length pc OA O.length oc S P O W h hf)
  have Hl := Lib.hid (fun T W (h : StIn W T SA S.length sc PA P.length pc OA O.length oc S P O (stockM S)) => least_any T SA S.length sc PA P.length pc OA O.length oc S P O (stockM S) W h ((fine_of (filE_zero hf).1).ok.more (by omega)) (filE_zero hf).2)
  generalize leV S.length P O (stockM S) = v at *
  clear hs hf
  go_enter Try.func29, Try.ntmps29
  go_wp2_with fail
  refine (Ho.out _ HG0.out.sh).mono ?_
  rintro e w7 ⟨T, rfl, hb, hst⟩
  have HG1 := Lib.hid (HG0.out.later hb)
  clear hb HG0 g0 g1 g2 g3
  obtain ⟨g0, g1, g2, g3⟩ := HG1.out.cells
  have HO1 := Lib.hid hst
  clear hst
  obtain ⟨o0, o1, o2, o3⟩ := HO1.out.cells
  go_wp2_with fail
  refine (Hl.out T _ HO1.out).mono ?_
  rintro e w8 ⟨rfl, hb⟩
  have HG2 := Lib.hid (HG1.out.later hb)
  have HO2 := Lib.hid (HO1.out.later hb)
  clear hb HG1 HO1 g0 g1 g2 g3 o0 o1 o2 o3
  obtain ⟨g0, g1, g2, g3⟩ := HG2.out.cells
  obtain ⟨o0, o1, o2, o3⟩ := HO2.out.cells
  go_wp2
  go_ret2
  exact ⟨rfl, HG2.out.bel⟩
end
end Go.Proofs.Ytmfiggbobaihcaa
