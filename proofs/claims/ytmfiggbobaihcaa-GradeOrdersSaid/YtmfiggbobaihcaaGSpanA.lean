/- grade.Span. -/
import Derived.Test.YtmfiggbobaihcaaGApiC
namespace Go.Proofs.Ytmfiggbobaihcaa
open Go.RowKit Go.Shelf

/-- A stock that is grown. -/
def addM (M : Nat → Int) (L : List Int) : Nat → Int := fun j => M j + L.getD j 0
/-- A number that may not be added to the stock. -/
def overB (S : List Int) (L : List Int) : Bool := (List.range L.length).any fun g => !inR 0 (50 - S.getD g 0) (L.getD g 0)
/-- What Span returns. -/
def spanR (S P : List Int) (O : List Od) (L : List Int) : Int × Int × Int :=
  if shopE S P O ≠ 0 then (0, 0, shopE S P O) else if L.length ≠ S.length then (0, 0, 15) else if overB S L then (0, 0, 3) else if canB S.length O (stockM S) then (leV S.length P O (addM (stockM S) L), leV S.length P O (stockM S), 0) else (0, 0, 25)
theorem take_getD (L : List Int) (i j : Nat) : (L.take i).getD j 0 = if j < i then L.getD j 0 else 0 := by
  rw [List.getD_eq_getElem?_getD, List.getD_eq_getElem?_getD, List.getElem?_take]
  split <;> rfl
theorem addM_zero (M : Nat → Int) (L : List Int) : addM M (L.take 0) = M := by
  funext j
  simp [addM]
theorem addM_succ (M : Nat → Int) (L : List Int) (i : Nat) : addM M (L.take (i + 1)) = Gr9.upd (addM M (L.take i)) i (addM M (L.take i) i + L.getD i 0) := by
  funext j
  show M j + (L.take (i + 1)).getD j 0 = if j = i then (M i + (L.take i).getD i 0) + L.getD i 0 else M j + (L.take i).getD j 0
  rw [take_getD, take_getD, take_getD]
  by_cases e : j = i
  · subst e; rw [if_pos rfl, if_pos (by omega), if_neg (by omega)]; omega
  · rw [if_neg e]
    by_cases c : j < i
    · rw [if_pos c, if_pos (by omega)]
    · rw [if_neg c, if_neg (by omega)]
theorem overB_no {S L : List Int} (h : overB S L = false) {g : Nat} (hg : g < L.length) : 0 ≤ L.getD g 0 ∧ L.getD g 0 ≤ 50 - S.getD g 0 := by
  have h1 := List.any_eq_false.1 h g (List.mem_range.2 hg)
  rw [Bool.not_eq_true', Bool.not_eq_false] at h1
  exact (inR_iff _ _ _).1 h1
theorem ShOk.add {S P : List Int} {O : List Od} {L : List Int} (h : ShOk S.length P O (stockM S) 50) (ho : overB S L = false) (i : Nat) : ShOk S.length P O (addM (stockM S) (L.take i)) 100 := ⟨h.n1, h.n5, h.oin, h.len, h.prc, h.fall, fun j => by
  have h1 := h.stk j
  unfold addM
  rw [take_getD]
  split
  · by_cases c : j < L.length
    · have h2 := overB_no ho c
      have h3 : stockM S j = S.getD j 0 := rfl
      omega
    · rw [List.getD_eq_getElem?_getD, List.getElem?_eq_none (by omega)]
      simp only [Option.getD_none]
      omega
  · omega⟩
theorem can_add {n : Nat} {O : List Od} {M M' : Nat → Int} (hc : canB n O M = true) (h : ∀ j, M j ≤ M' j) : canB n O M' = true := by
  rw [canB_iff] at hc ⊢
  intro g hg
  have h1 := hc g hg
  have h2 := Gr9.pre_le (f := M) (g := M') (g + 1) fun i _ => h i
  unfold shortI at h1 ⊢
  rw [sumN_pre] at h1 ⊢
  omega
theorem can_more {S : List Int} {O : List Od} {L : List Int} (hc : canB S.length O (stockM S) = true) (ho : overB S L = false) (i : Nat) : canB S.length O (addM (stockM S) (L.take i)) = true := can_add hc fun j => by
  unfold addM
  rw [take_getD]
  split
  · by_cases c : j < L.length
    · have h2 := overB_no ho c
      omega
    · rw [List.getD_eq_getElem?_getD, List.getElem?_eq_none (by omega)]
      simp
  · omega
theorem overB_yes {S L : List Int} {g : Nat} {x y : Int} (hx : L[g]? = some x) (hy : S[g]? = some y) (h : inR 0 (50 - y) x = false) : overB S L = true := by
  refine List.any_eq_true.2 ⟨g, List.mem_range.2 (List.getElem?_eq_some_iff.1 hx).1, ?_⟩
  rw [sl_getD hx, sl_getD hy, h]
  rfl
theorem overB_all {S L : List Int} (h : ∀ (j : Nat) x y, L[j]? = some x → S[j]? = some y → inR 0 (50 - y) x = true) (hl : L.length = S.length) : overB S L = false := by
  refine List.any_eq_false.2 fun g hg => ?_
  have hg := List.mem_range.1 hg
  have hx := List.getElem?_eq_getElem hg
  have hy := List.getElem?_eq_getElem (show g < S.length by omega)
  rw [sl_getD hx, sl_getD hy, h g _ _ hx hy]
  simp
theorem ret_three {a b c a' b' c' : Int} (h : a = a') (h2 : b = b') (h3 : c = c') : Ending.returned (.tuple #[.int .i64 a, .int .i64 b, .int .i64 c]) = .returned (.tuple #[.int .i64 a', .int .i64 b', .int .i64 c']) := by rw [h, h2, h3]
/-- A list that is handed in. -/
structure ListIn (W : World) (LA : Option Addr) (ln lc : Nat) (L : List Int) : Prop where
  sl : Sl 1 encI W W.heap.size LA ln lc L
theorem ListIn.later {W W' : World} {LA : Option Addr} {ln lc : Nat} {L : List Int} (h : ListIn W LA ln lc L) (hb : Below W.heap.size W W') : ListIn W' LA ln lc L := ⟨h.sl.later hb⟩
set_option maxRecDepth 100000 in
set_option maxHeartbeats 8000000 in
theorem span_any (SA : Option Addr) (sn sc : Nat) (PA : Option Addr) (pn pc : Nat) (OA : Option Addr) (on oc : Nat) (S P : List Int) (O : List Od) (LA : Option Addr) (ln lc : Nat) (L : List Int) (w : World) (hs : ShopIn w w.heap.size SA sn sc PA pn pc OA on oc S P O) (hl : Sl 1 encI w w.heap.size LA ln lc L) : Calls Try.prog 38 #[.agg #[.slice SA sn sc, .slice PA pn pc, .slice OA on oc], .slice LA ln lc] w fun e w' => e = .returned (.tuple #[.int .i64 (spanR S P O L).1, .int .i64 (spanR S P O L).2.1, .int .i64 (spanR S P O L).2.2]) ∧ Below w.heap.size w w' := by
  obtain rfl := hs.stk.len
  obtain rfl := hs.prc.len
  obtain rfl := hs.ord.len
  have HG0 := Lib.hid (GW.start hs)
  obtain ⟨g0, g1, g2, g3⟩ := HG0.out.cells
  obtain rfl := hl.len
  have HL0 := Lib.hid (ListIn.later ⟨hl⟩ (balloc (brefl w) (.cells #[.slice SA S.length sc, .slice PA P.length pc, .slice OA O.length oc] 25)))
  unfold spanR
  by_cases he : shopE S P O = 0
  case neg =>
    rw [if_pos he]
    have Ho := Lib.hid (fun W (h : ShopIn W W.heap.size SA S.length sc PA P.length pc OA O.length oc S P O) => open_bad SA S.length sc PA P.length pc OA O.length oc S P O W h he)
    obtain ⟨q, hq⟩ : ∃ q, shopE S P O = q := ⟨_, rfl⟩
    rw [hq] at Ho he ⊢
    have d1 : (q != 0) = true := by simpa using he
    clear hs hq he
    go_enter Try.func38, Try.ntmps38
    go_wp2_with fail
    refine (Ho.out _ HG0.out.sh).mono ?_
    rintro e w1 ⟨rfl, hb⟩
    have HG1 := Lib.hid (HG0.out.later hb)
    clear hb HG0 g0 g1 g2 g3
    obtain ⟨g0, g1, g2, g3⟩ := HG1.out.cells
    go_wp2
    go_ret3
    exact ⟨rfl, HG1.out.bel⟩
  rw [if_neg (fun h => h he)]
  have hF := fine_of he
  have Hok := Lib.hid hF.ok
  have Ho := Lib.hid (fun W (h : ShopIn W W.heap.size SA S.length sc PA P.length pc OA O.length oc S P O) => open_ok SA S.length sc PA P.length pc OA O.length oc S P O W h he)
  by_cases hn : L.length = S.length
  case neg =>
    rw [if_pos hn]
    have dn : ((L.length : Int) != (S.length : Int)) = true := by simp; omega
    have dn2 : ¬ L.length = S.length := hn
    clear hs he hF hn hl
    go_enter Try.func38, Try.ntmps38
    go_wp2_with fail
    refine (Ho.out _ HG0.out.sh).mono ?_
    rintro e w2 ⟨T, rfl, hb, hst, hT⟩
    have HG1 := Lib.hid (HG0.out.later hb)
    clear hb HG0 g0 g1 g2 g3
    obtain ⟨g0, g1, g2, g3⟩ := HG1.out.cells
    have HO1 := Lib.hid hst
    clear hst hT
    obtain ⟨o0, o1, o2, o3⟩ := HO1.out.cells
    go_wp2
    go_ret3
    exact ⟨rfl, HG1.out.bel⟩
  rw [if_neg (fun h => h hn)]
  have dn : ((L.length : Int) != (S.length : Int)) = false := by simp; omega
  have Hn := Lib.hid hn
  have n5 : L.length ≤ 5 := by have := hF.n5; omega
  have Hst := Lib.hid hF.stk
  have Hcan := Lib.hid (fun T W (h : StIn W T SA S.length sc PA P.length pc OA O.length oc S P O (stockM S)) => can_any T SA S.length sc PA P.length pc OA O.length oc S P O (stockM S) W h hF.n5 hF.o8 (fun o ho => (hF.ord o ho).2) (fun j _ => by have := hF.ok.stk j; omega))
  obtain ⟨res, hres⟩ : ∃ res : Int × Int × Int, (if overB S L then (0, 0, 3) else if canB S.length O (stockM S) then (leV S.length P O (addM (stockM S) L), leV S.length P O (stockM S), 0) else (0, 0, 25)) = res := ⟨_, rfl⟩
  rw [hres]
  have Hres := Lib.hid hres
  have Hsh := Lib.hid hs
  have Hl := Lib.hid hl
  clear hs he hF hn hl hres
  go_enter Try.func38, Try.ntmps38
  go_wp2_with fail
  refine (Ho.out _ HG0.out.sh).mono ?_
  rintro e w3 ⟨T, rfl, hb, hst, hT⟩
  have HG1 := Lib.hid (HG0.out.later hb)
  have HL1 := Lib.hid (HL0.out.later hb)
  clear hb HG0 HL0 g0 g1 g2 g3
  obtain ⟨g0, g1, g2, g3⟩ := HG1.out.cells
  have HO1 := Lib.hid hst
  have HT := Lib.hid (show w.heap.size + 1 ≤ T by simpa using hT)
  clear hst hT
  obtain ⟨o0, o1, o2, o3⟩ := HO1.out.cells
  go_wp2_with fail
  refine loop_n (fun m b W => b.defers = [] ∧ ∃ i : Nat, i + m = L.length ∧ Hid (GW w W w.heap.size SA S.length sc PA P.length pc OA O.length oc S P O) ∧ Hid (ListIn W LA L.length lc L) ∧ Hid (StIn W T SA S.length sc PA P.length pc OA O.length oc S P O (stockM S)) ∧ Hid (∀ (j : Nat) x y, j < i → L[j]? = some x → S[j]? = some y → inR 0 (50 - y) x = true) ∧ Fits (none :: some (.slice LA L.length lc) :: some (.pointer (some ⟨w.heap.size, 0, none⟩)) :: none :: none :: none :: none :: some (.pointer (some ⟨T, 0, none⟩)) :: none :: none :: none :: none :: none :: none :: none :: none :: none :: none :: none :: none :: none :: none :: none :: none :: none :: none :: none :: none :: none :: none :: some (.slice LA L.length lc) :: some (.int .i64 (L.length : Int)) :: some (.int .i64 (i : Nat)) :: none :: none :: none :: none :: none :: none :: none :: none :: none :: none :: none :: none :: none :: none :: none :: none :: none :: none :: none :: none :: none :: none :: none :: none :: none :: none :: none :: none :: none :: none :: none :: none :: none :: none :: none :: none :: none :: none :: none :: none :: none :: none :: []) b.tmps.toList) L.length ?_ ?_
  · refine ⟨rfl, 0, by omega, HG1, HL1, HO1, Lib.hid (fun j x y h => by omega), ?_⟩
    repeat (first | exact fits_nil | refine fits_none ?_ | refine fits_some ?_)
  clear HG1 HL1 HO1 g0 g1 g2 g3 o0 o1 o2 o3
  intro m b W hI K hK
  obtain ⟨hds, i, him, HG0, HL0, HO0, HN, hfit⟩ := hI
  obtain ⟨f, hf⟩ := fits_act hfit
  rw [hds] at hf
  subst hf
  clear hfit hds
  simp only [fillP, Nat.reduceAdd]
  obtain ⟨g0, g1, g2, g3⟩ := HG0.out.cells
  obtain ⟨o0, o1, o2, o3⟩ := HO0.out.cells
  by_cases hlt : i < L.length
  · obtain ⟨rb, ro, x, rfl, hrb, hx, p0⟩ := HL0.out.sl.ltI (i := i) hlt
    obtain ⟨qb, qo, y, rfl, hqb, hy, q0⟩ := HG0.out.sh.stk.ltI (i := i) (by have := Hn.out; omega)
    have hy50 := Hst.out y (List.mem_of_getElem? hy)
    have i1 : (i : Int) < (L.length : Int) := by omega
    have i2 : (0 : Int) ≤ (i : Int) := by omega
    have i3 : IntKind.i64.wrap ((i : Int) + 1) = (i : Int) + 1 := by rw [IntKind.wrap_i64]; omega
    have i4 : (i : Int) < (S.length : Int) := by have := Hn.out; omega
    have i5 : IntKind.i64.wrap (50 - y) = 50 - y := by rw [IntKind.wrap_i64]; omega
    have Him := Lib.hid (show i + m = L.length ∧ i < L.length from ⟨him, hlt⟩)
    have Hx := Lib.hid hx
    have Hy := Lib.hid hy
    obtain ⟨q, hq⟩ : ∃ q, inR 0 (50 - y) x = q := ⟨_, rfl⟩
    have Hq := Lib.hid hq
    clear him hlt hx hy hy50 hq
    have HG1 := Lib.hid (HG0.out.later (balloc (brefl W) (.cells #[.int .i64 x] 2)))
    have HL1 := Lib.hid (HL0.out.later (balloc (brefl W) (.cells #[.int .i64 x] 2)))
    have HO1 := Lib.hid (HO0.out.later (balloc (brefl W) (.cells #[.int .i64 x] 2)))
    go_wp2_with fail
    refine (within_one 0 (50 - y) x W.heap.size _ (by simp) (by go_simp)).mono ?_
    rintro e w9 ⟨rfl, hb⟩
    rw [Hq.out]
    have HG2 := Lib.hid (HG1.out.later hb)
    have HL2 := Lib.hid (HL1.out.later hb)
    have HO2 := Lib.hid (HO1.out.later hb)
    clear hb HG0 HL0 HO0 HG1 HL1 HO1 g0 g1 g2 g3 o0 o1 o2 o3 p0 q0
    cases q with
    | false =>
      have HR := Lib.hid (show res = (0, 0, 3) by rw [← Hres.out, if_pos (overB_yes Hx.out Hy.out Hq.out)])
      clear hK
      go_wp2
      go_ret3
      exact ⟨ret_three (by rw [HR.out]) (by rw [HR.out]) (by rw [HR.out]), HG2.out.bel⟩
    | true =>
      have HN2 := Lib.hid (show ∀ (j : Nat) x y, j < i + 1 → L[j]? = some x → S[j]? = some y → inR 0 (50 - y) x = true from fun j a b hj ha hb => by
        rcases Nat.lt_or_ge j i with h | h
        · exact HN.out j a b h ha hb
        · obtain rfl : j = i := by omega
          have h1 := Hx.out
          have h2 := Hy.out
          rw [ha] at h1; rw [hb] at h2; cases h1; cases h2; exact Hq.out)
      go_wp2
      refine hK _ _ (m - 1) (by have := Him.out; omega) ⟨rfl, i + 1, by have := Him.out; omega, HG2, HL2, HO2, HN2, ?_⟩
      repeat (first | exact fits_nil | refine fits_none ?_ | refine fits_some ?_)
  have i1 : ¬ (i : Int) < (L.length : Int) := by omega
  have Hov := Lib.hid (overB_all (fun j x y hx hy => HN.out j x y (by have := (List.getElem?_eq_some_iff.1 hx).1; omega) hx hy) Hn.out)
  have Hn5 := Lib.hid n5
  clear hK him hlt HN
  go_wp2_with fail
  refine (Hcan.out T _ HO0.out).mono ?_
  rintro e w8 ⟨rfl, hb⟩
  have HG1 := Lib.hid (HG0.out.later hb)
  have HL1 := Lib.hid (HL0.out.later hb)
  have HO1 := Lib.hid (HO0.out.later hb)
  clear hb HG0 HL0 HO0 g0 g1 g2 g3 o0 o1 o2 o3
  obtain ⟨q, hq⟩ : ∃ q, canB S.length O (stockM S) = q := ⟨_, rfl⟩
  rw [hq]
  have Hq := Lib.hid hq
  clear hq
  cases q with
  | false =>
    have HR := Lib.hid (show res = (0, 0, 25) by rw [← Hres.out, if_neg (by rw [Hov.out]; decide), if_neg (by rw [Hq.out]; decide)])
    go_wp2
    go_ret3
    exact ⟨ret_three (by rw [HR.out]) (by rw [HR.out]) (by rw [HR.out]), HG1.out.bel⟩
  | true =>
  have HR := Lib.hid (show res = (leV S.length P O (addM (stockM S) L), leV S.length P O (stockM S), 0) by rw [← Hres.out, if_neg (by rw [Hov.out]; decide), if_pos Hq.out])
  go_wp2_with fail
  refine (least_any T _ _ _ _ _ _ _ _ _ S P O (stockM S) _ HO1.out (Hok.out.more (by omega)) Hq.out).mono ?_
  rintro e w7 ⟨rfl, hb⟩
  have HG2 := Lib.hid (HG1.out.later hb)
  have HL2 := Lib.hid (HL1.out.later hb)
  have HO2 := Lib.hid (HO1.out.later hb)
  clear hb HG1 HL1 HO1
  generalize hv1 : leV S.length P O (stockM S) = v1 at *
  clear hv1
  have HB0 := Lib.hid HG2.out.bel
  have HX0 := Lib.hid (show Blk w7 T 83 (stoC SA S.length sc PA P.length pc OA O.length oc (addM (stockM S) (L.take 0))) by rw [addM_zero]; exact HO2.out.b0)
  have Hok2 := Lib.hid (fun i => Hok.out.add Hov.out i)
  have Hov0 := Lib.hid (fun (g : Nat) (x : Int) (h : L[g]? = some x) => (show 0 ≤ x ∧ x ≤ 50 from by
    have h1 := overB_no Hov.out (List.getElem?_eq_some_iff.1 h).1
    rw [sl_getD h] at h1
    have h2 : stockM S g = S.getD g 0 := rfl
    have h3 := (Hok.out.stk g).1
    omega))
  clear HG2 HL2 HO2 Hcan
  go_wp2_with fail
  refine loop_n (fun m b W => b.defers = [] ∧ ∃ i : Nat, i + m = L.length ∧ Hid (Below w.heap.size w W) ∧ Hid (Blk W T 83 (stoC SA S.length sc PA P.length pc OA O.length oc (addM (stockM S) (L.take i)))) ∧ Fits (none :: none :: none :: none :: none :: none :: none :: some (.pointer (some ⟨T, 0, none⟩)) :: none :: none :: none :: some (.int .i64 v1) :: none :: none :: none :: none :: none :: none :: none :: none :: none :: none :: none :: none :: none :: none :: none :: none :: none :: none :: none :: none :: none :: none :: none :: none :: none :: none :: none :: none :: none :: none :: none :: none :: none :: none :: none :: none :: none :: none :: none :: none :: none :: some (.slice LA L.length lc) :: some (.int .i64 (L.length : Int)) :: some (.int .i64 (i : Nat)) :: none :: none :: none :: none :: none :: none :: none :: none :: none :: none :: none :: none :: none :: none :: none :: none :: none :: none :: none :: []) b.tmps.toList) L.length ?_ ?_
  · refine ⟨rfl, 0, by omega, HB0, HX0, ?_⟩
    repeat (first | exact fits_nil | refine fits_none ?_ | refine fits_some ?_)
  clear HB0 HX0
  intro m b W hI K hK
  obtain ⟨hds, i, him, HB, HX, hfit⟩ := hI
  obtain ⟨f, hf⟩ := fits_act hfit
  rw [hds] at hf
  subst hf
  clear hfit hds
  simp only [fillP, Nat.reduceAdd]
  by_cases hlt : i < L.length
  · obtain ⟨rb, ro, x, rfl, hrb, hx, p0⟩ := (Hl.out.later HB.out).ltI (i := i) hlt
    have hn5 := Hn5.out
    have hst : StIn W T SA S.length sc PA P.length pc OA O.length oc S P O (addM (stockM S) (L.take i)) := ⟨HX.out, Hsh.out.later HB.out⟩
    have q0 := hst.stock (g := i) (by omega)
    have q1 := HX.out.frozen (3 + i)
    have q2 := HX.out.lt
    have hx50 := Hov0.out i x hx
    have hM := (Hok2.out i).stk i
    have i1 : (i : Int) < (L.length : Int) := by omega
    have i2 : (0 : Int) ≤ (i : Int) := by omega
    have i3 : IntKind.i64.wrap ((i : Int) + 1) = (i : Int) + 1 := by rw [IntKind.wrap_i64]; omega
    have i4 : (i : Int) < 5 := by omega
    have i5 : IntKind.i64.wrap (addM (stockM S) (L.take i) i + x) = addM (stockM S) (L.take i) i + x := by rw [IntKind.wrap_i64]; omega
    have hset := HX.out.set (3 + i) (.int .i64 (addM (stockM S) (L.take i) i + x))
    rw [sto_set _ _ _ _ _ _ _ _ _ _ (by omega)] at hset
    have hadd := addM_succ (stockM S) L i
    rw [sl_getD hx] at hadd
    rw [← hadd] at hset
    have HB2 := Lib.hid (HB.out.setCell (p := ⟨T, 3 + i, none⟩) (show w.heap.size ≤ T by have := HT.out; omega) (.int .i64 (addM (stockM S) (L.take i) i + x)))
    have HX2 := Lib.hid hset
    have Him := Lib.hid (show i + m = L.length ∧ i < L.length from ⟨him, hlt⟩)
    generalize addM (stockM S) (L.take i) i = y at *
    clear hst hx hx50 hM hset hadd him hlt HX HB
    go_wp2_with fail
    go_region
    go_wp2_with fail
    refine hK _ _ (m - 1) (by have := Him.out; omega) ⟨rfl, i + 1, by have := Him.out; omega, Lib.hid ⟨HB2.out.os, HB2.out.tape, HB2.out.output, HB2.out.size, HB2.out.block⟩, Lib.hid HX2.out, ?_⟩
    repeat (first | exact fits_nil | refine fits_none ?_ | refine fits_some ?_)
  · obtain rfl : i = L.length := by omega
    have i1 : ¬ (L.length : Int) < (L.length : Int) := by omega
    rw [List.take_length] at HX
    have hst : StIn W T SA S.length sc PA P.length pc OA O.length oc S P O (addM (stockM S) L) := ⟨HX.out, Hsh.out.later HB.out⟩
    have hok2 : ShOk S.length P O (addM (stockM S) L) 150 := by
      have := (Hok2.out L.length).more (b' := 150) (by omega)
      rwa [List.take_length] at this
    have hc2 : canB S.length O (addM (stockM S) L) = true := by
      have := can_more (L := L) Hq.out Hov.out L.length
      rwa [List.take_length] at this
    have HL := Lib.hid (least_any T SA S.length sc PA P.length pc OA O.length oc S P O _ W hst hok2 hc2)
    generalize hv2 : leV S.length P O (addM (stockM S) L) = v2 at *
    clear hv2 hst hok2 hc2 hK him hlt HX
    go_wp2_with fail
    refine HL.out.mono ?_
    rintro e w6 ⟨rfl, hb⟩
    have HB2 := Lib.hid (Below.later HB.out hb)
    clear hb
    go_wp2
    go_ret3
    exact ⟨ret_three (by rw [HR.out]) (by rw [HR.out]) (by rw [HR.out]), HB2.out⟩
end Go.Proofs.Ytmfiggbobaihcaa
