/- grade.Refuse. -/
import Derived.Test.YtmfiggbobaihcaaGRefH
import Derived.Test.YtmfiggbobaihcaaGFillA
namespace Go.Proofs.Ytmfiggbobaihcaa
open Go.RowKit Go.Shelf

/-- Lists of the call's own. -/
structure OutN (W : World) (B : Nat) (v : Value) (L : List Rw) : Prop where
  own : W.ownsRow B 48 1 v L.length (L.flatMap encW)
  rows : ∀ r ∈ L, W.ownsRow B 3 1 (.slice r.A r.n r.c) r.xs.length (r.xs.map (Value.int .i64)) ∧ r.n = r.xs.length ∧ 0 < r.n
theorem OutN.later {W W' : World} {B : Nat} {v : Value} {L : List Rw} (h : OutN W B v L) (hb : Below W.heap.size W W') : OutN W' B v L := ⟨own_later h.own hb, fun r hr => ⟨own_later (h.rows r hr).1 hb, (h.rows r hr).2⟩⟩
theorem OutN.app {W W' : World} {B : Nat} {v v' : Value} {L : List Rw} {r : Rw} (h : OutN W B v L) (hr : W.ownsRow B 3 1 (.slice r.A r.n r.c) r.xs.length (r.xs.map (Value.int .i64))) (hn : r.n = r.xs.length) (h0 : 0 < r.n) (hg : W.grownBy W' v.ownBlock) (ho : W'.ownsRow B 48 1 v' (L.length + 1) (L.flatMap encW ++ [.slice r.A r.n r.c])) : OutN W' B v' (L ++ [r]) := by
  refine ⟨by simpa [encW] using ho, fun x hx => ?_⟩
  rcases List.mem_append.1 hx with hx | hx
  · have h1 := h.rows x hx
    exact ⟨own_grown h1.1 hg (own_apart (v' := v) h1.1 h.own (by decide)), h1.2⟩
  · obtain rfl : x = r := by simpa using hx
    exact ⟨own_grown hr hg (own_apart (v' := v) hr h.own (by decide)), hn, h0⟩
/-- Lists, as they are read: those that are empty are nil. -/
structure AllIn (W : World) (FA : Option Addr) (fn fc : Nat) (L : List Rw) : Prop where
  fl : FillIn W FA fn fc L
  nil_ : ∀ r ∈ L, r.n = 0 → r.A = none ∧ r.c = 0
theorem AllIn.later {W W' : World} {FA : Option Addr} {fn fc : Nat} {L : List Rw} (h : AllIn W FA fn fc L) (hb : Below W.heap.size W W') : AllIn W' FA fn fc L := ⟨h.fl.later hb, h.nil_⟩
theorem OutN.fill {W : World} {B : Nat} {v : Value} {L : List Rw} (h : OutN W B v L) : ∃ A c, v = .slice A L.length c ∧ AllIn W A L.length c L := by
  obtain ⟨A, c, hv, hsl⟩ := own_slG (k := 1) (enc := encW) (fun _ => rfl) h.own rfl
  refine ⟨A, c, hv, ⟨hsl, fun r hr => ?_⟩, fun r hr h0 => by have := (h.rows r hr).2.2; omega⟩
  obtain ⟨h1, h2, _⟩ := h.rows r hr
  obtain ⟨A', c', hv', hsl'⟩ := own_slI h1 rfl
  simp only [Value.slice.injEq] at hv'
  obtain ⟨rfl, h3, rfl⟩ := hv'
  rw [h2]
  exact hsl'
theorem run_app_row {W : World} {g n c B : Nat} {A : Option Addr} {xs : List Int} {x : Int} (ty : TypeId) (hB : B ≤ W.heap.size) (hs : Sl 1 encI W W.heap.size A n c xs) (h0 : n = 0 → A = none) (hg : W.cell? ⟨g, 0, none⟩ = some (.int .i64 x)) (h1 : n ≤ 1000) :
    ∃ v' W', (Builtin.append_ #[48, 48] ty #[.slice A n n, .slice (some ⟨g, 0, none⟩) 1 1]).run Try.prog W = .ok v' W' ∧ (Below W.heap.size W W' ∧ W'.ownsRow B 3 1 v' (n + 1) ((xs ++ [x]).map (Value.int .i64))) := by
  obtain ⟨i0, hi0, hz0, hz1, hz2⟩ := info_parts info_int
  have hl := hs.len
  by_cases hn : n = 0
  · subst hn
    obtain rfl := h0 rfl
    have hx : xs = [] := List.length_eq_zero_iff.1 hl
    subst hx
    obtain ⟨v', W', e1, e2, e3, _⟩ := run_append_own (P := Try.prog) W B 48 ty 3 i0 (.int .i64 0) 1 8 und_ints hi0 hz0 hz1 hz2 rfl (by decide) (.slice none 0 0) 0 [] (World.ownsRow_nil W B 3 1) ⟨g, 0, none⟩ 1 1 [.int .i64 x] rfl (one_newsI hg) (by simp [Value.oneCell']) (by simp only [maxLen]; omega) (by omega) hB
    exact ⟨v', W', e1, ⟨e3.os, e3.tape, e3.output, e3.size, fun k hk => e3.block k hk (by simp [Value.ownBlock])⟩, by simpa using e2⟩
  · obtain ⟨b, o, rfl, _, _⟩ := hs.at_ (by omega)
    obtain ⟨v', W', e1, e2, e3⟩ := run_append_arg_grows (P := Try.prog) W 48 ty 3 i0 (.int .i64 0) 1 8 und_ints hi0 hz0 hz1 hz2 rfl (by decide) ⟨b, o, none⟩ n n (xs.map (Value.int .i64)) (by simp [hl]) (sl_news hs (by omega)) ⟨g, 0, none⟩ 1 1 [.int .i64 x] rfl (one_newsI hg) (by omega) (by simp only [maxLen]; omega) (by omega)
    exact ⟨v', W', e1, ⟨e3.os, e3.tape, e3.output, e3.size, fun k hk => e3.block k hk (by simp)⟩, own_low (by simpa using e2) hB⟩
theorem und_lists : Try.prog.underlying 102 = some (.slice 48) := by kernel_rfl
theorem info_list : (Try.prog.info? 48).map (fun i => (i.zero, i.size, i.bytes)) = some (some (.slice none 0 0), 1, 24) := by kernel_rfl
/-- A block of lists that is new. -/
theorem nil_lists {W : World} {b : Nat} (hb : Blk W b 48 #[.slice none 0 0]) : AllIn W (some ⟨b, 0, none⟩) 1 1 [⟨none, 0, 0, []⟩] :=
  ⟨⟨⟨rfl, Nat.le_refl _, by omega, fun _ => ⟨b, 0, rfl, hb.lt, fun i x hx j u hu => by
    obtain ⟨hi, rfl⟩ := List.getElem?_eq_some_iff.1 hx
    obtain rfl : i = 0 := by simp at hi; omega
    obtain ⟨hj, rfl⟩ := List.getElem?_eq_some_iff.1 hu
    obtain rfl : j = 0 := by simp [encW] at hj; omega
    exact hb.cell 0⟩⟩, fun r hr => by obtain rfl : r = ⟨none, 0, 0, []⟩ := by simpa using hr
                                      exact Sl.nil_⟩, fun r hr _ => by obtain rfl : r = ⟨none, 0, 0, []⟩ := by simpa using hr
                                                                       exact ⟨rfl, rfl⟩⟩
/-- The lists of the next level, of the first lists of this one. -/
def nxtL (m : Nat) (Ls : List (List Int)) (i : Nat) : List (List Int) := (Ls.take i).flatMap (nextL m)
theorem nxtL_len (m : Nat) (Ls : List (List Int)) : ∀ i, (nxtL m Ls i).length ≤ m * i := by
  have h1 : ∀ L : List (List Int), (L.flatMap (nextL m)).length ≤ m * L.length := by
    intro L
    induction L with
    | nil => simp
    | cons l L ih =>
      rw [List.flatMap_cons, List.length_append, List.length_cons, Nat.mul_add]
      have : (nextL m l).length ≤ m := by simp only [nextL, moreL, List.length_map, List.length_range']; omega
      omega
  intro i
  refine Nat.le_trans (h1 _) (Nat.mul_le_mul_left m ?_)
  simp
  omega
theorem nxtL_step {m : Nat} {Ls : List (List Int)} {i : Nat} {l : List Int} (h : Ls[i]? = some l) : nxtL m Ls (i + 1) = nxtL m Ls i ++ nextL m l := by
  unfold nxtL
  rw [List.take_add_one, h, Option.toList_some, List.flatMap_append]
  simp
theorem nxtL_all (m : Nat) (Ls : List (List Int)) : nxtL m Ls Ls.length = Ls.flatMap (nextL m) := by unfold nxtL; rw [List.take_length]
theorem find_list {α : Type} {p : α → Bool} {l : List α} {i : Nat} {x : α} (hx : l[i]? = some x) (hp : p x = true) (hn : ∀ (j : Nat) y, j < i → l[j]? = some y → p y = false) : l.find? p = some x := by
  obtain ⟨hi, rfl⟩ := List.getElem?_eq_some_iff.1 hx
  rw [List.find?_eq_some_iff_getElem]
  exact ⟨hp, i, hi, rfl, fun j hj => by rw [hn j _ hj (List.getElem?_eq_getElem (by omega))]; rfl⟩
theorem find_none_list {α : Type} {p : α → Bool} {l : List α} (hn : ∀ (j : Nat) y, l[j]? = some y → p y = false) : l.find? p = none := by
  rw [List.find?_eq_none]
  intro x hx
  obtain ⟨j, hj⟩ := List.getElem?_of_mem hx
  rw [hn j x hj]
  decide
/-- The lists that go on from one, so far. -/
def partL (l : List Int) (f j : Nat) : List (List Int) := (List.range' f (j - f)).map fun i : Nat => l ++ [(i : Int)]
theorem partL_step {l : List Int} {f j : Nat} (h : f ≤ j) : partL l f (j + 1) = partL l f j ++ [l ++ [(j : Int)]] := by
  unfold partL
  rw [show j + 1 - f = (j - f) + 1 by omega, List.range'_concat, List.map_append]
  simp [show f + (j - f) = j by omega]
theorem partL_len (l : List Int) (f j : Nat) : (partL l f j).length = j - f := by simp [partL]
section
variable (SA : Option Addr) (sn sc : Nat) (PA : Option Addr) (pn pc : Nat) (OA : Option Addr) (on oc : Nat) (S P : List Int) (O : List Od) (w : World) (hs : ShopIn w w.heap.size SA sn sc PA pn pc OA on oc S P O)
include hs
set_option maxHeartbeats 2000000 in
theorem refuse_bad (hne : shopE S P O ≠ 0) : Calls Try.prog 40 #[.agg #[.slice SA sn sc, .slice PA pn pc, .slice OA on oc]] w fun e w' => e = .returned (.tuple #[.slice none 0 0, .int .i64 (shopE S P O)]) ∧ Below w.heap.size w w' := by
  obtain rfl := hs.stk.len
  obtain rfl := hs.prc.len
  obtain rfl := hs.ord.len
  have HG0 := Lib.hid (GW.start hs)
  obtain ⟨g0, g1, g2, g3⟩ := HG0.out.cells
  have he := hne
  have Ho := Lib.hid (fun W (h : ShopIn W W.heap.size SA S.length sc PA P.length pc OA O.length oc S P O) => open_bad SA S.length sc PA P.length pc OA O.length oc S P O W h he)
  clear he
  obtain ⟨q, hq⟩ : ∃ q, shopE S P O = q := ⟨_, rfl⟩
  rw [hq] at Ho hne ⊢
  have d1 : (q != 0) = true := by simpa using hne
  clear hs hq hne
  go_enter Try.func40, Try.ntmps40
  go_wp2_with fail
  refine (Ho.out _ HG0.out.sh).mono ?_
  rintro e w1 ⟨rfl, hb⟩
  have HG1 := Lib.hid (HG0.out.later hb)
  clear hb HG0 g0 g1 g2 g3
  obtain ⟨g0, g1, g2, g3⟩ := HG1.out.cells
  go_wp2
  go_ret2
  exact ⟨rfl, HG1.out.bel⟩
set_option maxRecDepth 100000 in
set_option maxHeartbeats 8000000 in
theorem refuse_ok (he : shopE S P O = 0) : Calls Try.prog 40 #[.agg #[.slice SA sn sc, .slice PA pn pc, .slice OA on oc]] w fun e w' => ∃ A n c, e = .returned (.tuple #[.slice A n c, .int .i64 0]) ∧ Below w.heap.size w w' ∧ Sl 1 encI w' w'.heap.size A n c (refR S.length O (stockM S)) := by
  obtain rfl := hs.stk.len
  obtain rfl := hs.prc.len
  obtain rfl := hs.ord.len
  have HG0 := Lib.hid (GW.start hs)
  obtain ⟨g0, g1, g2, g3⟩ := HG0.out.cells
  have hF := fine_of he
  have HF := Lib.hid hF
  have o8 := hF.o8
  have Ho := Lib.hid (fun W (h : ShopIn W W.heap.size SA S.length sc PA P.length pc OA O.length oc S P O) => open_ok SA S.length sc PA P.length pc OA O.length oc S P O W h he)
  have Hwo := Lib.hid (fun T (A : Option Addr) (n c : Nat) (l : List Int) W (h : StIn W T SA S.length sc PA P.length pc OA O.length oc S P O (stockM S)) (hr : Sl 1 encI W W.heap.size A n c l) => without_any T SA S.length sc PA P.length pc OA O.length oc S P O (stockM S) A n c l W h (hF.ok.more (by omega)) rfl hr)
  obtain ⟨res, hres⟩ : ∃ res, refR S.length O (stockM S) = res := ⟨_, rfl⟩
  rw [hres]
  have Hres := Lib.hid hres
  clear hs he hF hres
  go_enter Try.func40, Try.ntmps40
  go_wp2_with fail
  refine (Ho.out _ HG0.out.sh).mono ?_
  rintro e w2 ⟨T, rfl, hb, hst, hT⟩
  have HG1 := Lib.hid (HG0.out.later hb)
  clear hb HG0 g0 g1 g2 g3
  obtain ⟨g0, g1, g2, g3⟩ := HG1.out.cells
  have HO1 := Lib.hid hst
  clear hst hT
  obtain ⟨o0, o1, o2, o3⟩ := HO1.out.cells
  have hA := nil_lists (Blk.new w2 48 #[.slice none 0 0])
  have HA0 := Lib.hid hA
  clear hA
  go_wp2_with fail
  have HG2 := Lib.hid (HG1.out.later (balloc (brefl w2) (.cells #[.slice none 0 0] 48)))
  have HO2 := Lib.hid (HO1.out.later (balloc (brefl w2) (.cells #[.slice none 0 0] 48)))
  clear HG1 HO1 g0 g1 g2 g3 o0 o1 o2 o3
  obtain ⟨g0, g1, g2, g3⟩ := HG2.out.cells
  obtain ⟨o0, o1, o2, o3⟩ := HO2.out.cells
  refine loop_n (fun m b W => b.defers = [] ∧ ∃ (k : Nat) (FA : Option Addr) (fc : Nat) (L : List Rw), k + m = O.length ∧ L.map (fun r => r.xs) = levL O.length k ∧ Hid (GW w W w.heap.size SA S.length sc PA P.length pc OA O.length oc S P O) ∧ Hid (StIn W T SA S.length sc PA P.length pc OA O.length oc S P O (stockM S)) ∧ Hid (AllIn W FA L.length fc L) ∧ Hid (∀ j, j < k → findR S.length O (stockM S) j = none) ∧ Fits (none :: some (.pointer (some ⟨w.heap.size, 0, none⟩)) :: none :: none :: some (.pointer (some ⟨T, 0, none⟩)) :: none :: some (.slice FA L.length fc) :: none :: none :: none :: none :: none :: none :: none :: none :: none :: none :: none :: none :: none :: none :: none :: none :: none :: none :: none :: none :: none :: none :: none :: none :: none :: none :: none :: none :: none :: none :: none :: none :: none :: none :: none :: none :: none :: none :: none :: none :: none :: none :: none :: none :: none :: none :: none :: none :: none :: none :: none :: none :: none :: none :: none :: none :: none :: none :: none :: none :: none :: none :: none :: none :: []) b.tmps.toList) O.length ?_ ?_
  · refine ⟨rfl, 0, _, _, [⟨none, 0, 0, []⟩], by omega, rfl, HG2, HO2, HA0, Lib.hid (fun j h => by omega), ?_⟩
    repeat (first | exact fits_nil | refine fits_none ?_ | refine fits_some ?_)
  clear HG2 HO2 HA0 g0 g1 g2 g3 o0 o1 o2 o3
  intro m b W0 hI K hK
  obtain ⟨hds, k, FA, fc, L, hkm, hLl, HG0, HO0, HA0, HN, hfit⟩ := hI
  obtain ⟨f, hf⟩ := fits_act hfit
  rw [hds] at hf
  subst hf
  clear hfit hds
  simp only [fillP, Nat.reduceAdd]
  have hLn : L.length ≤ 8 ^ 8 := by
    have h1 := levL_size O.length k
    rw [← hLl, List.length_map] at h1
    have h2 : O.length ^ k ≤ 8 ^ k := Nat.pow_le_pow_left o8 k
    have h3 : 8 ^ k ≤ 8 ^ 8 := Nat.pow_le_pow_right (by omega) (by omega)
    omega
  have Hk := Lib.hid (show k + m = O.length from hkm)
  have HLl := Lib.hid hLl
  have HLn := Lib.hid (show L.length ≤ 16777216 by simpa using hLn)
  have HB0 := Lib.hid (brefl W0)
  have HX0 := Lib.hid (show OutN W0 W0.heap.size (.slice none 0 0) [] from ⟨World.ownsRow_nil _ _ _ _, fun r hr => by cases hr⟩)
  clear hkm hLl hLn
  go_wp2_with fail
  refine wp_scope_straight ?_
  go_wp2_with fail
  refine wp_label ?_
  go_wp2_with fail
  refine loop_n (fun q b W => b.defers = [] ∧ ∃ (i : Nat) (v : Value) (X : List Rw), i + q = L.length ∧ Hid (Below W0.heap.size W0 W) ∧ Hid (OutN W W0.heap.size v X) ∧ Hid (X.map (fun r => r.xs) = nxtL O.length (levL O.length k) i) ∧ Hid (∀ (j : Nat) r, j < i → L[j]? = some r → okR S.length O (stockM S) r.xs = false) ∧ Fits (none :: some (.pointer (some ⟨w.heap.size, 0, none⟩)) :: none :: none :: some (.pointer (some ⟨T, 0, none⟩)) :: none :: none :: some (v) :: none :: none :: none :: none :: none :: none :: none :: none :: none :: none :: none :: none :: none :: some (.slice FA L.length fc) :: some (.int .i64 (L.length : Int)) :: some (.int .i64 (i : Nat)) :: none :: none :: none :: none :: none :: none :: none :: none :: none :: none :: none :: none :: none :: none :: none :: none :: none :: none :: none :: none :: none :: none :: none :: none :: none :: none :: none :: none :: none :: none :: none :: none :: none :: none :: none :: none :: none :: none :: none :: none :: none :: none :: none :: none :: none :: none :: none :: []) b.tmps.toList) L.length ?_ ?_
  · refine ⟨rfl, 0, _, [], by omega, HB0, HX0, Lib.hid rfl, Lib.hid (fun j r h => by omega), ?_⟩
    repeat (first | exact fits_nil | refine fits_none ?_ | refine fits_some ?_)
  clear HB0 HX0
  intro q b W hI K2 hK2
  obtain ⟨hds, i, v, X, hiq, HB, HX, HXm, HNo, hfit⟩ := hI
  obtain ⟨f2, hf2⟩ := fits_act hfit
  rw [hds] at hf2
  subst hf2
  clear hfit hds
  simp only [fillP, Nat.reduceAdd]
  by_cases hlt : i < L.length
  · obtain ⟨rb, ro, r, hFA, hrb, hr, p0⟩ := (HA0.out.later HB.out).fl.sl.ltW (i := i) hlt
    subst hFA
    have i1 : (i : Int) < (L.length : Int) := by omega
    have i2 : (0 : Int) ≤ (i : Int) := by omega
    have hll := HLn.out
    have i3 : IntKind.i64.wrap ((i : Int) + 1) = (i : Int) + 1 := by rw [IntKind.wrap_i64]; omega
    have Hiq := Lib.hid (show i + q = L.length ∧ i < L.length from ⟨hiq, hlt⟩)
    have Hr := Lib.hid hr
    have hmem := List.mem_of_getElem? hr
    have hnil := HA0.out.nil_ r hmem
    have Hrow := Lib.hid (HA0.out.fl.rows r hmem)
    have hlv : (levL O.length k)[i]? = some r.xs := by rw [← HLl.out, List.getElem?_map, hr]; rfl
    have Hlv := Lib.hid hlv
    have hri := levL_is O.length k r.xs (List.mem_of_getElem? hlv)
    have Hri := Lib.hid hri
    have Hcall := Lib.hid (Hwo.out T r.A r.n r.c r.xs W (HO0.out.later HB.out) (Hrow.out.later HB.out))
    have hok : canB S.length (woO O r.xs) (stockM S) = okR S.length O (stockM S) r.xs := rfl
    rw [hok] at Hcall
    obtain ⟨qo, hqo⟩ : ∃ qo, okR S.length O (stockM S) r.xs = qo := ⟨_, rfl⟩
    rw [hqo] at Hcall
    have Hqo := Lib.hid hqo
    obtain ⟨rA, rn, rc, rxs⟩ := r
    simp only at p0 hnil Hrow Hlv Hri Hqo
    have Hnil := Lib.hid hnil
    clear hiq hlt hr hmem hnil hlv hri hok hqo
    go_wp2_with fail
    refine Hcall.out.mono ?_
    rintro e W1 ⟨rfl, hb1⟩
    have HB1 := Lib.hid (Below.later HB.out hb1)
    have HX1 := Lib.hid (HX.out.later hb1)
    clear hb1 HB HX p0 hrb Hcall
    clear W
    cases qo with
    | true =>
      have HR := Lib.hid (show res = rxs by
        rw [← Hres.out]
        refine refR_at (by have := Hk.out; omega) ?_ HN.out
        unfold findR
        refine find_list Hlv.out Hqo.out fun j y hj hy => ?_
        rw [← HLl.out, List.getElem?_map, Option.map_eq_some_iff] at hy
        obtain ⟨r', h1, rfl⟩ := hy
        exact HNo.out j r' hj h1)
      have Hrow2 := Lib.hid (Hrow.out.later HB1.out)
      have HG9 := Lib.hid (HG0.out.later HB1.out).bel
      clear hK hK2
      go_wp2
      go_simp
      go_ret2
      exact ⟨_, _, _, rfl, HG9.out, by rw [HR.out]; exact Hrow2.out⟩
    | false =>
      have HNo2 := Lib.hid (show ∀ (j : Nat) r, j < i + 1 → L[j]? = some r → okR S.length O (stockM S) r.xs = false from fun j r' hj hr' => by
        rcases Nat.lt_or_ge j i with h | h
        · exact HNo.out j r' h hr'
        · obtain rfl : j = i := by omega
          rw [Hr.out] at hr'
          cases hr'
          exact Hqo.out)
      obtain ⟨fr, hfr⟩ : ∃ fr, fromL rxs = fr := ⟨_, rfl⟩
      have hfm := Hri.out.from_le
      rw [hfr] at hfm
      have Hnx := Lib.hid (show nxtL O.length (levL O.length k) (i + 1) = nxtL O.length (levL O.length k) i ++ partL rxs fr O.length by rw [nxtL_step Hlv.out, ← hfr]; rfl)
      have Hxn := Lib.hid (show (nxtL O.length (levL O.length k) i).length ≤ 8 * 16777216 from Nat.le_trans (nxtL_len _ _ i) (Nat.le_trans (Nat.mul_le_mul_right i o8) (by have := Hiq.out; omega)))
      have Hfm := Lib.hid (show fr ≤ O.length ∧ O.length ≤ 8 ∧ rn ≤ 8 from ⟨hfm, o8, by have h1 := Hri.out.len; have h2 := Hrow.out.len; have := Hk.out; omega⟩)
      have f1 := HG0.out.b0.cell 2
      obtain ⟨g0, g1, g2, g3⟩ := (HG0.out.later HB1.out).cells
      by_cases hn0 : rn = 0
      · subst hn0
        obtain ⟨rfl, rfl⟩ := Hnil.out rfl
        have hx0 : rxs = [] := List.length_eq_zero_iff.1 Hrow.out.len
        have hf0 : fr = 0 := by rw [← hfr, hx0]; rfl
        have HFr := Lib.hid (show ((fr : Nat) : Int) = 0 by omega)
        have Hm0 := Lib.hid (show fr = O.length → ((0 : Int) == (O.length : Int)) = true from fun h => by simp; omega)
        have Hm1 := Lib.hid (show ¬ fr = O.length → ((0 : Int) == (O.length : Int)) = false ∧ ¬ O.length = 0 from fun h => ⟨by simp; omega, by omega⟩)
        have Hap := Lib.hid (fun (ty : TypeId) (j : Nat) W (hb : Below W0.heap.size W0 W) => run_app_row (W := W.alloc (.cells #[.int .i64 (j : Int)] 3)) (g := W.heap.size) (B := W0.heap.size) (x := (j : Int)) ty (by have := hb.size; simp; omega) ((Hrow.out.later hb).later (balloc (brefl W) _)) (fun _ => rfl) ((Blk.new W _ _).cell 0) (by omega))
        have hn8 : 0 ≤ 8 := by omega
        have q8 : (0 : Nat) ≤ 0 := by omega
        have q9 : (0 : Int) ≤ (0 : Int) := by omega
        clear hx0 hfr hfm hf0 f1
        obtain ⟨qm, hqm⟩ : ∃ qm, decide (fr = O.length) = qm := ⟨_, rfl⟩
        cases qm with
        | true =>
          have hfe := of_decide_eq_true hqm
          have m1 := Hm0.out hfe
          have HXm2 := Lib.hid (show X.map (fun r => r.xs) = nxtL O.length (levL O.length k) (i + 1) by
            rw [HXm.out, Hnx.out]
            unfold partL
            rw [hfe, Nat.sub_self, List.range'_zero, List.map_nil, List.append_nil])
          clear hqm hfe
          go_wp2
          refine hK2 _ _ (q - 1) (by have := Hiq.out; omega) ⟨rfl, i + 1, v, X, by have := Hiq.out; omega, HB1, HX1, HXm2, HNo2, ?_⟩
          repeat (first | exact fits_nil | refine fits_none ?_ | refine fits_some ?_)
        | false =>
          have hfe := of_decide_eq_false hqm
          obtain ⟨m1, m2⟩ := Hm1.out hfe
          have HXp := Lib.hid (show X.map (fun r => r.xs) = nxtL O.length (levL O.length k) i ++ partL rxs fr fr by
            rw [HXm.out]
            unfold partL
            rw [Nat.sub_self, List.range'_zero, List.map_nil, List.append_nil])
          clear hqm hfe
          go_wp2_with fail
          refine loop_n (fun p b W => b.defers = [] ∧ ∃ (j : Nat) (v : Value) (X : List Rw), fr ≤ j ∧ j + p = O.length ∧ Hid (Below W0.heap.size W0 W) ∧ Hid (OutN W W0.heap.size v X) ∧ Hid (X.map (fun r => r.xs) = nxtL O.length (levL O.length k) i ++ partL rxs fr j) ∧ Fits (none :: some (.pointer (some ⟨w.heap.size, 0, none⟩)) :: none :: none :: some (.pointer (some ⟨T, 0, none⟩)) :: none :: none :: some (v) :: none :: some (.slice none 0 0) :: none :: some (.int .i64 (j : Nat)) :: none :: none :: none :: none :: none :: none :: none :: none :: none :: some (.slice (some ⟨rb, ro, none⟩) L.length fc) :: some (.int .i64 (L.length : Int)) :: some (.int .i64 (i : Nat)) :: none :: none :: none :: none :: none :: none :: none :: none :: none :: none :: none :: none :: none :: none :: none :: none :: none :: none :: none :: none :: none :: none :: none :: none :: none :: none :: none :: none :: none :: none :: none :: none :: none :: none :: none :: none :: none :: none :: none :: none :: none :: none :: none :: none :: none :: none :: none :: []) b.tmps.toList) (O.length - fr) ?_ ?_
          · refine ⟨rfl, fr, _, X, Nat.le_refl _, by have := Hfm.out; omega, HB1, HX1, HXp, ?_⟩
            rw [HFr.out]
            repeat (first | exact fits_nil | refine fits_none ?_ | refine fits_some ?_)
          clear HB1 HX1 HXp HXm Hm0 Hm1 HFr m1 m2 g0 g1 g2 g3
          intro p b W hI K3 hK3
          obtain ⟨hds, j, v, X, hfj, hjp, HB, HX, HXm, hfit⟩ := hI
          obtain ⟨f3, hf3⟩ := fits_act hfit
          rw [hds] at hf3
          subst hf3
          clear hfit hds
          simp only [fillP, Nat.reduceAdd]
          obtain ⟨g0, g1, g2, g3⟩ := (HG0.out.later HB.out).cells
          by_cases hlt : j < O.length
          · have j1 : (j : Int) < (O.length : Int) := by omega
            have j2 : (0 : Int) ≤ (j : Int) := by omega
            have j3 : IntKind.i64.wrap ((j : Int) + 1) = (j : Int) + 1 := by rw [IntKind.wrap_i64]; omega
            have Hj := Lib.hid (show fr ≤ j ∧ j + p = O.length ∧ j < O.length from ⟨hfj, hjp, hlt⟩)
            have hxl : X.length ≤ 200000000 := by
              have h1 := congrArg List.length HXm.out
              rw [List.length_map, List.length_append, partL_len] at h1
              have := Hxn.out
              omega
            obtain ⟨i0, hi0, hz0, hz1, hz2⟩ := info_parts info_list
            have hwz := HB.out.size
            clear hfj hjp hlt
            go_wp2_with (first
              | (at_builtin; refine wpList_append_run rfl _ _ 48 rfl rfl rfl (Hap.out _ j W HB.out) ?_; rintro v1 W2 ⟨hb2, ho2⟩; have HB2 := Lib.hid (Below.later (balloc HB.out (.cells #[.int .i64 (j : Int)] 3)) hb2); have HX2 := Lib.hid ((HX.out.later (balloc (brefl W) (.cells #[.int .i64 (j : Int)] 3))).later hb2); have hsz2 : W0.heap.size ≤ W2.heap.size := HB2.out.size; obtain ⟨gz, c1, rfl⟩ := own_succ ho2; have hlen : (rxs ++ [(j : Int)]).length = 0 + 1 := (by rw [List.length_append, Hrow.out.len]; rfl); have HRa := Lib.hid (own_later ho2 (balloc (brefl W2) (.cells #[.slice (some ⟨gz, 0, none⟩) (0 + 1) c1] 48))); have HXa := Lib.hid (HX2.out.later (balloc (brefl W2) (.cells #[.slice (some ⟨gz, 0, none⟩) (0 + 1) c1] 48))); have HBa := Lib.hid (balloc HB2.out (.cells #[.slice (some ⟨gz, 0, none⟩) (0 + 1) c1] 48)); have Hlen := Lib.hid hlen; clear hb2 ho2 HX2 hlen)
              | (at_builtin; refine wpList_append_own _ rfl _ _ 102 rfl W0.heap.size 48 i0 (.slice none 0 0) 1 24 und_lists hi0 hz0 hz1 hz2 rfl (by decide) v X.length _ rfl HXa.out.own ⟨W2.heap.size, 0, none⟩ 1 1 [.slice (some ⟨gz, 0, none⟩) (0 + 1) c1] rfl rfl (one_new _ _ _) (by simp [Value.oneCell']) (by simp only [maxLen]; omega) (by omega) (by simp; omega) ?_; intro v' W3 hown' hgr _; have HX4 := Lib.hid (HXa.out.app (r := ⟨some ⟨gz, 0, none⟩, 0 + 1, c1, rxs ++ [(j : Int)]⟩) (by rw [Hlen.out]; exact HRa.out) Hlen.out.symm (Nat.succ_pos _) hgr hown'); have HB4 := Lib.hid (below_own HBa.out HXa.out.own (Nat.le_refl _) hgr); clear hown' hgr))
            refine hK3 _ _ (p - 1) (by have := Hj.out; omega) ⟨rfl, j + 1, v', X ++ [⟨some ⟨gz, 0, none⟩, 0 + 1, c1, rxs ++ [(j : Int)]⟩], by have := Hj.out; omega, by have := Hj.out; omega, HB4, HX4, Lib.hid (by rw [List.map_append, HXm.out, partL_step Hj.out.1, ← List.append_assoc]; rfl), ?_⟩
            repeat (first | exact fits_nil | refine fits_none ?_ | refine fits_some ?_)
          · obtain rfl : j = O.length := by omega
            have j1 : ¬ (O.length : Int) < (O.length : Int) := by omega
            have HXm2 := Lib.hid (show X.map (fun r => r.xs) = nxtL O.length (levL O.length k) (i + 1) by rw [HXm.out, Hnx.out])
            clear hfj hjp hlt hK3
            go_wp2
            refine hK2 _ _ (q - 1) (by have := Hiq.out; omega) ⟨rfl, i + 1, v, X, by have := Hiq.out; omega, HB, HX, HXm2, HNo2, ?_⟩
            repeat (first | exact fits_nil | refine fits_none ?_ | refine fits_some ?_)
      · obtain ⟨lb, lo, x, rfl, hlb, hx, q0⟩ := (Hrow.out.later HB1.out).ltI (i := rn - 1) (by omega)
        have hxl : rxs.getLast? = some x := by rw [List.getLast?_eq_getElem?, Hrow.out.len]; exact hx
        have hxi := Hri.out.inn x (List.mem_of_getElem? hx)
        have hf0 : ((fr : Nat) : Int) = x + 1 := by
          have h1 : fromL rxs = x.toNat + 1 := by unfold fromL; rw [hxl]
          rw [← hfr, h1]
          omega
        have hcap := Hrow.out.cap
        have hbig := Hrow.out.big
        have n1 : (0 : Int) < (rn : Int) := by omega
        have n2 : IntKind.i64.wrap ((rn : Int) - 1) = (rn : Int) - 1 := by have := Hfm.out; rw [IntKind.wrap_i64]; omega
        have n3 : (rn : Int) - 1 < (rn : Int) := by omega
        have n4 : (0 : Int) ≤ (rn : Int) - 1 := by omega
        have n5 : ((rn : Int) - 1).toNat = rn - 1 := by omega
        have n6 : IntKind.i64.wrap (x + 1) = x + 1 := by have := Hfm.out; rw [IntKind.wrap_i64]; omega
        have n7 : rn ≤ rc := hcap
        have n8 : (rn : Int) ≤ (rc : Int) := by omega
        have n9 : 0 < rn := by omega
        have HFr := Lib.hid hf0
        have Hm0 := Lib.hid (show fr = O.length → (x + 1 == (O.length : Int)) = true from fun h => by simp; omega)
        have Hm1 := Lib.hid (show ¬ fr = O.length → (x + 1 == (O.length : Int)) = false ∧ ¬ x + 1 = (O.length : Int) from fun h => ⟨by simp; omega, by omega⟩)
        have Hap := Lib.hid (fun (ty : TypeId) (j : Nat) W (hb : Below W0.heap.size W0 W) => run_app_row (W := W.alloc (.cells #[.int .i64 (j : Int)] 3)) (g := W.heap.size) (B := W0.heap.size) (x := (j : Int)) ty (by have := hb.size; simp; omega) ((Hrow.out.later hb).later (balloc (brefl W) _)) (fun h => by omega) ((Blk.new W _ _).cell 0) (by have := Hfm.out; omega))
        have hn8 : rn ≤ 8 := Hfm.out.2.2
        have q8 : rn ≤ rn := Nat.le_refl _
        have q9 : (rn : Int) ≤ (rn : Int) := Int.le_refl _
        clear hx hxl hxi hfr hfm hf0 f1 hbig hn0 hcap
        obtain ⟨qm, hqm⟩ : ∃ qm, decide (fr = O.length) = qm := ⟨_, rfl⟩
        cases qm with
        | true =>
          have hfe := of_decide_eq_true hqm
          have m1 := Hm0.out hfe
          have HXm2 := Lib.hid (show X.map (fun r => r.xs) = nxtL O.length (levL O.length k) (i + 1) by
            rw [HXm.out, Hnx.out]
            unfold partL
            rw [hfe, Nat.sub_self, List.range'_zero, List.map_nil, List.append_nil])
          clear hqm hfe
          go_wp2
          refine hK2 _ _ (q - 1) (by have := Hiq.out; omega) ⟨rfl, i + 1, v, X, by have := Hiq.out; omega, HB1, HX1, HXm2, HNo2, ?_⟩
          repeat (first | exact fits_nil | refine fits_none ?_ | refine fits_some ?_)
        | false =>
          have hfe := of_decide_eq_false hqm
          obtain ⟨m1, m2⟩ := Hm1.out hfe
          have HXp := Lib.hid (show X.map (fun r => r.xs) = nxtL O.length (levL O.length k) i ++ partL rxs fr fr by
            rw [HXm.out]
            unfold partL
            rw [Nat.sub_self, List.range'_zero, List.map_nil, List.append_nil])
          clear hqm hfe
          go_wp2_with fail
          refine loop_n (fun p b W => b.defers = [] ∧ ∃ (j : Nat) (v : Value) (X : List Rw), fr ≤ j ∧ j + p = O.length ∧ Hid (Below W0.heap.size W0 W) ∧ Hid (OutN W W0.heap.size v X) ∧ Hid (X.map (fun r => r.xs) = nxtL O.length (levL O.length k) i ++ partL rxs fr j) ∧ Fits (none :: some (.pointer (some ⟨w.heap.size, 0, none⟩)) :: none :: none :: some (.pointer (some ⟨T, 0, none⟩)) :: none :: none :: some (v) :: none :: some (.slice (some ⟨lb, lo, none⟩) rn rc) :: none :: some (.int .i64 (j : Nat)) :: none :: none :: none :: none :: none :: none :: none :: none :: none :: some (.slice (some ⟨rb, ro, none⟩) L.length fc) :: some (.int .i64 (L.length : Int)) :: some (.int .i64 (i : Nat)) :: none :: none :: none :: none :: none :: none :: none :: none :: none :: none :: none :: none :: none :: none :: none :: none :: none :: none :: none :: none :: none :: none :: none :: none :: none :: none :: none :: none :: none :: none :: none :: none :: none :: none :: none :: none :: none :: none :: none :: none :: none :: none :: none :: none :: none :: none :: none :: []) b.tmps.toList) (O.length - fr) ?_ ?_
          · refine ⟨rfl, fr, _, X, Nat.le_refl _, by have := Hfm.out; omega, HB1, HX1, HXp, ?_⟩
            rw [HFr.out]
            repeat (first | exact fits_nil | refine fits_none ?_ | refine fits_some ?_)
          clear HB1 HX1 HXp HXm Hm0 Hm1 HFr m1 m2 g0 g1 g2 g3
          intro p b W hI K3 hK3
          obtain ⟨hds, j, v, X, hfj, hjp, HB, HX, HXm, hfit⟩ := hI
          obtain ⟨f3, hf3⟩ := fits_act hfit
          rw [hds] at hf3
          subst hf3
          clear hfit hds
          simp only [fillP, Nat.reduceAdd]
          obtain ⟨g0, g1, g2, g3⟩ := (HG0.out.later HB.out).cells
          by_cases hlt : j < O.length
          · have j1 : (j : Int) < (O.length : Int) := by omega
            have j2 : (0 : Int) ≤ (j : Int) := by omega
            have j3 : IntKind.i64.wrap ((j : Int) + 1) = (j : Int) + 1 := by rw [IntKind.wrap_i64]; omega
            have Hj := Lib.hid (show fr ≤ j ∧ j + p = O.length ∧ j < O.length from ⟨hfj, hjp, hlt⟩)
            have hxl : X.length ≤ 200000000 := by
              have h1 := congrArg List.length HXm.out
              rw [List.length_map, List.length_append, partL_len] at h1
              have := Hxn.out
              omega
            obtain ⟨i0, hi0, hz0, hz1, hz2⟩ := info_parts info_list
            have hwz := HB.out.size
            clear hfj hjp hlt
            go_wp2_with (first
              | (at_builtin; refine wpList_append_run rfl _ _ 48 rfl rfl rfl (Hap.out _ j W HB.out) ?_; rintro v1 W2 ⟨hb2, ho2⟩; have HB2 := Lib.hid (Below.later (balloc HB.out (.cells #[.int .i64 (j : Int)] 3)) hb2); have HX2 := Lib.hid ((HX.out.later (balloc (brefl W) (.cells #[.int .i64 (j : Int)] 3))).later hb2); have hsz2 : W0.heap.size ≤ W2.heap.size := HB2.out.size; obtain ⟨gz, c1, rfl⟩ := own_succ ho2; have hlen : (rxs ++ [(j : Int)]).length = rn + 1 := (by rw [List.length_append, Hrow.out.len]; rfl); have HRa := Lib.hid (own_later ho2 (balloc (brefl W2) (.cells #[.slice (some ⟨gz, 0, none⟩) (rn + 1) c1] 48))); have HXa := Lib.hid (HX2.out.later (balloc (brefl W2) (.cells #[.slice (some ⟨gz, 0, none⟩) (rn + 1) c1] 48))); have HBa := Lib.hid (balloc HB2.out (.cells #[.slice (some ⟨gz, 0, none⟩) (rn + 1) c1] 48)); have Hlen := Lib.hid hlen; clear hb2 ho2 HX2 hlen)
              | (at_builtin; refine wpList_append_own _ rfl _ _ 102 rfl W0.heap.size 48 i0 (.slice none 0 0) 1 24 und_lists hi0 hz0 hz1 hz2 rfl (by decide) v X.length _ rfl HXa.out.own ⟨W2.heap.size, 0, none⟩ 1 1 [.slice (some ⟨gz, 0, none⟩) (rn + 1) c1] rfl rfl (one_new _ _ _) (by simp [Value.oneCell']) (by simp only [maxLen]; omega) (by omega) (by simp; omega) ?_; intro v' W3 hown' hgr _; have HX4 := Lib.hid (HXa.out.app (r := ⟨some ⟨gz, 0, none⟩, rn + 1, c1, rxs ++ [(j : Int)]⟩) (by rw [Hlen.out]; exact HRa.out) Hlen.out.symm (Nat.succ_pos _) hgr hown'); have HB4 := Lib.hid (below_own HBa.out HXa.out.own (Nat.le_refl _) hgr); clear hown' hgr))
            refine hK3 _ _ (p - 1) (by have := Hj.out; omega) ⟨rfl, j + 1, v', X ++ [⟨some ⟨gz, 0, none⟩, rn + 1, c1, rxs ++ [(j : Int)]⟩], by have := Hj.out; omega, by have := Hj.out; omega, HB4, HX4, Lib.hid (by rw [List.map_append, HXm.out, partL_step Hj.out.1, ← List.append_assoc]; rfl), ?_⟩
            repeat (first | exact fits_nil | refine fits_none ?_ | refine fits_some ?_)
          · obtain rfl : j = O.length := by omega
            have j1 : ¬ (O.length : Int) < (O.length : Int) := by omega
            have HXm2 := Lib.hid (show X.map (fun r => r.xs) = nxtL O.length (levL O.length k) (i + 1) by rw [HXm.out, Hnx.out])
            clear hfj hjp hlt hK3
            go_wp2
            refine hK2 _ _ (q - 1) (by have := Hiq.out; omega) ⟨rfl, i + 1, v, X, by have := Hiq.out; omega, HB, HX, HXm2, HNo2, ?_⟩
            repeat (first | exact fits_nil | refine fits_none ?_ | refine fits_some ?_)
  · obtain rfl : i = L.length := by omega
    have i1 : ¬ (L.length : Int) < (L.length : Int) := by omega
    have hfk : findR S.length O (stockM S) k = none := by
      unfold findR
      refine find_none_list fun j y hy => ?_
      rw [← HLl.out, List.getElem?_map, Option.map_eq_some_iff] at hy
      obtain ⟨r', h1, rfl⟩ := hy
      exact HNo.out j r' (List.getElem?_eq_some_iff.1 h1).1 h1
    have hkm : k < O.length := by
      rcases Nat.lt_or_ge k O.length with h | h
      · exact h
      · obtain rfl : k = O.length := by have := Hk.out; omega
        obtain ⟨l', hl'⟩ := findR_all (n := S.length) (O := O) (fun j => (HF.out.ok.stk j).1)
        rw [hfk] at hl'
        cases hl'
    have hXl : X.map (fun r => r.xs) = levL O.length (k + 1) := by
      rw [HXm.out, show L.length = (levL O.length k).length by rw [← HLl.out, List.length_map], nxtL_all]
      rfl
    have hne : X.length ≠ 0 := by
      intro h
      have h1 := congrArg List.length hXl
      rw [List.length_map, h] at h1
      exact levL_some (show k + 1 ≤ O.length by omega) (List.length_eq_zero_iff.1 h1.symm)
    obtain ⟨A, c, rfl, hall⟩ := HX.out.fill
    have HA1 := Lib.hid hall
    have HG1 := Lib.hid (HG0.out.later HB.out)
    have HO1 := Lib.hid (HO0.out.later HB.out)
    have HN2 := Lib.hid (show ∀ j, j < k + 1 → findR S.length O (stockM S) j = none from fun j hj => by
      rcases Nat.lt_or_ge j k with h | h
      · exact HN.out j h
      · obtain rfl : j = k := by omega
        exact hfk)
    have HXl := Lib.hid hXl
    have Hkm := Lib.hid hkm
    have n1 : ((X.length : Int) == 0) = false := by rw [beq_eq_false_iff_ne]; omega
    have n2 : ¬ (X.length : Int) = 0 := by omega
    have n3 : ¬ X.length = 0 := hne
    have n4 : X ≠ [] := fun h => hne (by rw [h]; rfl)
    clear hiq hlt hfk hkm hXl hne hall hK2
    go_wp2
    refine hK _ _ (m - 1) (by have := Hkm.out; have := Hk.out; omega) ⟨rfl, k + 1, A, c, X, by have := Hkm.out; have := Hk.out; omega, HXl.out, HG1, HO1, HA1, HN2, ?_⟩
    repeat (first | exact fits_nil | refine fits_none ?_ | refine fits_some ?_)
end
end Go.Proofs.Ytmfiggbobaihcaa
