/- The document's grown, Refuse. -/
import Derived.Test.YtmfiggbobaihcaaGRefF
namespace Go.Proofs.Ytmfiggbobaihcaa
open Go.RowKit Go.Shelf

/-- An empty list, by its form alone. -/
def EmpS (v : Value) (_ : World) : Prop := ∃ g, v = .slice (some ⟨g, 0, none⟩) 0 0
def RowN (B : Nat) (xs : List Int) (v : Value) (W : World) : Prop := W.ownsRow B 3 1 v xs.length (xs.map (Value.int .i64))
theorem RowN.stab {B : Nat} {xs : List Int} : ∀ v W W', Gr W W' → RowN B xs v W → RowN B xs v W' := fun _ _ _ hG h => own_later h hG
/-- A list's copy: empty by its form, or of the call's own. -/
def CpyN (B : Nat) (xs : List Int) (v : Value) (W : World) : Prop := (xs = [] ∧ ∃ g, v = .slice (some ⟨g, 0, none⟩) 0 0) ∨ RowN B xs v W
theorem CpyN.stab {B : Nat} {xs : List Int} : ∀ v W W', Gr W W' → CpyN B xs v W → CpyN B xs v W' := fun _ _ _ hG h => h.elim .inl fun h => .inr (own_later h hG)
theorem run_app_emp {W : World} {g0 n c B : Nat} {A : Option Addr} {xs : List Int} (ty : TypeId) (hB : B ≤ W.heap.size) (hs : Sl 1 encI W W.heap.size A n c xs) (h1 : n ≤ 1000) :
    ∃ v' W', (Builtin.append_ #[48, 48] ty #[.slice (some ⟨g0, 0, none⟩) 0 0, .slice A n c]).run Try.prog W = .ok v' W' ∧ (Gr W W' ∧ CpyN B xs v' W') := by
  obtain ⟨i0, hi0, hz0, hz1, hz2⟩ := info_parts info_int
  have hl := hs.len
  by_cases h0 : n = 0
  · subst h0
    have hx : xs = [] := List.length_eq_zero_iff.1 hl
    subst hx
    refine ⟨.slice (some ⟨g0, 0, none⟩) 0 0, W, ?_, brefl W, .inl ⟨rfl, _, rfl⟩⟩
    cases A with
    | none => simp [Builtin.append_, run_underlying und_ints, sizeOf, typeInfo, hi0, Builtin.lenOf, Builtin.firstCells, loadCells, storeCells]
    | some A => simp [Builtin.append_, run_underlying und_ints, sizeOf, typeInfo, hi0, Builtin.lenOf, Builtin.firstCells, loadCells, loadCellsFrom, storeCells]
  · obtain ⟨b, o, rfl, _, _⟩ := hs.at_ (by omega)
    obtain ⟨v', W', e1, e2, e3⟩ := run_append_arg_grows (P := Try.prog) W 48 ty 3 i0 (.int .i64 0) 1 8 und_ints hi0 hz0 hz1 hz2 rfl (by decide) ⟨g0, 0, none⟩ 0 0 [] (by simp) (by simp) ⟨b, o, none⟩ n c (xs.map (Value.int .i64)) (by simp [hl]) (sl_news hs (by omega)) (by omega) (by simp only [maxLen]; omega) (by omega)
    refine ⟨v', W', e1, ⟨e3.os, e3.tape, e3.output, e3.size, fun k hk => e3.block k hk (by simp)⟩, .inr (own_low ?_ hB)⟩
    rw [hl]
    simpa using e2
/-- One number more. -/
theorem run_app_n {W : World} {g n B : Nat} {v : Value} {xs : List Int} {x : Int} (ty : TypeId) (hB : B ≤ W.heap.size) (h : CpyN B xs v W) (hg : W.cell? ⟨g, 0, none⟩ = some (.int .i64 x)) (hn : xs.length = n) (h1 : n ≤ 1000) :
    ∃ v' W', (Builtin.append_ #[48, 48] ty #[v, .slice (some ⟨g, 0, none⟩) 1 1]).run Try.prog W = .ok v' W' ∧ (GrT B 3 W W' ∧ RowN B (xs ++ [x]) v' W') := by
  obtain ⟨i0, hi0, hz0, hz1, hz2⟩ := info_parts info_int
  rcases h with ⟨rfl, g0, rfl⟩ | h
  · obtain ⟨v', W', e1, e2, e3⟩ := run_append_arg_grows (P := Try.prog) W 48 ty 3 i0 (.int .i64 0) 1 8 und_ints hi0 hz0 hz1 hz2 rfl (by decide) ⟨g0, 0, none⟩ 0 0 [] (by simp) (by simp) ⟨g, 0, none⟩ 1 1 [.int .i64 x] rfl (one_newsI hg) (by omega) (by simp only [maxLen]; omega) (by omega)
    exact ⟨v', W', e1, ⟨none, e3, fun r hr => by cases hr⟩, own_low (by simpa using e2) hB⟩
  · have h' := h
    unfold RowN at h
    obtain ⟨v', W', e1, e2, e3, _⟩ := run_append_own (P := Try.prog) W B 48 ty 3 i0 (.int .i64 0) 1 8 und_ints hi0 hz0 hz1 hz2 rfl (by decide) v xs.length _ h ⟨g, 0, none⟩ 1 1 [.int .i64 x] rfl (one_newsI hg) (by simp [Value.oneCell']) (by simp only [maxLen]; omega) (by omega) hB
    refine ⟨v', W', e1, grT_of_own e3 h (Nat.le_refl _), ?_⟩
    unfold RowN
    simpa using e2
/-- A list that may have been found, as a call returns it. -/
def GRes (q : Option (List Int)) (v : Value) (W : World) : Prop := ∃ A n c, v = .tuple #[.slice A n c, .bool q.isSome] ∧ ∀ l', q = some l' → Sl 1 encI W W.heap.size A n c l'
theorem GRes.stab {q : Option (List Int)} : ∀ v W W', Gr W W' → GRes q v W → GRes q v W' := fun _ _ _ hG ⟨A, n, c, h1, h2⟩ => ⟨A, n, c, h1, fun l' h => (h2 l' h).later hG⟩
def SRes (q : Option (List Int)) (v : Value) (W : World) : Prop := ∃ A n c, v = .slice A n c ∧ ∀ l', q = some l' → Sl 1 encI W W.heap.size A n c l'
theorem SRes.stab {q : Option (List Int)} : ∀ v W W', Gr W W' → SRes q v W → SRes q v W' := fun _ _ _ hG ⟨A, n, c, h1, h2⟩ => ⟨A, n, c, h1, fun l' h => (h2 l' h).later hG⟩
theorem Fine.wo {S P : List Int} {O : List Od} (h : Fine S P O) (R : List Int) : Fine S P (woO O R) := ⟨h.n1, h.n5, Nat.le_trans (woT_len O R _) h.o8, h.len, h.stk, h.prc, fun o ho => h.ord o (woT_mem O R _ (Nat.le_refl _) o ho), h.fall⟩
theorem findSome_from {α : Type} {f : Nat → Option α} {a n i : Nat} {x : α} (ha : a ≤ i) (hi : i < n) (hx : f i = some x) (hn : ∀ j, a ≤ j → j < i → f j = none) : (List.range' a (n - a)).findSome? f = some x := by
  rw [show n - a = (i - a) + (n - i) by omega, ← List.range'_append, List.findSome?_append]
  have h1 : (List.range' a (i - a)).findSome? f = none := List.findSome?_eq_none_iff.2 fun j hj => by
    have := List.mem_range'_1.1 hj
    exact hn j this.1 (by omega)
  obtain ⟨d, hd⟩ : ∃ d, n - i = d + 1 := ⟨n - i - 1, by omega⟩
  rw [h1, Option.none_or, hd, List.range'_succ, List.findSome?_cons, show a + 1 * (i - a) = i by omega, hx]
theorem findSome_none {α : Type} {f : Nat → Option α} {a n : Nat} (hn : ∀ j, a ≤ j → j < n → f j = none) : (List.range' a (n - a)).findSome? f = none := List.findSome?_eq_none_iff.2 fun j hj => by
  have := List.mem_range'_1.1 hj
  exact hn j this.1 (by omega)
theorem desL_find (m k : Nat) (l : List Int) (f : Nat) (p : List Int → Bool) : (desL m (k + 1) l f).find? p = (List.range' f (m - f)).findSome? fun i : Nat => (desL m k (l ++ [(i : Int)]) (i + 1)).find? p := by
  rw [desL, List.find?_flatMap]
set_option maxRecDepth 100000 in
set_option maxHeartbeats 8000000 in
theorem grown_any {SA : Option Addr} {sc : Nat} {PA : Option Addr} {pc : Nat} {OA : Option Addr} {oc : Nat} {S P : List Int} {O : List Od} (hF : Fine S P O) : ∀ (d : Nat) (l : List Int) (f many : Nat) (RA : Option Addr) (rn rc : Nat) (w : World), ShopIn w w.heap.size SA S.length sc PA P.length pc OA O.length oc S P O → Sl 1 encI w w.heap.size RA rn rc l → l.length + d = many → many ≤ 8 → f ≤ 8 →
    Calls Try.prog 80 #[.agg #[.slice SA S.length sc, .slice PA P.length pc, .slice OA O.length oc], .slice RA rn rc, .int .i64 (f : Int), .int .i64 (many : Int)] w fun e w' => ∃ A n c, e = .returned (.tuple #[.slice A n c, .bool ((desL O.length d l f).find? (okR S.length O (stockM S))).isSome]) ∧ Below w.heap.size w w' ∧ ∀ l', (desL O.length d l f).find? (okR S.length O (stockM S)) = some l' → Sl 1 encI w' w'.heap.size A n c l' := by
  intro d
  induction d with
  | zero =>
    intro l f many RA rn rc w hs hr hlm hm8 hf8
    obtain rfl := hr.len
    obtain rfl : l.length = many := by omega
    have HG0 := Lib.hid (GW.start hs)
    obtain ⟨g0, g1, g2, g3⟩ := HG0.out.cells
    have HR0 := Lib.hid (ListIn.later ⟨hr⟩ (balloc (brefl w) (.cells #[.slice SA S.length sc, .slice PA P.length pc, .slice OA O.length oc] 25)))
    have HF := Lib.hid hF
    have hq : (desL O.length 0 l f).find? (okR S.length O (stockM S)) = if okR S.length O (stockM S) l then some l else none := by
      rw [desL, List.find?_cons]
      cases okR S.length O (stockM S) l <;> rfl
    rw [hq]
    have hok : canB S.length (woO O l) (stockM S) = okR S.length O (stockM S) l := rfl
    obtain ⟨q, hqq⟩ : ∃ q, okR S.length O (stockM S) l = q := ⟨_, rfl⟩
    rw [hqq] at hok ⊢
    have Hok := Lib.hid hok
    obtain ⟨res, hres⟩ : ∃ res, (if q = true then some l else none) = res := ⟨_, rfl⟩
    rw [hres]
    have Hres := Lib.hid hres
    clear hs hr hF hq hok hqq hres
    go_enter Try.func80, Try.ntmps80
    go_wp2_with fail
    refine (refWithout_any _ _ _ _ _ _ _ _ _ S P O RA l.length rc l _ HG0.out.sh HR0.out.sl (by have := HF.out.o8; omega) (by omega)).mono ?_
    rintro e w1 ⟨A, c, rfl, hb, hsl⟩
    have HG1 := Lib.hid (HG0.out.later hb)
    have HR1 := Lib.hid (HR0.out.later hb)
    clear hb HG0 HR0 g0 g1 g2 g3
    obtain ⟨g0, g1, g2, g3⟩ := HG1.out.cells
    have HX := Lib.hid (show ShopIn w1 w1.heap.size SA S.length sc PA P.length pc A (woO O l).length c S P (woO O l) from ⟨HG1.out.sh.stk, HG1.out.sh.prc, hsl⟩)
    clear hsl
    go_wp2_with fail
    refine (refCan_any _ _ _ _ _ _ _ _ _ S P (woO O l) _ HX.out (fine_iff (HF.out.wo l))).mono ?_
    rintro e w2 ⟨rfl, hb⟩
    have HG2 := Lib.hid (HG1.out.later hb)
    have HR2 := Lib.hid (HR1.out.later hb)
    clear hb HG1 HR1 g0 g1 g2 g3
    obtain ⟨g0, g1, g2, g3⟩ := HG2.out.cells
    rw [Hok.out]
    go_wp2
    go_ret2
    refine ⟨RA, l.length, rc, ?_, HG2.out.bel, fun l' h => ?_⟩
    · rw [← Hres.out]; cases q <;> rfl
    · rw [← Hres.out] at h
      cases q with
      | false => cases h
      | true => cases h; exact HR2.out.sl
  | succ d ih =>
    intro l f many RA rn rc w hs hr hlm hm8 hf8
    obtain rfl := hr.len
    have HG0 := Lib.hid (GW.start hs)
    obtain ⟨g0, g1, g2, g3⟩ := HG0.out.cells
    have HR0 := Lib.hid (ListIn.later ⟨hr⟩ (balloc (brefl w) (.cells #[.slice SA S.length sc, .slice PA P.length pc, .slice OA O.length oc] 25)))
    have n1 : ¬ ((l.length : Int) = (many : Int)) := by omega
    have n2 : ((l.length : Int) == (many : Int)) = false := by simp; omega
    have n3 : ¬ l.length = many := by omega
    have Hlm := Lib.hid hlm
    have HF := Lib.hid hF
    obtain ⟨res, hres⟩ : ∃ res, (desL O.length (d + 1) l f).find? (okR S.length O (stockM S)) = res := ⟨_, rfl⟩
    rw [hres]
    rw [desL_find] at hres
    have Hres := Lib.hid hres
    have Hih := Lib.hid ih
    clear hs hr hF hres ih hlm
    go_enter Try.func80, Try.ntmps80
    go_wp2_with fail
    clear n1 n2 n3
    refine loop_n (fun m b W => b.defers = [] ∧ ∃ i : Nat, f ≤ i ∧ i ≤ 8 ∧ (i + m = O.length ∨ (m = 0 ∧ O.length ≤ i)) ∧ Hid (GW w W w.heap.size SA S.length sc PA P.length pc OA O.length oc S P O) ∧ Hid (ListIn W RA l.length rc l) ∧ Hid (∀ j, f ≤ j → j < i → (desL O.length d (l ++ [(j : Int)]) (j + 1)).find? (okR S.length O (stockM S)) = none) ∧ Fits (none :: some (.slice RA l.length rc) :: none :: some (.int .i64 (many : Int)) :: some (.pointer (some ⟨w.heap.size, 0, none⟩)) :: none :: none :: none :: none :: none :: some (.int .i64 (i : Nat)) :: none :: none :: none :: none :: none :: none :: none :: none :: none :: none :: none :: none :: none :: none :: none :: none :: none :: none :: none :: none :: none :: none :: none :: none :: none :: none :: none :: none :: none :: none :: none :: none :: none :: none :: none :: []) b.tmps.toList) (O.length - f) ?_ ?_
    · refine ⟨rfl, f, by omega, hf8, by omega, HG0, HR0, Lib.hid (fun j h1 h2 => by omega), ?_⟩
      repeat (first | exact fits_nil | refine fits_none ?_ | refine fits_some ?_)
    clear HG0 HR0 g0 g1 g2 g3
    intro m b W hI K hK
    obtain ⟨hds, i, hfi, hi8, him, HG0, HR0, HN, hfit⟩ := hI
    obtain ⟨f2, hf2⟩ := fits_act hfit
    rw [hds] at hf2
    subst hf2
    clear hfit hds
    simp only [fillP, Nat.reduceAdd]
    obtain ⟨g0, g1, g2, g3⟩ := HG0.out.cells
    by_cases hlt : i < O.length
    · have i1 : (i : Int) < (O.length : Int) := by omega
      have i2 : (0 : Int) ≤ (i : Int) := by omega
      have i3 : IntKind.i64.wrap ((i : Int) + 1) = (i : Int) + 1 := by rw [IntKind.wrap_i64]; omega
      have Hc := Lib.hid (show ((i : Int) + 1) = ((i + 1 : Nat) : Int) by omega)
      have Hi := Lib.hid (show f ≤ i ∧ i < O.length ∧ i + m = O.length ∧ O.length ≤ 8 from ⟨hfi, hlt, by omega, HF.out.o8⟩)
      obtain ⟨q, hq⟩ : ∃ q, (desL O.length d (l ++ [(i : Int)]) (i + 1)).find? (okR S.length O (stockM S)) = q := ⟨_, rfl⟩
      have Hq := Lib.hid hq
      have Hcall := Lib.hid (fun (A : Option Addr) (c : Nat) (U : World) (hb : Below W.heap.size W U) (hx : Sl 1 encI U U.heap.size A (l.length + 1) c (l ++ [(i : Int)])) => (Hih.out (l ++ [(i : Int)]) (i + 1) many A (l.length + 1) c U (HG0.out.sh.later hb) hx (by have := Hlm.out; simp; omega) hm8 (by have := Hi.out; omega)))
      rw [hq] at Hcall
      clear hfi him hlt hq
      go_wp2_with fail
      refine dagFresh 16 6 3 (fun i => !(i == 3) && !(i == 5) && !(i == 6)) (fun i => i == 10 || i == 11 || i == 12 || i == 14) (by kernel_rfl) (by kernel_rfl) (.is ?_ :: .like EmpS :: .is ?_ :: .like (CpyN W.heap.size l) :: .is ?_ :: .like (OneI W.heap.size (i : Int)) :: .like (RowN W.heap.size (l ++ [(i : Int)])) :: .is ?_ :: .is ?_ :: .is ?_ :: .like (GRes q) :: .like (GRes q) :: .like (SRes q) :: .is (.bool q.isSome) :: .like (SRes q) :: .is ?_ :: []) rfl ?st1 ?gd1 (by kernel_rfl) ?stb1 ?ob1
      case st1 => repeat (first | exact stab_nil | refine stab_is ?_ | refine stab_like (R := EmpS) (fun _ _ _ _ h => h) ?_ | refine stab_like CpyN.stab ?_ | refine stab_like OneI.stab ?_ | refine stab_like RowN.stab ?_ | refine stab_like GRes.stab ?_ | refine stab_like SRes.stab ?_)
      case gd1 => intro o ho; cases ho; rfl
      case stb1 => repeat (first | exact trivial | refine ⟨fun h => absurd h (by decide), ?_⟩ | refine ⟨fun _ _ _ _ _ h => h, ?_⟩)
      case ob1 =>
        intro env V hG
        obtain ⟨hc', hf'⟩ := bcell hG
        have HV := Lib.hid hG
        have HG2 := Lib.hid (HG0.out.later hG)
        have HR2 := Lib.hid (HR0.out.later hG)
        (refine oblsA_is (show _ ≠ (6 : Nat) by decide) ?_ ?_; unfold doesAt; go_simp; (try go_bits); (first | (refine ⟨brefl _, ?_⟩; rfl) | rfl); intro K hK; go_simp; refine hK _ ?_; clear hK K)
        refine oblsA_like (show _ ≠ (6 : Nat) by decide) (fun _ => ?_) ?_
        · unfold doesAt
          go_simp
          exact ⟨balloc (brefl _) _, V.heap.size, rfl⟩
        intro K hK
        go_simp
        refine hK _ ?_
        clear hK K
        (refine oblsA_is (show _ ≠ (6 : Nat) by decide) ?_ ?_; unfold doesAt; go_simp; (try go_bits); (first | (refine ⟨brefl _, ?_⟩; rfl) | rfl); intro K hK; go_simp; refine hK _ ?_; clear hK K)
        refine oblsA_like (show _ ≠ (6 : Nat) by decide) (fun hl => ?_) ?_
        · obtain ⟨g', hE⟩ : EmpS (env 1) V := hl ⟨1, .data⟩ (by simp) rfl (.inr (.inr rfl))
          refine app_of_run rfl (.tmp 32) (.tmp 33) 48 rfl hE rfl ?_
          exact run_app_emp _ HV.out.size HR2.out.sl (by have := Hlm.out; omega)
        intro K hK
        go_simp
        refine hK _ ?_
        clear hK K
        (refine oblsA_is (show _ ≠ (6 : Nat) by decide) ?_ ?_; unfold doesAt; go_simp; (try go_bits); (first | (refine ⟨brefl _, ?_⟩; rfl) | rfl); intro K hK; go_simp; refine hK _ ?_; clear hK K)
        refine oblsA_like (show _ ≠ (6 : Nat) by decide) (fun _ => ?_) ?_
        · unfold doesAt
          go_simp
          have hbn := Blk.new V 3 #[.int .i64 (i : Int)]
          exact ⟨balloc (brefl V) _, V.heap.size, rfl, HV.out.size, hbn.lt, hbn.cell 0⟩
        intro K hK
        go_simp
        refine hK _ ?_
        clear hK K
        refine oblsA_app rfl (fun hl hp => ?_) ?_
        · have h3 : CpyN W.heap.size l (env 3) V := hl ⟨3, .data⟩ (by simp) rfl (.inl rfl)
          obtain ⟨g, hE, hg1, hg2, hg3⟩ : OneI W.heap.size (i : Int) (env 5) V := hl ⟨5, .data⟩ (by simp) rfl (.inl rfl)
          refine app_of_run rfl (.tmp 34) (.tmp 36) 48 rfl rfl hE ?_
          exact run_app_n _ HV.out.size h3 hg3 rfl (by have := Hlm.out; omega)
        intro K hK
        go_simp
        refine hK _ ?_
        clear hK K
        iterate 3 (refine oblsA_is (show _ ≠ (6 : Nat) by decide) ?_ ?_; unfold doesAt; go_simp; (try go_bits); (first | (refine ⟨brefl _, ?_⟩; rfl) | rfl); intro K hK; go_simp; refine hK _ ?_; clear hK K)
        refine oblsA_like (show _ ≠ (6 : Nat) by decide) (fun hl => ?_) ?_
        · have h6 : RowN W.heap.size (l ++ [(i : Int)]) (env 6) V := hl ⟨6, .data⟩ (by simp) rfl (.inr (.inl rfl))
          unfold RowN at h6
          obtain ⟨A, c, hE, hsl⟩ := own_slI h6 (show (l ++ [(i : Int)]).length = (l ++ [(i : Int)]).length from rfl)
          have hln : (l ++ [(i : Int)]).length = l.length + 1 := by simp
          rw [hln] at hE hsl
          have Hsl := Lib.hid hsl
          clear hsl h6
          unfold doesAt
          simp only [hE]
          go_simp
          rw [Hc.out]
          refine (Hcall.out A c V HV.out Hsl.out).mono ?_
          rintro e w3 ⟨A', n', c', rfl, hb3, hx⟩
          exact ⟨_, rfl, hb3, A', n', c', rfl, hx⟩
        intro K hK
        go_simp
        refine hK _ ?_
        clear hK K
        refine oblsA_like (show _ ≠ (6 : Nat) by decide) (fun hl => ?_) ?_
        · have h10 : GRes q (env 10) V := hl ⟨10, .data⟩ (by simp) rfl (.inr (.inr rfl))
          unfold doesAt
          go_simp
          exact brefl V
        intro K hK
        go_simp
        refine hK _ ?_
        clear hK K
        refine oblsA_like (show _ ≠ (6 : Nat) by decide) (fun hl => ?_) ?_
        · obtain ⟨A', n', c', hE, hx⟩ : GRes q (env 11) V := hl ⟨11, .data⟩ (by simp) rfl (.inr (.inr rfl))
          unfold doesAt
          simp only [hE]
          go_simp
          exact ⟨brefl V, A', n', c', rfl, hx⟩
        intro K hK
        go_simp
        refine hK _ ?_
        clear hK K
        refine oblsA_isL (show _ ≠ (6 : Nat) by decide) (fun hl => ?_) ?_
        · obtain ⟨A', n', c', hE, hx⟩ : GRes q (env 11) V := hl ⟨11, .data⟩ (by simp) rfl (.inr (.inr rfl))
          unfold doesAt
          simp only [hE]
          go_simp
          exact brefl V
        intro K hK
        go_simp
        refine hK _ ?_
        clear hK K
        refine oblsA_like (show _ ≠ (6 : Nat) by decide) (fun hl => ?_) ?_
        · have h12 : SRes q (env 12) V := hl ⟨12, .data⟩ (by simp) rfl (.inr (.inr rfl))
          unfold doesAt
          go_simp
          exact brefl V
        intro K hK
        go_simp
        refine hK _ ?_
        clear hK K
        (refine oblsA_is (show _ ≠ (6 : Nat) by decide) ?_ ?_; unfold doesAt; go_simp; (try go_bits); (first | (refine ⟨brefl _, ?_⟩; rfl) | rfl); intro K hK; go_simp; refine hK _ ?_; clear hK K)
        refine oblsA_nil (fun hok => ?_)
        obtain ⟨A', n', c', hE, hx⟩ : SRes q (env 14) V := hok 14 _ rfl (.inr rfl)
        rw [hE]
        have Hx := Lib.hid hx
        clear hok hx hE hc' hf' hG g0 g1 g2 g3
        cases q with
        | some l' =>
          have HR3 := Lib.hid (show res = some l' by rw [← Hres.out]; exact findSome_from Hi.out.1 Hi.out.2.1 Hq.out HN.out)
          clear hK
          go_wp2
          go_ret2
          refine ⟨A', n', c', by rw [HR3.out]; rfl, HG2.out.bel, fun l'' h => ?_⟩
          rw [HR3.out] at h
          exact Hx.out _ h
        | none =>
          have HN2 := Lib.hid (show ∀ j, f ≤ j → j < i + 1 → (desL O.length d (l ++ [(j : Int)]) (j + 1)).find? (okR S.length O (stockM S)) = none from fun j h1 h2 => by
            rcases Nat.lt_or_ge j i with h | h
            · exact HN.out j h1 h
            · obtain rfl : j = i := by omega
              exact Hq.out)
          go_wp2
          refine hK _ _ (m - 1) (by have := Hi.out; omega) ⟨rfl, i + 1, by have := Hi.out; omega, by have := Hi.out; omega, by have := Hi.out; omega, HG2, HR2, HN2, ?_⟩
          repeat (first | exact fits_nil | refine fits_none ?_ | refine fits_some ?_)
    · have i1 : ¬ (i : Int) < (O.length : Int) := by omega
      have HR3 := Lib.hid (show res = none by rw [← Hres.out]; exact findSome_none fun j h1 h2 => HN.out j h1 (by omega))
      clear hK him hlt
      go_wp2
      go_ret2
      refine ⟨none, 0, 0, by rw [HR3.out]; rfl, HG0.out.bel, fun l' h => ?_⟩
      rw [HR3.out] at h
      cases h
section
variable (SA : Option Addr) (sn sc : Nat) (PA : Option Addr) (pn pc : Nat) (OA : Option Addr) (on oc : Nat) (S P : List Int) (O : List Od) (w : World) (hs : ShopIn w w.heap.size SA sn sc PA pn pc OA on oc S P O)
include hs
set_option maxHeartbeats 2000000 in
theorem refRefuse_bad (hne : shopE S P O ≠ 0) : Calls Try.prog 41 #[.agg #[.slice SA sn sc, .slice PA pn pc, .slice OA on oc]] w fun e w' => e = .returned (.tuple #[.slice none 0 0, .int .i64 (shopE S P O)]) ∧ Below w.heap.size w w' := by
  obtain rfl := hs.stk.len
  obtain rfl := hs.prc.len
  obtain rfl := hs.ord.len
  have HG0 := Lib.hid (GW.start hs)
  obtain ⟨g0, g1, g2, g3⟩ := HG0.out.cells
  have Ho := Lib.hid (fun W (h : ShopIn W W.heap.size SA S.length sc PA P.length pc OA O.length oc S P O) => refShop_any SA S.length sc PA P.length pc OA O.length oc S P O W h)
  obtain ⟨q, hq⟩ : ∃ q, shopE S P O = q := ⟨_, rfl⟩
  rw [hq] at Ho hne ⊢
  have d1 : (q != 0) = true := by simpa using hne
  clear hs hq hne
  go_enter Try.func41, Try.ntmps41
  go_wp2_with fail
  refine (Ho.out _ HG0.out.sh).mono ?_
  rintro e w3 ⟨rfl, hb⟩
  have HG1 := Lib.hid (HG0.out.later hb)
  clear hb HG0 g0 g1 g2 g3
  obtain ⟨g0, g1, g2, g3⟩ := HG1.out.cells
  go_wp2_with fail
  refine (Ho.out _ HG1.out.sh).mono ?_
  rintro e w4 ⟨rfl, hb⟩
  have HG2 := Lib.hid (HG1.out.later hb)
  clear hb HG1 g0 g1 g2 g3
  obtain ⟨g0, g1, g2, g3⟩ := HG2.out.cells
  go_wp2
  go_ret2
  exact ⟨rfl, HG2.out.bel⟩
set_option maxRecDepth 100000 in
set_option maxHeartbeats 4000000 in
theorem refRefuse_ok (he : shopE S P O = 0) : Calls Try.prog 41 #[.agg #[.slice SA sn sc, .slice PA pn pc, .slice OA on oc]] w fun e w' => ∃ A n c, e = .returned (.tuple #[.slice A n c, .int .i64 0]) ∧ Below w.heap.size w w' ∧ Sl 1 encI w' w'.heap.size A n c (refR S.length O (stockM S)) := by
  obtain rfl := hs.stk.len
  obtain rfl := hs.prc.len
  obtain rfl := hs.ord.len
  have HG0 := Lib.hid (GW.start hs)
  obtain ⟨g0, g1, g2, g3⟩ := HG0.out.cells
  have Ho := Lib.hid (fun W (h : ShopIn W W.heap.size SA S.length sc PA P.length pc OA O.length oc S P O) => refShop_any SA S.length sc PA P.length pc OA O.length oc S P O W h)
  have hF := fine_of he
  rw [he] at Ho
  have HF := Lib.hid hF
  have o8 := hF.o8
  have Hg := Lib.hid (fun (k : Nat) (hk : k ≤ 8) W (h : ShopIn W W.heap.size SA S.length sc PA P.length pc OA O.length oc S P O) => grown_any hF k [] 0 k none 0 0 W h Sl.nil_ (by simp) hk (by omega))
  have Hfd := Lib.hid (fun k => show (desL O.length k [] 0).find? (okR S.length O (stockM S)) = findR S.length O (stockM S) k by unfold findR; rw [levL_des])
  obtain ⟨res, hres⟩ : ∃ res, refR S.length O (stockM S) = res := ⟨_, rfl⟩
  rw [hres]
  have Hres := Lib.hid hres
  clear hs he hF hres
  go_enter Try.func41, Try.ntmps41
  go_wp2_with fail
  refine (Ho.out _ HG0.out.sh).mono ?_
  rintro e w5 ⟨rfl, hb⟩
  have HG1 := Lib.hid (HG0.out.later hb)
  clear hb HG0 g0 g1 g2 g3
  obtain ⟨g0, g1, g2, g3⟩ := HG1.out.cells
  go_wp2_with fail
  refine loop_n (fun m b W => b.defers = [] ∧ ∃ i : Nat, i + m = O.length ∧ Hid (GW w W w.heap.size SA S.length sc PA P.length pc OA O.length oc S P O) ∧ Hid (∀ j, j < i → findR S.length O (stockM S) j = none) ∧ Fits (none :: some (.pointer (some ⟨w.heap.size, 0, none⟩)) :: none :: none :: some (.int .i64 (i : Nat)) :: none :: none :: none :: none :: none :: none :: none :: none :: none :: none :: none :: none :: none :: none :: none :: none :: none :: none :: none :: none :: none :: none :: none :: none :: none :: none :: none :: none :: none :: none :: none :: none :: none :: []) b.tmps.toList) O.length ?_ ?_
  · refine ⟨rfl, 0, by omega, HG1, Lib.hid (fun j h => by omega), ?_⟩
    repeat (first | exact fits_nil | refine fits_none ?_ | refine fits_some ?_)
  clear HG1 g0 g1 g2 g3
  intro m b W hI K hK
  obtain ⟨hds, i, him, HG0, HN, hfit⟩ := hI
  obtain ⟨f, hf⟩ := fits_act hfit
  rw [hds] at hf
  subst hf
  clear hfit hds
  simp only [fillP, Nat.reduceAdd]
  obtain ⟨g0, g1, g2, g3⟩ := HG0.out.cells
  by_cases hlt : i < O.length
  · have i1 : (i : Int) < (O.length : Int) := by omega
    have i2 : (0 : Int) ≤ (i : Int) := by omega
    have i3 : IntKind.i64.wrap ((i : Int) + 1) = (i : Int) + 1 := by rw [IntKind.wrap_i64]; omega
    have Him := Lib.hid (show i + m = O.length ∧ i < O.length from ⟨him, hlt⟩)
    have Hg1 := Lib.hid (Hg.out i (by omega))
    rw [Hfd.out i] at Hg1
    clear him hlt
    obtain ⟨q, hq⟩ : ∃ q, findR S.length O (stockM S) i = q := ⟨_, rfl⟩
    rw [hq] at Hg1
    have Hq := Lib.hid hq
    clear hq
    go_wp2_with fail
    refine (Hg1.out _ HG0.out.sh).mono ?_
    rintro e w6 ⟨A, n, c, rfl, hb, hx⟩
    have HG1 := Lib.hid (HG0.out.later hb)
    clear hb HG0 g0 g1 g2 g3
    obtain ⟨g0, g1, g2, g3⟩ := HG1.out.cells
    have Hx := Lib.hid hx
    clear hx
    cases q with
    | some l' =>
      have HR := Lib.hid (show res = l' by rw [← Hres.out]; exact refR_at (by have := Him.out; omega) Hq.out HN.out)
      clear hK
      go_wp2
      go_ret2
      exact ⟨A, n, c, rfl, HG1.out.bel, by rw [HR.out]; exact Hx.out _ rfl⟩
    | none =>
      have HN2 := Lib.hid (show ∀ j, j < i + 1 → findR S.length O (stockM S) j = none from fun j h1 => by
        rcases Nat.lt_or_ge j i with h | h
        · exact HN.out j h
        · obtain rfl : j = i := by omega
          exact Hq.out)
      go_wp2
      refine hK _ _ (m - 1) (by have := Him.out; omega) ⟨rfl, i + 1, by have := Him.out; omega, HG1, HN2, ?_⟩
      repeat (first | exact fits_nil | refine fits_none ?_ | refine fits_some ?_)
  · obtain rfl : i = O.length := by omega
    have i1 : ¬ (O.length : Int) < (O.length : Int) := by omega
    obtain ⟨l', hl'⟩ := findR_all (n := S.length) (O := O) (fun j => (HF.out.ok.stk j).1)
    have Hg1 := Lib.hid (Hg.out O.length o8)
    rw [Hfd.out, hl'] at Hg1
    have HR := Lib.hid (show res = l' by rw [← Hres.out]; exact refR_at (Nat.le_refl _) hl' HN.out)
    clear hK him hlt hl'
    go_wp2_with fail
    refine (Hg1.out _ HG0.out.sh).mono ?_
    rintro e w7 ⟨A, n, c, rfl, hb, hx⟩
    have HG1 := Lib.hid (HG0.out.later hb)
    clear hb HG0 g0 g1 g2 g3
    obtain ⟨g0, g1, g2, g3⟩ := HG1.out.cells
    have Hx := Lib.hid hx
    clear hx
    go_wp2
    go_ret2
    exact ⟨A, n, c, rfl, HG1.out.bel, by rw [HR.out]; exact Hx.out _ rfl⟩
end
end Go.Proofs.Ytmfiggbobaihcaa
