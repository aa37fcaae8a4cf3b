/- grade.Fill. -/
import Derived.Test.YtmfiggbobaihcaaGFillP
namespace Go.Proofs.Ytmfiggbobaihcaa
open Go.RowKit Go.Shelf Go.Maps
attribute [local go_sem] Oper.semAt_some

theorem lookup_pl {W : World} {b nn : Nat} {D : DM} {F : Nat → Nat → Option Int} (h : OwnsM W b nn D) (hD : MapIs D F) {f k : Nat} (hf : f ≤ 1000) (hk : k ≤ 1000) :
    (Instr.lookup 93 (.map (some b)) (.agg #[.int .i64 (f : Int), .int .i64 (k : Int)]) false).run Try.prog W = .ok (.int .i64 (fF F f k)) W := by
  obtain ⟨i0, hi0, hz0, _, _⟩ := info_parts info_long
  have hz : (zeroValue 2).run Try.prog W = .ok (.int .i64 0) W := by
    simp [zeroValue, typeInfo, hi0, hz0]
  obtain ⟨c, hrun, hat, _⟩ := h.lookup_int keyed_pl und_mpl und_i64 hz (keyL_of f k hf hk)
  rw [hrun]
  have hc : c = fF F f k := by
    unfold fF
    cases hv : F f k with
    | some v =>
      have h1 := (hD.yes f k v hv).2 (.lit (.int .i64 0))
      rw [hat] at h1
      simpa using h1
    | none =>
      have hh : has D (keyL f k) = false := by
        cases hh : has D (keyL f k) with
        | false => rfl
        | true =>
          obtain ⟨f', k', v, he, hv'⟩ := hD.only _ hh
          have hs := hD.small f' k' v hv'
          obtain ⟨rfl, rfl⟩ := keyL_inj hf hk hs.1 hs.2 he
          rw [hv] at hv'; cases hv'
      rw [atKey_of_not_has hh] at hat
      have h1 : (0 : Int) = c := by simpa using hat
      simpa using h1.symm
  rw [hc]
/-- Rows of rows of the call's own. -/
structure OutW (W : World) (B : Nat) (v : Value) (L : List Rw) : Prop where
  own : W.ownsRow B 22 1 v L.length (L.flatMap encW)
  rows : ∀ r ∈ L, W.ownsRow B 2 1 (.slice r.A r.n r.c) r.xs.length (r.xs.map (Value.int .i64)) ∧ r.n = r.xs.length
theorem OutW.later {W W' : World} {B : Nat} {v : Value} {L : List Rw} (h : OutW W B v L) (hb : Below W.heap.size W W') : OutW W' B v L := ⟨own_later h.own hb, fun r hr => ⟨own_later (h.rows r hr).1 hb, (h.rows r hr).2⟩⟩
theorem OutW.app {W W' : World} {B : Nat} {v v' : Value} {L : List Rw} {r : Rw} (h : OutW W B v L) (hr : W.ownsRow B 2 1 (.slice r.A r.n r.c) r.xs.length (r.xs.map (Value.int .i64))) (hn : r.n = r.xs.length) (hg : W.grownBy W' v.ownBlock) (ho : W'.ownsRow B 22 1 v' (L.length + 1) (L.flatMap encW ++ [.slice r.A r.n r.c])) : OutW W' B v' (L ++ [r]) := by
  refine ⟨by simpa [encW] using ho, fun x hx => ?_⟩
  rcases List.mem_append.1 hx with hx | hx
  · have h1 := h.rows x hx
    exact ⟨own_grown h1.1 hg (own_apart (v' := v) h1.1 h.own (by decide)), h1.2⟩
  · obtain rfl : x = r := by simpa using hx
    exact ⟨own_grown hr hg (own_apart (v' := v) hr h.own (by decide)), hn⟩
/-- Rows, as they are handed in or back. -/
structure FillIn (W : World) (FA : Option Addr) (fn fc : Nat) (L : List Rw) : Prop where
  sl : Sl 1 encW W W.heap.size FA fn fc L
  rows : ∀ r ∈ L, Sl 1 encI W W.heap.size r.A r.n r.c r.xs
theorem FillIn.later {W W' : World} {FA : Option Addr} {fn fc : Nat} {L : List Rw} (h : FillIn W FA fn fc L) (hb : Below W.heap.size W W') : FillIn W' FA fn fc L := ⟨h.sl.later hb, fun r hr => (h.rows r hr).later hb⟩
theorem OutW.fill {W : World} {B : Nat} {v : Value} {L : List Rw} (h : OutW W B v L) : ∃ A c, v = .slice A L.length c ∧ FillIn W A L.length c L := by
  obtain ⟨A, c, hv, hsl⟩ := own_slG (k := 1) (enc := encW) (fun _ => rfl) h.own rfl
  refine ⟨A, c, hv, hsl, fun r hr => ?_⟩
  obtain ⟨h1, h2⟩ := h.rows r hr
  obtain ⟨A', c', hv', hsl'⟩ := own_slI h1 rfl
  simp only [Value.slice.injEq] at hv'
  obtain ⟨rfl, h3, rfl⟩ := hv'
  rw [h2]
  exact hsl'
/-- The shop's box, and the map that is read. -/
structure FS (w W : World) (b nn : Nat) (D : DM) (SA : Option Addr) (sn sc : Nat) (PA : Option Addr) (pn pc : Nat) (OA : Option Addr) (on oc : Nat) (S P : List Int) (O : List Od) : Prop where
  bel : Below w.heap.size w W
  b0 : Blk W w.heap.size 25 #[.slice SA sn sc, .slice PA pn pc, .slice OA on oc]
  own : OwnsM W b nn D
section
variable {w W W' : World} {b nn : Nat} {D : DM} {SA : Option Addr} {sn sc : Nat} {PA : Option Addr} {pn pc : Nat} {OA : Option Addr} {on oc : Nat} {S P : List Int} {O : List Od}
theorem FS.later (h : FS w W b nn D SA sn sc PA pn pc OA on oc S P O) (hb : Below W.heap.size W W') : FS w W' b nn D SA sn sc PA pn pc OA on oc S P O := ⟨Below.later h.bel hb, h.b0.later hb, h.own.kept (grown_none hb) (by simp)⟩
theorem FS.grown {B : Nat} (h : FS w W b nn D SA sn sc PA pn pc OA on oc S P O) {row : Option Nat} (hg : W.grownBy W' row) (hr : ∀ r, row = some r → B ≤ r) (hB : w.heap.size < B ∧ b < B) : FS w W' b nn D SA sn sc PA pn pc OA on oc S P O :=
  ⟨h.bel.trans ⟨hg.os, hg.tape, hg.output, hg.size, fun k hk => hg.block k (by have := h.bel.size; omega) (fun e => by have := hr k e.symm; omega)⟩, h.b0.grown hg (fun e => by have := hr _ e; omega), h.own.kept hg (fun e => by have := hr _ e.symm; omega)⟩
theorem FS.cells (h : FS w W b nn D SA sn sc PA pn pc OA on oc S P O) : W.cell? ⟨w.heap.size, 0, none⟩ = some (.slice SA sn sc) ∧ W.cell? ⟨w.heap.size, 2, none⟩ = some (.slice OA on oc) ∧ w.heap.size < W.heap.size := ⟨h.b0.cell 0, h.b0.cell 2, h.b0.lt⟩
end
/-- An append to a slice that has no room. -/
theorem run_app_full {W : World} {g0 n g : Nat} {xs : List Int} {x : Int} (ty : TypeId) (B : Nat) (hB : B ≤ W.heap.size) (hs : ∀ j u, (xs.map (Value.int .i64))[j]? = some u → W.cell? ((⟨g0, 0, none⟩ : Addr).add j) = some u) (hn : xs.length = n) (hg : W.cell? ⟨g, 0, none⟩ = some (.int .i64 x)) (h1 : n ≤ 1000) :
    ∃ v' W', (Builtin.append_ #[22, 22] ty #[.slice (some ⟨g0, 0, none⟩) n n, .slice (some ⟨g, 0, none⟩) 1 1]).run Try.prog W = .ok v' W' ∧ (W.grownBy W' none ∧ RowI B (xs ++ [x]) v' W') := by
  obtain ⟨i0, hi0, hz0, hz1, hz2⟩ := info_parts info_long
  obtain ⟨v', W', h1, h2, h3⟩ := run_append_arg_grows (P := Try.prog) W 22 ty 2 i0 (.int .i64 0) 1 8 und_longs hi0 hz0 hz1 hz2 rfl (by decide) ⟨g0, 0, none⟩ n n (xs.map (Value.int .i64)) (by simp [hn]) hs ⟨g, 0, none⟩ 1 1 [.int .i64 x] rfl (one_newsI hg) (by omega) (by simp only [maxLen]; omega) (by omega)
  refine ⟨v', W', h1, h3, own_low ?_ hB⟩
  rw [← hn] at h2
  simpa using h2
theorem run_app_nil {W : World} {g : Nat} {x : Int} (ty : TypeId) (B : Nat) (hB : B ≤ W.heap.size) (hg : W.cell? ⟨g, 0, none⟩ = some (.int .i64 x)) :
    ∃ v' W', (Builtin.append_ #[22, 22] ty #[.slice none 0 0, .slice (some ⟨g, 0, none⟩) 1 1]).run Try.prog W = .ok v' W' ∧ (W.grownBy W' none ∧ RowI B ([] ++ [x]) v' W') := by
  obtain ⟨v', W', h1, h2, h3⟩ := run_app_i (v := .slice none 0 0) (xs := []) (x := x) ty (World.ownsRow_nil W B 2 1) hg (by simp) hB
  exact ⟨v', W', h1, h2, h3⟩
theorem und_rows : Try.prog.underlying 26 = some (.slice 22) := by kernel_rfl
theorem info_row : (Try.prog.info? 22).map (fun i => (i.zero, i.size, i.bytes)) = some (some (.slice none 0 0), 1, 24) := by kernel_rfl
section
variable (SA : Option Addr) (sn sc : Nat) (PA : Option Addr) (pn pc : Nat) (OA : Option Addr) (on oc : Nat) (S P : List Int) (O : List Od) (w : World) (hs : ShopIn w w.heap.size SA sn sc PA pn pc OA on oc S P O)
include hs
set_option maxHeartbeats 2000000 in
theorem fillA_bad (hne : filE S P O ≠ 0) : Calls Try.prog 31 #[.agg #[.slice SA sn sc, .slice PA pn pc, .slice OA on oc]] w fun e w' => e = .returned (.tuple #[.slice none 0 0, .int .i64 (filE S P O)]) ∧ Below w.heap.size w w' := by
  obtain rfl := hs.stk.len
  obtain rfl := hs.prc.len
  obtain rfl := hs.ord.len
  have HG0 := Lib.hid (GW.start hs)
  obtain ⟨g0, g1, g2, g3⟩ := HG0.out.cells
  have Ho := Lib.hid (fun W (h : ShopIn W W.heap.size SA S.length sc PA P.length pc OA O.length oc S P O) => filled_bad SA S.length sc PA P.length pc OA O.length oc S P O W h hne)
  obtain ⟨q, hq⟩ : ∃ q, filE S P O = q := ⟨_, rfl⟩
  rw [hq] at Ho hne ⊢
  have d1 : (q != 0) = true := by simpa using hne
  clear hs hq hne
  go_enter Try.func31, Try.ntmps31
  go_wp2_with fail
  refine (Ho.out _ HG0.out.sh).mono ?_
  rintro e w1 ⟨rfl, hb⟩
  have HG1 := Lib.hid (HG0.out.later hb)
  clear hb HG0 g0 g1 g2 g3
  obtain ⟨g0, g1, g2, g3⟩ := HG1.out.cells
  go_wp2
  go_ret2
  exact ⟨rfl, HG1.out.bel⟩
set_option maxRecDepth 100000 in
set_option maxHeartbeats 8000000 in
theorem fillA_ok (hf : filE S P O = 0) : Calls Try.prog 31 #[.agg #[.slice SA sn sc, .slice PA pn pc, .slice OA on oc]] w fun e w' => ∃ A c L, e = .returned (.tuple #[.slice A O.length c, .int .i64 0]) ∧ Below w.heap.size w w' ∧ FillIn w' A O.length c L ∧ FillIs S.length O (stockM S) (L.map (·.xs)) := by
  have Hs := Lib.hid hs
  obtain rfl := hs.stk.len
  obtain rfl := hs.prc.len
  obtain rfl := hs.ord.len
  have HG0 := Lib.hid (GW.start hs)
  obtain ⟨g0, g1, g2, g3⟩ := HG0.out.cells
  have Ho := Lib.hid (fun W (h : ShopIn W W.heap.size SA S.length sc PA P.length pc OA O.length oc S P O) => filled_ok SA S.length sc PA P.length pc OA O.length oc S P O W h hf)
  obtain ⟨he, hc⟩ := filE_zero hf
  have hF := fine_of he
  have Hk := Lib.hid hF.ok
  have Hc := Lib.hid hc
  have Hgi := Lib.hid (fun T W (h : StIn W T SA S.length sc PA P.length pc OA O.length oc S P O (stockM S)) => give_any T SA S.length sc PA P.length pc OA O.length oc S P O (stockM S) W h (hF.oin.ok hF.n5) (fun j _ => by have := hF.ok.stk j; omega))
  have n5 := hF.n5
  have o8 := hF.o8
  clear hs hf he hc hF
  go_enter Try.func31, Try.ntmps31
  go_wp2_with fail
  refine (Ho.out _ HG0.out.sh).mono ?_
  rintro e w2 ⟨T, rfl, hb, hst⟩
  have HG1 := Lib.hid (HG0.out.later hb)
  clear hb HG0 g0 g1 g2 g3
  obtain ⟨g0, g1, g2, g3⟩ := HG1.out.cells
  have HO1 := Lib.hid hst
  clear hst
  obtain ⟨o0, o1, o2, o3⟩ := HO1.out.cells
  go_wp2_with fail
  refine (Hgi.out T _ HO1.out).mono ?_
  rintro e w9 ⟨b, nn, D, l, F, rfl, hb, hbl, hown, hmap, hn, hp, hsrt, hF⟩
  have hO : Ordl O l := ⟨hp, hsrt⟩
  have Hfill := Lib.hid (fill_is Hk.out (by omega) Hc.out hO hF)
  have HM := Lib.hid hmap
  have hG9 := HG1.out.later hb
  have HS0 := Lib.hid (show FS w w9 b nn D SA S.length sc PA P.length pc OA O.length oc S P O from ⟨hG9.bel, hG9.b0, hown⟩)
  have hbw : b < w9.heap.size := by
    obtain ⟨_, _, hb, _⟩ := hown
    exact (Array.getElem?_eq_some_iff.1 hb).1
  obtain ⟨RB, hRB⟩ : ∃ RB, RB = w9.heap.size := ⟨_, rfl⟩
  have HN := Lib.hid (show w.heap.size < RB ∧ b < RB from ⟨by rw [hRB]; exact hG9.b0.lt, by rw [hRB]; exact hbw⟩)
  have HR0 := Lib.hid (show OutW w9 RB (.slice none 0 0) [] from ⟨World.ownsRow_nil _ _ _ _, fun r hr => by cases hr⟩)
  have HNn := Lib.hid (show RB ≤ w9.heap.size by omega)
  clear hRB hb hbl hown hmap hn hp hsrt hF hO hG9 hbw HG1 HO1 g0 g1 g2 g3 o0 o1 o2 o3
  obtain ⟨g0, g1, g2⟩ := HS0.out.cells
  go_wp2_with fail
  clear g0 g1 g2
  refine loop_n (fun m a W => a.defers = [] ∧ ∃ (k : Nat) (v : Value) (L : List Rw), k + m = O.length ∧ Hid (FS w W b nn D SA S.length sc PA P.length pc OA O.length oc S P O) ∧ Hid (OutW W RB v L) ∧ Hid (L.map (·.xs) = rowsF F S.length k) ∧ Hid (RB ≤ W.heap.size) ∧ Fits (none :: some (.pointer (some ⟨w.heap.size, 0, none⟩)) :: none :: none :: none :: none :: some (.map (some b)) :: some (v) :: none :: none :: none :: none :: none :: none :: none :: none :: none :: none :: none :: none :: none :: none :: some (.slice OA O.length oc) :: some (.int .i64 (O.length : Int)) :: some (.int .i64 (k : Nat)) :: none :: none :: none :: none :: none :: none :: none :: none :: none :: none :: none :: none :: none :: none :: none :: none :: none :: none :: none :: none :: none :: none :: none :: none :: none :: none :: none :: none :: []) a.tmps.toList) O.length ?_ ?_
  · refine ⟨rfl, 0, _, _, by omega, HS0, HR0, Lib.hid rfl, HNn, ?_⟩
    repeat (first | exact fits_nil | refine fits_none ?_ | refine fits_some ?_)
  clear HS0 HR0 HNn
  clear w9
  intro m a W hI K hK
  obtain ⟨hds, k, v, L, hkm, HS, HR, HL, HB, hfit⟩ := hI
  obtain ⟨f, hf⟩ := fits_act hfit
  rw [hds] at hf
  subst hf
  clear hfit hds
  simp only [fillP, Nat.reduceAdd]
  obtain ⟨g0, g1, g2⟩ := HS.out.cells
  by_cases hlt : k < O.length
  · have i1 : (k : Int) < (O.length : Int) := by omega
    have i2 : (0 : Int) ≤ (k : Int) := by omega
    have i3 : IntKind.i64.wrap ((k : Int) + 1) = (k : Int) + 1 := by rw [IntKind.wrap_i64]; omega
    have Hkm := Lib.hid (show k + m = O.length ∧ k < O.length from ⟨hkm, hlt⟩)
    have HL2 := Lib.hid (show L.length = k by have h := congrArg List.length HL.out; simpa [rowsF] using h)
    clear hkm hlt
    go_wp2_with fail
    refine loop_n (fun q a W => a.defers = [] ∧ ∃ (j : Nat) (u : Value), j + q = S.length ∧ Hid (FS w W b nn D SA S.length sc PA P.length pc OA O.length oc S P O) ∧ Hid (OutW W RB v L) ∧ Hid (RowI RB ((List.range j).map (fF F k)) u W ∧ (j = 0 → u = .slice none 0 0)) ∧ Hid (RB ≤ W.heap.size) ∧ Fits (none :: some (.pointer (some ⟨w.heap.size, 0, none⟩)) :: none :: none :: none :: none :: some (.map (some b)) :: some (v) :: some (.int .i64 (k : Nat)) :: some (u) :: none :: none :: none :: none :: none :: none :: none :: none :: none :: none :: none :: none :: some (.slice OA O.length oc) :: some (.int .i64 (O.length : Int)) :: some (.int .i64 (k : Nat)) :: none :: none :: none :: some (.slice SA S.length sc) :: some (.int .i64 (S.length : Int)) :: some (.int .i64 (j : Nat)) :: none :: none :: none :: none :: none :: none :: none :: none :: none :: none :: none :: none :: none :: none :: none :: none :: none :: none :: none :: none :: none :: none :: []) a.tmps.toList) S.length ?_ ?_
    · refine ⟨rfl, 0, _, by omega, HS, HR, Lib.hid ⟨World.ownsRow_nil _ _ _ _, fun _ => rfl⟩, HB, ?_⟩
      repeat (first | exact fits_nil | refine fits_none ?_ | refine fits_some ?_)
    clear HS HR HB g0 g1 g2
    clear W
    intro q a W hI K2 hK2
    obtain ⟨hds, j, u, hjq, HS, HR, HU, HB, hfit⟩ := hI
    obtain ⟨f2, hf2⟩ := fits_act hfit
    rw [hds] at hf2
    subst hf2
    clear hfit hds
    simp only [fillP, Nat.reduceAdd]
    by_cases hlt : j < S.length
    · have j1 : (j : Int) < (S.length : Int) := by omega
      have j2 : (0 : Int) ≤ (j : Int) := by omega
      have j3 : IntKind.i64.wrap ((j : Int) + 1) = (j : Int) + 1 := by rw [IntKind.wrap_i64]; omega
      have Hjq := Lib.hid (show j + q = S.length ∧ j < S.length from ⟨hjq, hlt⟩)
      have HT := Lib.hid (show (List.range (j + 1)).map (fF F k) = (List.range j).map (fF F k) ++ [fF F k j] by rw [List.range_succ, List.map_append]; rfl)
      have hxl : ((List.range j).map (fF F k)).length = j := by simp
      have Hx := Lib.hid (fun V (h : OwnsM V b nn D) => lookup_pl (f := k) (k := j) h HM.out (by omega) (by omega))
      generalize (List.range j).map (fF F k) = xs at *
      generalize fF F k j = x at *
      clear hjq hlt
      by_cases hj0 : j = 0
      · obtain rfl := HU.out.2 hj0
        have hx0 : xs = [] := List.length_eq_zero_iff.1 (by rw [hxl]; exact hj0)
        have HX0 := Lib.hid hx0
        clear hxl hx0 HU hj0
        go_wp2_with fail
        refine dagRow 13 12 none (by kernel_rfl) (by kernel_rfl) (.is ?_ :: .is ?_ :: .is ?_ :: .is ?_ :: .is ?_ :: .is ?_ :: .is ?_ :: .is ?_ :: .is ?_ :: .is ?_ :: .is ?_ :: .like (OneI W.heap.size x) :: .like (RowI RB (xs ++ [x])) :: []) rfl ?st1 ?gd1 ?stb1 ?ob1
        case st1 => repeat (first | exact stab_nil | refine stab_is ?_ | refine stab_like OneI.stab ?_ | refine stab_like RowI.stab ?_)
        case gd1 => intro o ho; cases ho; rfl
        case stb1 => repeat (first | exact stabT_nil | refine stabT_is ?_ | refine stabT_like (fun _ _ _ h1 h2 => h2.grown h1.2 (fun r hr => by cases hr)) ?_)
        case ob1 =>
          intro env V hG
          have hb : Below W.heap.size W V := ⟨hG.os, hG.tape, hG.output, hG.size, fun i hi => hG.block i hi (fun e => by cases e)⟩
          have HG := Lib.hid hb
          have hlk := Hx.out V (HS.out.later hb).own
          clear hG hb
          iterate 11 (refine oblsA_is (show _ ≠ (12 : Nat) by decide) ?_ ?_; unfold doesAt; go_simp; (try go_bits); (first | (refine ⟨brefl _, ?_⟩; rfl) | rfl); intro K hK; go_simp; refine hK _ ?_; clear hK K)
          refine oblsA_like (show _ ≠ (12 : Nat) by decide) (fun _ => ?_) ?_
          · unfold doesAt
            go_simp
            have hbn := Blk.new V 2 #[.int .i64 x]
            exact ⟨balloc (brefl V) _, V.heap.size, rfl, HG.out.size, hbn.lt, hbn.cell 0⟩
          intro K hK
          go_simp
          refine hK _ ?_
          clear hK K
          refine oblsA_app rfl (fun hl hp => ?_) ?_
          · obtain ⟨g, hE, hg1, hg2, hg3⟩ : OneI W.heap.size x (env 11) V := hl ⟨11, .data⟩ (by simp) rfl (.inl rfl)
            refine app_of_run rfl (.tmp 38) (.tmp 44) 22 rfl rfl hE ?_
            rw [HX0.out]
            exact run_app_nil _ RB (by have := HB.out; have := hp.size; omega) hg3
          intro K hK
          go_simp
          refine hK _ ?_
          clear hK K
          refine oblsA_last (fun hok => ?_)
          have hrw : RowI RB (xs ++ [x]) (env 12) V := hok 12 _ rfl (.inl rfl)
          have Hrw := Lib.hid hrw
          clear hrw hok hlk
          unfold doesAt
          go_simp
          have HS2 := Lib.hid (HS.out.later HG.out)
          have HR2 := Lib.hid (HR.out.later HG.out)
          have HB2 := Lib.hid (show RB ≤ V.heap.size by have := HB.out; have := HG.out.size; omega)
          clear HS HR HB HG
          go_wp2
          refine hK2 _ _ (q - 1) (by have := Hjq.out; omega) ⟨rfl, j + 1, env 12, by have := Hjq.out; omega, HS2, HR2, Lib.hid ⟨by rw [HT.out]; exact Hrw.out, fun h => by omega⟩, HB2, ?_⟩
          repeat (first | exact fits_nil | refine fits_none ?_ | refine fits_some ?_)
      · obtain ⟨j', hj'⟩ : ∃ j', xs.length = j' + 1 := ⟨j - 1, by omega⟩
        have hu := HU.out.1
        unfold RowI at hu
        have hu' := hu
        rw [hj'] at hu'
        obtain ⟨gb, cap, hue⟩ := own_succ hu'
        rw [← hj', hxl] at hue
        subst hue
        obtain ⟨A0, c0, he0, hsl⟩ := own_slI hu rfl
        simp only [Value.slice.injEq] at he0
        obtain ⟨hA0, -, hc0⟩ := he0
        subst hA0 hc0
        have hcap := hsl.cap
        rw [hxl] at hcap
        have Hsl := Lib.hid hsl
        have Hxl := Lib.hid hxl
        have Hj0 := Lib.hid (show 0 < xs.length by omega)
        have e1 : (j : Int) ≤ (cap : Int) := by omega
        have e2 : j ≤ cap := hcap
        clear hxl HU hj0 hj' hu hu' hsl hcap
        go_wp2_with fail
        refine dagRow 13 12 none (by kernel_rfl) (by kernel_rfl) (.is ?_ :: .is ?_ :: .is ?_ :: .is ?_ :: .is ?_ :: .is ?_ :: .is ?_ :: .is ?_ :: .is ?_ :: .is ?_ :: .is ?_ :: .like (OneI W.heap.size x) :: .like (RowI RB (xs ++ [x])) :: []) rfl ?st2 ?gd2 ?stb2 ?ob2
        case st2 => repeat (first | exact stab_nil | refine stab_is ?_ | refine stab_like OneI.stab ?_ | refine stab_like RowI.stab ?_)
        case gd2 => intro o ho; cases ho; rfl
        case stb2 => repeat (first | exact stabT_nil | refine stabT_is ?_ | refine stabT_like (fun _ _ _ h1 h2 => h2.grown h1.2 (fun r hr => by cases hr)) ?_)
        case ob2 =>
          intro env V hG
          have hb : Below W.heap.size W V := ⟨hG.os, hG.tape, hG.output, hG.size, fun i hi => hG.block i hi (fun e => by cases e)⟩
          have HG := Lib.hid hb
          have hlk := Hx.out V (HS.out.later hb).own
          clear hG hb
          iterate 11 (refine oblsA_is (show _ ≠ (12 : Nat) by decide) ?_ ?_; unfold doesAt; go_simp; (try go_bits); (first | (refine ⟨brefl _, ?_⟩; rfl) | rfl); intro K hK; go_simp; refine hK _ ?_; clear hK K)
          refine oblsA_like (show _ ≠ (12 : Nat) by decide) (fun _ => ?_) ?_
          · unfold doesAt
            go_simp
            have hbn := Blk.new V 2 #[.int .i64 x]
            exact ⟨balloc (brefl V) _, V.heap.size, rfl, HG.out.size, hbn.lt, hbn.cell 0⟩
          intro K hK
          go_simp
          refine hK _ ?_
          clear hK K
          refine oblsA_app rfl (fun hl hp => ?_) ?_
          · obtain ⟨g, hE, hg1, hg2, hg3⟩ : OneI W.heap.size x (env 11) V := hl ⟨11, .data⟩ (by simp) rfl (.inl rfl)
            refine app_of_run rfl (.tmp 38) (.tmp 44) 22 rfl rfl hE ?_
            refine run_app_full _ RB (by have := HB.out; have := hp.size; omega) (sl_news (Hsl.out.later hp) Hj0.out) Hxl.out hg3 (by omega)
          intro K hK
          go_simp
          refine hK _ ?_
          clear hK K
          refine oblsA_last (fun hok => ?_)
          have hrw : RowI RB (xs ++ [x]) (env 12) V := hok 12 _ rfl (.inl rfl)
          have Hrw := Lib.hid hrw
          clear hrw hok hlk
          unfold doesAt
          go_simp
          have HS2 := Lib.hid (HS.out.later HG.out)
          have HR2 := Lib.hid (HR.out.later HG.out)
          have HB2 := Lib.hid (show RB ≤ V.heap.size by have := HB.out; have := HG.out.size; omega)
          clear HS HR HB HG
          go_wp2
          refine hK2 _ _ (q - 1) (by have := Hjq.out; omega) ⟨rfl, j + 1, env 12, by have := Hjq.out; omega, HS2, HR2, Lib.hid ⟨by rw [HT.out]; exact Hrw.out, fun h => by omega⟩, HB2, ?_⟩
          repeat (first | exact fits_nil | refine fits_none ?_ | refine fits_some ?_)
    · obtain rfl : j = S.length := by omega
      have j1 : ¬ (S.length : Int) < (S.length : Int) := by omega
      have hxs : ((List.range S.length).map (fF F k)).length = S.length := by simp
      obtain ⟨A1, c1, hu1, -⟩ := own_slI HU.out.1 rfl
      rw [hxs] at hu1
      subst hu1
      have HT := Lib.hid (show rowsF F S.length (k + 1) = rowsF F S.length k ++ [(List.range S.length).map (fF F k)] by unfold rowsF; rw [List.range_succ, List.map_append]; rfl)
      generalize hxg : (List.range S.length).map (fF F k) = xs at *
      clear hxg
      have HU2 := Lib.hid HU.out.1
      have Hxs := Lib.hid hxs
      have HRa := Lib.hid (HR.out.later (balloc (brefl W) (.cells #[.slice A1 S.length c1] 22)))
      have HUa := Lib.hid (own_later HU.out.1 (balloc (brefl W) (.cells #[.slice A1 S.length c1] 22)))
      have HSa := Lib.hid (HS.out.later (balloc (brefl W) (.cells #[.slice A1 S.length c1] 22)))
      have HB1 := Lib.hid HB.out
      have hll := HL2.out
      have hkk := Hkm.out.2
      have hbb := HB.out
      obtain ⟨i0, hi0, hz0, hz1, hz2⟩ := info_parts info_row
      clear hK2 hjq hlt HU hxs HR HS
      go_wp2_with (at_builtin; refine wpList_append_own _ rfl _ _ 26 rfl RB 22 i0 (.slice none 0 0) 1 24 und_rows hi0 hz0 hz1 hz2 rfl (by decide) v L.length _ rfl HRa.out.own ⟨W.heap.size, 0, none⟩ 1 1 [.slice A1 S.length c1] rfl rfl (one_new _ _ _) (by simp [Value.oneCell']) (by simp only [maxLen]; omega) (by omega) (by simp; omega) ?_; intro v' W3 hown' hgr _; have HR4 := Lib.hid (HRa.out.app (r := ⟨A1, S.length, c1, xs⟩) HUa.out Hxs.out.symm hgr hown'); have HS4 := Lib.hid (HSa.out.grown hgr (own_base HRa.out.own) HN.out); have HB4 := Lib.hid (show RB ≤ W3.heap.size by have := hgr.size; rw [World.size_alloc] at this; omega); clear hown' hgr)
      refine hK _ _ (m - 1) (by have := Hkm.out; omega) ⟨rfl, k + 1, v', L ++ [⟨A1, S.length, c1, xs⟩], by have := Hkm.out; omega, HS4, HR4, Lib.hid (by rw [List.map_append, HL.out, HT.out]; rfl), HB4, ?_⟩
      repeat (first | exact fits_nil | refine fits_none ?_ | refine fits_some ?_)
  · obtain rfl : k = O.length := by omega
    have i1 : ¬ (O.length : Int) < (O.length : Int) := by omega
    obtain ⟨A, c, rfl, hfi⟩ := HR.out.fill
    have hL : L.length = O.length := by have h := congrArg List.length HL.out; simpa [rowsF] using h
    rw [hL] at hfi ⊢
    have Hfi := Lib.hid hfi
    have HL3 := Lib.hid HL.out
    clear hK hfi hL HR hkm hlt
    go_wp2
    go_ret2
    exact ⟨A, c, rfl, HS.out.bel, L, Hfi.out, by rw [HL3.out]; exact Hfill.out⟩
end
end Go.Proofs.Ytmfiggbobaihcaa
