/- The document's Back: a yard whose hours are counted back. · The document's Late and Early, valid or not. -/
import Derived.Test.YtbbdlebmagknmaaSApiG
import Derived.Test.YtbbdlebmagknmaaDagA
import Derived.Test.YtbbdlebmagknmaaSRefL
namespace Go.Proofs.Ytbbdlebmagknmaa
open Go.RowKit Go.Shelf

/-- A new slice of one range. -/
def OneR (B : Nat) (x y : Int) (v : Value) (W : World) : Prop := ∃ g, v = .slice (some ⟨g, 0, none⟩) 1 1 ∧ B ≤ g ∧ g < W.heap.size ∧ W.cell? ⟨g, 0, none⟩ = some (.int .i64 x) ∧ W.cell? ⟨g, 1, none⟩ = some (.int .i64 y)
theorem OneR.stab {B : Nat} (x y : Int) : ∀ v W W', Gr W W' → OneR B x y v W → OneR B x y v W' := fun _ _ _ hG ⟨g, h1, h0, h2, h3, h4⟩ =>
  ⟨g, h1, h0, Nat.lt_of_lt_of_le h2 hG.size, (hG.cell (p := ⟨g, 0, none⟩) h2).trans h3, (hG.cell (p := ⟨g, 1, none⟩) h2).trans h4⟩
theorem OneR.grown {B : Nat} {x y : Int} {v : Value} {W W' : World} {row : Option Nat} (h : OneR B x y v W) (hg : W.grownBy W' row) (hr : ∀ r, row = some r → r < B) : OneR B x y v W' := by
  obtain ⟨g, h1, h0, h2, h3, h4⟩ := h
  have hne : some g ≠ row := fun e => by have := hr g e.symm; omega
  exact ⟨g, h1, h0, Nat.lt_of_lt_of_le h2 hg.size, (World.cell?_of_block (hg.block g h2 hne)).trans h3, (World.cell?_of_block (hg.block g h2 hne)).trans h4⟩
/-- The row behind one range more. -/
def RowR (B : Nat) (xs : List Rg) (v : Value) (W : World) : Prop := W.ownsRow B 27 2 v xs.length (xs.flatMap encR)
theorem RowR.stab {B : Nat} (xs : List Rg) : ∀ v W W', Gr W W' → RowR B xs v W → RowR B xs v W' := fun _ _ _ hG h => own_later h hG
/-- One range more. -/
theorem run_app_rgB {W : World} {base N : Nat} (ty : TypeId) {v : Value} {xs xy : List Rg} {x : Rg} (hxy : xs ++ [x] = xy) (hown : W.ownsRow base 27 2 v xs.length (xs.flatMap encR)) (hn : ∀ j u, (encR x)[j]? = some u → W.cell? ((⟨N, 0, none⟩ : Addr).add j) = some u) (h2 : xs.length ≤ 1000) (hb : base ≤ W.heap.size) :
    ∃ v' W', (Builtin.append_ #[22, 22] ty #[v, .slice (some ⟨N, 0, none⟩) 1 1]).run Try.prog W = .ok v' W' ∧ (W.grownBy W' v.ownBlock ∧ RowR base xy v' W') := by
  subst hxy
  obtain ⟨i0, hi0, hz0, hz1, hz2⟩ := info_parts info_rg
  obtain ⟨v', W', h1', h2', h3', _⟩ := run_append_own (P := Try.prog) W base 22 ty 27 i0 (.agg #[.int .i64 0, .int .i64 0]) 2 16 und_rgs hi0 hz0 hz1 hz2 rfl (by decide) v xs.length _ hown ⟨N, 0, none⟩ 1 1 (encR x) rfl hn (by simp [encR, Value.oneCell']) (by simp only [maxLen]; omega) (by omega) hb
  refine ⟨_, W', h1', h3', ?_⟩
  unfold RowR
  rw [List.flatMap_append, List.length_append]
  simpa using h2'
theorem one_news {W : World} {N : Nat} {x : Rg} (h0 : W.cell? ⟨N, 0, none⟩ = some (.int .i64 x.lo)) (h1 : W.cell? ⟨N, 1, none⟩ = some (.int .i64 x.hi)) : ∀ j u, (encR x)[j]? = some u → W.cell? ((⟨N, 0, none⟩ : Addr).add j) = some u := by
  intro j u hu
  have hadd : (⟨N, 0, none⟩ : Addr).add j = ⟨N, j, none⟩ := by unfold Addr.add; split <;> simp_all
  rw [hadd]
  match j with
  | 0 => rw [h0]; simpa [encR] using hu
  | 1 => rw [h1]; simpa [encR] using hu
  | j + 2 => simp [encR] at hu
set_option maxRecDepth 100000 in
set_option maxHeartbeats 4000000 in
theorem refBack_any (L : Int) (A : Option Addr) (n c : Nat) (rs : List Rg) (w : World) (hs : Sl 2 encR w w.heap.size A n c rs) (hr : RsOk rs) :
    Calls Try.prog 44 #[.agg #[.int .i64 L, .slice A n c]] w fun e w' => ∃ A' c', e = .returned (.agg #[.int .i64 L, .slice A' n c']) ∧ Below w.heap.size w w' ∧ Sl 2 encR w' w'.heap.size A' n c' (backP rs) := by
  obtain rfl := hs.len
  have hn10 := hr.1
  have hbl1 := (Blk.new (w.alloc (.cells #[.int .i64 L, .slice A rs.length c] 24)) 24 #[.int .i64 0, .slice none 0 0]).alloc (.cells #[.int .i64 L, .slice none 0 0] 24)
  have hbl2 := Blk.new ((w.alloc (.cells #[.int .i64 L, .slice A rs.length c] 24)).alloc (.cells #[.int .i64 0, .slice none 0 0] 24)) 24 #[.int .i64 L, .slice none 0 0]
  rw [World.size_alloc] at hbl1
  rw [World.size_alloc, World.size_alloc] at hbl2
  have HK0 := Lib.hid (show KB w (((w.alloc (.cells #[.int .i64 L, .slice A rs.length c] 24)).alloc (.cells #[.int .i64 0, .slice none 0 0] 24)).alloc (.cells #[.int .i64 L, .slice none 0 0] 24)) L A rs.length c (.slice none 0 0) [] from ⟨⟨balloc (balloc (balloc (brefl w) _) _) _, hbl2, World.ownsRow_nil _ _ _ _, by omega⟩, ((Blk.new w _ _).alloc _).alloc _, hbl1⟩)
  have Hs := Lib.hid hs
  have Hr := Lib.hid hr
  clear hs hr hbl1 hbl2
  go_enter Try.func44, Try.ntmps44
  go_wp2_with fail
  refine loop_n (fun m a W => a.defers = [] ∧ ∃ (i : Nat) (v : Value), i + m = rs.length ∧ KB w W L A rs.length c v (backP (rs.take i)) ∧ Fits (none :: some (.pointer (some ⟨w.heap.size, 0, none⟩)) :: some (.pointer (some ⟨w.heap.size + 1, 0, none⟩)) :: some (.pointer (some ⟨w.heap.size + 1 + 1, 0, none⟩)) :: some (.int .i64 (i : Nat)) :: none :: none :: none :: none :: none :: none :: none :: none :: none :: none :: none :: none :: none :: none :: none :: none :: none :: none :: none :: none :: none :: none :: none :: none :: none :: none :: none :: none :: none :: none :: none :: []) a.tmps.toList) rs.length ?_ ?_
  · refine ⟨rfl, 0, _, by omega, HK0.out, ?_⟩
    repeat (first | exact fits_nil | refine fits_none ?_ | refine fits_some ?_)
  clear HK0
  intro m a W hI K hK
  obtain ⟨hds, i, v, him, hKB, hfit⟩ := hI
  obtain ⟨f, hf⟩ := fits_act hfit
  rw [hds] at hf
  subst hf
  clear hfit hds
  simp only [fillP, Nat.reduceAdd]
  have c0 := hKB.b0.cell 1
  have c1 := hKB.b0.lt
  have HK := Lib.hid hKB
  by_cases hlt : i < rs.length
  · obtain ⟨rb, ro, _, rfl, hrw, _, _, _⟩ := Hs.out.ltR hlt
    obtain ⟨rb', ro', x, hA', hrb, hx, g0, g1⟩ := (Hs.out.later hKB.bx.bel).ltR hlt
    cases hA'
    obtain ⟨a0, a1, a2⟩ := Hr.out.2 x (List.mem_of_getElem? hx)
    have hadd : backP (rs.take i) ++ [backR x] = backP (rs.take (i + 1)) := by
      obtain ⟨h1, h2⟩ := List.getElem?_eq_some_iff.1 hx
      unfold backP
      rw [List.take_succ_eq_append_getElem h1, h2, List.map_append, List.map_cons, List.map_nil]
    obtain ⟨xs, hxs⟩ : ∃ xs, backP (rs.take i) = xs := ⟨_, rfl⟩
    obtain ⟨xy, hxy⟩ : ∃ xy, backP (rs.take (i + 1)) = xy := ⟨_, rfl⟩
    have hxl : xs.length ≤ 10 := by rw [← hxs]; simp [backP]; omega
    rw [hxs] at hKB HK hadd
    rw [hxy] at hadd
    have Hadd := Lib.hid hadd
    have Hxy := Lib.hid hxy
    have i1 : (i : Int) < (rs.length : Int) := by omega
    have i2 : (0 : Int) ≤ (i : Int) := by omega
    have i3 : IntKind.i64.wrap ((i : Int) + 1) = (i : Int) + 1 := by rw [IntKind.wrap_i64]; omega
    have i4 : IntKind.i64.wrap (100 - x.hi) = 100 - x.hi := by rw [IntKind.wrap_i64]; omega
    have i5 : IntKind.i64.wrap (100 - x.lo) = 100 - x.lo := by rw [IntKind.wrap_i64]; omega
    have b0 := hKB.bx.bp.cell 0
    have b1 := hKB.bx.bp.cell 1
    have b2 := hKB.bx.bp.lt
    have hne := hKB.bx.bp.notRow hKB.bx.own (by decide)
    have hne0 := hKB.b0.notRow hKB.bx.own (by decide)
    have hrow : ∀ r, v.ownBlock = some r → r < W.heap.size := fun r hr => own_lt hKB.bx.own r hr
    have hrbn : v.ownBlock ≠ some rb := fun e => by have := own_base hKB.bx.own rb e; omega
    have Hrow := Lib.hid hrow
    clear hKB hx hadd hxs hxy hrow
    go_wp2_with fail
    refine dagRow 20 18 v.ownBlock (by kernel_rfl) (by kernel_rfl) (.is ?_ :: .is ?_ :: .is ?_ :: .is ?_ :: .is ?_ :: .is ?_ :: .is ?_ :: .is ?_ :: .is ?_ :: .is ?_ :: .is ?_ :: .is ?_ :: .is ?_ :: .is ?_ :: .is ?_ :: .is ?_ :: .is ?_ :: .like (OneR W.heap.size (100 - x.hi) (100 - x.lo)) :: .like (RowR w.heap.size xy) :: .is ?_ :: []) rfl ?st1 ?gd1 ?stb1 ?ob1
    case st1 => repeat (first | exact stab_nil | refine stab_is ?_ | refine stab_like (OneR.stab _ _) ?_ | refine stab_like (RowR.stab _) ?_)
    case gd1 => intro o ho; cases ho; rfl
    case stb1 => repeat (first | exact stabT_nil | refine stabT_is ?_ | refine stabT_like (fun _ _ _ h1 h2 => h2.grown h1.2 Hrow.out) ?_)
    case ob1 =>
    intro env V hG
    have HK2 := Lib.hid (HK.out.b0.grown hG hne0)
    have HK3 := Lib.hid (HK.out.bx.bp.grown hG hne)
    have d1 := HK2.out.cell 1
    have d2 := HK2.out.lt
    have e1 := HK3.out.cell 1
    have e2 := HK3.out.lt
    have h0 := (World.cell?_of_block (a := ⟨rb, ro + i * 2, none⟩) (hG.block rb hrb (Ne.symm hrbn))).trans g0
    have h1 := (World.cell?_of_block (a := ⟨rb, ro + i * 2 + 1, none⟩) (hG.block rb hrb (Ne.symm hrbn))).trans g1
    have h2 := Nat.lt_of_lt_of_le hrb hG.size
    have HG := Lib.hid hG
    iterate 17 (refine oblsA_is (show _ ≠ (18 : Nat) by decide) ?_ ?_; unfold doesAt; go_simp; (try go_bits); (first | (refine ⟨brefl _, ?_⟩; rfl) | rfl); intro K hK; go_simp; refine hK _ ?_; clear hK K)
    refine oblsA_like (show _ ≠ (18 : Nat) by decide) (fun _ => ?_) ?_
    · unfold doesAt
      go_simp
      have hbn := Blk.new V 27 #[.int .i64 (100 - x.hi), .int .i64 (100 - x.lo)]
      exact ⟨balloc (brefl V) _, V.heap.size, rfl, HG.out.size, hbn.lt, hbn.cell 0, hbn.cell 1⟩
    intro K hK
    go_simp
    refine hK _ ?_
    clear hK K
    refine oblsA_app rfl (fun hl hp => ?_) ?_
    · obtain ⟨g, hE, hg1, hg2, hg3, hg4⟩ : OneR W.heap.size (100 - x.hi) (100 - x.lo) (env 17) V := hl ⟨17, .data⟩ (by simp) rfl (.inl rfl)
      refine app_of_run rfl (.tmp 16) (.tmp 32) 22 rfl rfl hE ?_
      exact run_app_rgB _ Hadd.out (own_later HK.out.bx.own hp) (one_news (x := backR x) hg3 hg4) (by omega) (by have := hp.size; omega)
    intro K hK
    go_simp
    refine hK _ ?_
    clear hK K
    (refine oblsA_is (show _ ≠ (18 : Nat) by decide) ?_ ?_; unfold doesAt; go_simp; (try go_bits); (first | (refine ⟨brefl _, ?_⟩; rfl) | rfl); intro K hK; go_simp; refine hK _ ?_; clear hK K)
    refine oblsA_last (fun hok => ?_)
    have hrw : RowR w.heap.size xy (env 18) V := hok 18 _ rfl (.inl rfl)
    obtain ⟨v', hv'⟩ : ∃ v', env 18 = v' := ⟨_, rfl⟩
    rw [hv'] at hrw ⊢
    have hl1 : xy.length = xs.length + 1 := by rw [← Hadd.out]; simp
    have hrw' := hrw
    unfold RowR at hrw'
    rw [hl1] at hrw'
    have hrw2 := hrw'
    rw [← Hadd.out, List.flatMap_append] at hrw'
    obtain ⟨gg, cap, rfl⟩ := own_succ hrw2
    have HK4 := Lib.hid (HK.out.grown (x := backR x) HG.out (by simpa using hrw'))
    rw [Hadd.out] at HK4
    have f1 := HK3.out.frozen 1
    clear hrw hrw' hrw2 hv' hok hG h0 h1 h2 d1 d2 g0 g1 c0 c1 b0 b1 b2 hne hne0 hrbn hrb HK2 HK3 HG HK hl1
    unfold doesAt
    go_simp
    go_wp2
    rw [← Hxy.out] at HK4
    refine hK _ _ (m - 1) (by omega) ⟨rfl, i + 1, _, by omega, HK4.out, ?_⟩
    repeat (first | exact fits_nil | refine fits_none ?_ | refine fits_some ?_)
  · obtain rfl : i = rs.length := by omega
    rw [List.take_length] at hKB HK
    obtain ⟨A', c', hv, hsl⟩ := hKB.bx.sl
    subst hv
    have hbl : (backP rs).length = rs.length := by simp [backP]
    rw [hbl] at hKB HK hsl
    have b0 := hKB.bx.bp.cell 0
    have b1 := hKB.bx.bp.cell 1
    have b2 := hKB.bx.bp.lt
    have b3 := hKB.b1.frozen 0
    have b4 := hKB.b1.frozen 1
    have b5 := hKB.b1.cell 0
    have b6 := hKB.b1.cell 1
    have b7 := hKB.b1.lt
    clear hK hKB
    go_wp2
    have hKB := HK.out
    refine bodyPost_ret (v := .agg #[.int .i64 L, .slice A' rs.length c']) ?_ rfl ⟨A', c', rfl, (hKB.bx.bel.setCell (by show w.heap.size ≤ w.heap.size + 1; omega) _).setCell (by show w.heap.size ≤ w.heap.size + 1; omega) _, ?_⟩
    · have e0 : ((W.setCell ⟨w.heap.size + 1, 0, none⟩ (.int .i64 L)).setCell ⟨w.heap.size + 1, 1, none⟩ (.slice A' rs.length c')).cell? ⟨w.heap.size + 1, 0, none⟩ = some (.int .i64 L) := by
        rw [((hKB.b1.set 0 _).set 1 _).cell 0]; rfl
      have e1 : ((W.setCell ⟨w.heap.size + 1, 0, none⟩ (.int .i64 L)).setCell ⟨w.heap.size + 1, 1, none⟩ (.slice A' rs.length c')).cell? ⟨w.heap.size + 1, 1, none⟩ = some (.slice A' rs.length c') := by
        rw [((hKB.b1.set 0 _).set 1 _).cell 1]; rfl
      simp [results, Try.results44, go_sem, e0, e1]
    · have h5 := hKB.bx.own
      have hnr := hKB.b1.notRow h5 (by decide)
      rw [hbl] at h5
      obtain ⟨A2, c2, he2, hsl2⟩ := own_slG (k := 2) (enc := encR) (fun _ => rfl) (own_other (own_other h5 ⟨w.heap.size + 1, 0, none⟩ hnr (.int .i64 L)) ⟨w.heap.size + 1, 1, none⟩ hnr (.slice A' rs.length c')) hbl
      simp only [Value.slice.injEq] at he2
      obtain ⟨rfl, _, rfl⟩ := he2
      exact hsl2
end Go.Proofs.Ytbbdlebmagknmaa

namespace Go.Proofs.Ytbbdlebmagknmaa
open Go.RowKit Go.Shelf

set_option maxRecDepth 100000 in
set_option maxHeartbeats 1000000 in
theorem refLate_bad (L : Int) (A : Option Addr) (n c : Nat) (rs : List Rg) (w : World) (hs : Sl 2 encR w w.heap.size A n c rs) (h0 : yardE L rs ≠ 0) :
    Calls Try.prog 34 #[.agg #[.int .i64 L, .slice A n c]] w fun e w' => e = .returned (.tuple #[.slice none 0 0, .int .i64 (yardE L rs)]) ∧ Below w.heap.size w w' := by
  have HK := Lib.hid (show LW w (w.alloc (.cells #[.int .i64 L, .slice A n c] 24)) w.heap.size L A n c rs from ⟨balloc (brefl w) _, Blk.new w _ _, hs.later (balloc (brefl w) _)⟩)
  obtain ⟨x, hx⟩ : ∃ x, yardE L rs = x := ⟨_, rfl⟩
  have Hx := Lib.hid hx
  rw [hx] at h0
  have hd : (x == 0) = false := by simpa using h0
  have hd2 : decide (x = 0) = false := by simpa using h0
  clear hs hx
  obtain ⟨c0, c1, c2⟩ := HK.out.cells
  go_enter Try.func34, Try.ntmps34
  go_wp2_with fail
  refine (refYard_any L A n c rs _ HK.out.sl).mono ?_
  rintro e w1 ⟨rfl, hb1⟩
  rw [Hx.out]
  have HK1 := Lib.hid (HK.out.later hb1)
  clear hb1 HK c0 c1 c2
  obtain ⟨c0, c1, c2⟩ := HK1.out.cells
  go_wp2_with fail
  refine (refYard_any L A n c rs _ HK1.out.sl).mono ?_
  rintro e w2 ⟨rfl, hb2⟩
  rw [Hx.out]
  have HB := Lib.hid (Below.later HK1.out.bel hb2)
  clear hb2 c0 c1 c2
  go_wp2
  go_ret2
  exact ⟨by rw [Hx.out]; rfl, HB.out⟩
set_option maxRecDepth 100000 in
set_option maxHeartbeats 1000000 in
theorem refEarly_bad (L : Int) (A : Option Addr) (n c : Nat) (rs : List Rg) (w : World) (hs : Sl 2 encR w w.heap.size A n c rs) (h0 : yardE L rs ≠ 0) :
    Calls Try.prog 32 #[.agg #[.int .i64 L, .slice A n c]] w fun e w' => e = .returned (.tuple #[.slice none 0 0, .int .i64 (yardE L rs)]) ∧ Below w.heap.size w w' := by
  have HK := Lib.hid (show LW w (w.alloc (.cells #[.int .i64 L, .slice A n c] 24)) w.heap.size L A n c rs from ⟨balloc (brefl w) _, Blk.new w _ _, hs.later (balloc (brefl w) _)⟩)
  obtain ⟨x, hx⟩ : ∃ x, yardE L rs = x := ⟨_, rfl⟩
  have Hx := Lib.hid hx
  rw [hx] at h0
  have hd : (x == 0) = false := by simpa using h0
  have hd2 : decide (x = 0) = false := by simpa using h0
  clear hs hx
  obtain ⟨c0, c1, c2⟩ := HK.out.cells
  go_enter Try.func32, Try.ntmps32
  go_wp2_with fail
  refine (refYard_any L A n c rs _ HK.out.sl).mono ?_
  rintro e w1 ⟨rfl, hb1⟩
  rw [Hx.out]
  have HK1 := Lib.hid (HK.out.later hb1)
  clear hb1 HK c0 c1 c2
  obtain ⟨c0, c1, c2⟩ := HK1.out.cells
  go_wp2_with fail
  refine (refYard_any L A n c rs _ HK1.out.sl).mono ?_
  rintro e w2 ⟨rfl, hb2⟩
  rw [Hx.out]
  have HB := Lib.hid (Below.later HK1.out.bel hb2)
  clear hb2 c0 c1 c2
  go_wp2
  go_ret2
  exact ⟨by rw [Hx.out]; rfl, HB.out⟩
theorem refLate_any (L : Int) (A : Option Addr) (n c : Nat) (rs : List Rg) (w : World) (hs : Sl 2 encR w w.heap.size A n c rs) :
    Calls Try.prog 34 #[.agg #[.int .i64 L, .slice A n c]] w fun e w' => ∃ v, e = .returned (.tuple #[v, .int .i64 (yardE L rs)]) ∧ Below w.heap.size w w' ∧ w'.ownsRow w.heap.size 2 1 v (lateV L rs).length ((lateV L rs).map (.int .i64)) := by
  by_cases he : yardE L rs = 0
  · obtain ⟨m, rfl, hL, hr⟩ := yard_nat he
    unfold lateV
    rw [if_pos he, he]
    exact refLate_ok m A n c rs w hs he
  · unfold lateV
    rw [if_neg he]
    refine (refLate_bad L A _ c rs w hs he).mono ?_
    rintro e w' ⟨rfl, hb⟩
    exact ⟨_, rfl, hb, World.ownsRow_nil _ _ _ _⟩
/-- While the late loads are turned round. -/
structure ET (w W : World) (N2 : Nat) (G : Option Addr) (n c : Nat) (ts : List Int) (v : Value) (xs : List Int) : Prop where
  bel : Below w.heap.size w W
  sl : Sl 1 encI W N2 G n c ts
  own : W.ownsRow N2 2 1 v xs.length (xs.map (.int .i64))
  hlt : w.heap.size ≤ N2
  hle : N2 ≤ W.heap.size
section
variable {w W W' : World} {N2 : Nat} {G : Option Addr} {n c : Nat} {ts : List Int} {v : Value} {xs : List Int}
theorem ET.later (h : ET w W N2 G n c ts v xs) (hb : Below W.heap.size W W') : ET w W' N2 G n c ts v xs :=
  ⟨Below.later h.bel hb, h.sl.below (hb.mono h.hle), own_later h.own hb, h.hlt, Nat.le_trans h.hle hb.size⟩
theorem ET.grown {v' : Value} (h : ET w W N2 G n c ts v xs) (x : Int) (hg : W.grownBy W' v.ownBlock) (ho : W'.ownsRow N2 2 1 v' (xs.length + 1) (xs.map (.int .i64) ++ [.int .i64 x])) : ET w W' N2 G n c ts v' (xs ++ [x]) := by
  have hrow : ∀ k, v.ownBlock = some k → N2 ≤ k := fun k hk => (h.own.lt k hk).1
  have hb2 : Below N2 W W' := ⟨hg.os, hg.tape, hg.output, hg.size, fun i hi => hg.block i (by have := h.hle; omega) (fun e => by have := hrow i e.symm; omega)⟩
  refine ⟨h.bel.trans (hb2.mono h.hlt), h.sl.below hb2, ?_, h.hlt, Nat.le_trans h.hle hg.size⟩
  rw [List.length_append, List.map_append]
  exact ho
end
def turnTo (ts : List Int) (k : Nat) : List Int := (ts.drop k).reverse.map fun t => 100 - t
theorem turnTo_step {ts : List Int} {k : Nat} {t : Int} (h : ts[k]? = some t) : turnTo ts k = turnTo ts (k + 1) ++ [100 - t] := by
  obtain ⟨h1, h2⟩ := List.getElem?_eq_some_iff.1 h
  unfold turnTo
  rw [List.drop_eq_getElem_cons h1, h2, List.reverse_cons, List.map_append]
  rfl
set_option maxRecDepth 100000 in
set_option maxHeartbeats 4000000 in
theorem refEarly_ok (L : Nat) (A : Option Addr) (n c : Nat) (rs : List Rg) (w : World) (hs : Sl 2 encR w w.heap.size A n c rs) (he : yardE (L : Int) rs = 0) :
    Calls Try.prog 32 #[.agg #[.int .i64 (L : Int), .slice A n c]] w fun e w' => ∃ v, e = .returned (.tuple #[v, .int .i64 0]) ∧ Below w.heap.size w w' ∧ w'.ownsRow w.heap.size 2 1 v (turnTo (Fill.lateP (LA (backP rs) L) 101) 0).length ((turnTo (Fill.lateP (LA (backP rs) L) 101) 0).map (.int .i64)) := by
  have HK := Lib.hid (show LW w (w.alloc (.cells #[.int .i64 (L : Int), .slice A n c] 24)) w.heap.size (L : Int) A n c rs from ⟨balloc (brefl w) _, Blk.new w _ _, hs.later (balloc (brefl w) _)⟩)
  obtain ⟨hL, hr⟩ := yard_ok he
  have hL' : 1 ≤ L ∧ L ≤ 10 := by omega
  have Hx := Lib.hid he
  have Hr := Lib.hid hr
  have HyB := Lib.hid (yard_of hL (back_ok hr))
  have hlen := lateP_len (LA (backP rs) L) (la_zero _ _) (la_mono1 _ _) 101
  have hbd := la_bound (back_ok hr) hL' 101
  have hrg := fun t (h : t ∈ Fill.lateP (LA (backP rs) L) 101) => late_mem h
  have hbl : (backP rs).length = n := by rw [← hs.len]; simp [backP]
  obtain ⟨ts, hts⟩ : ∃ ts, Fill.lateP (LA (backP rs) L) 101 = ts := ⟨_, rfl⟩
  rw [hts] at hlen hrg ⊢
  have Hts := Lib.hid hts
  have Hlen := Lib.hid (show ts.length ≤ 102010 by omega)
  have Hrg := Lib.hid hrg
  clear hs he hr hlen hbd hrg hts
  obtain ⟨c0, c1, c2⟩ := HK.out.cells
  go_enter Try.func32, Try.ntmps32
  go_wp2_with fail
  refine (refYard_any (L : Int) A n c rs _ HK.out.sl).mono ?_
  rintro e w1 ⟨rfl, hb1⟩
  rw [Hx.out]
  have HK1 := Lib.hid (HK.out.later hb1)
  clear hb1 HK c0 c1 c2
  obtain ⟨c0, c1, c2⟩ := HK1.out.cells
  go_wp2_with fail
  refine (refBack_any (L : Int) A n c rs _ HK1.out.sl Hr.out).mono ?_
  rintro e w2 ⟨A', c', rfl, hb2, hsl⟩
  have HB2 := Lib.hid (Below.later HK1.out.bel hb2)
  have Hsl := Lib.hid hsl
  obtain rfl : n = (backP rs).length := hbl.symm
  clear hb2 hsl HK1 c0 c1 c2 hbl
  go_wp2_with fail
  refine (refLate_ok L A' _ c' (backP rs) _ Hsl.out HyB.out).mono ?_
  rintro e w3 ⟨v, rfl, hb3, hown⟩
  rw [Hts.out] at hown
  obtain ⟨G, d, rfl, hsl3⟩ := own_slI hown rfl
  have HT0 := Lib.hid (show ET w w3 w3.heap.size G ts.length d ts (.slice none 0 0) (turnTo ts ts.length) from ⟨Below.later HB2.out hb3, hsl3, by
    unfold turnTo
    rw [List.drop_length]
    exact World.ownsRow_nil _ _ _ _, (Below.later HB2.out hb3).size, Nat.le_refl _⟩)
  obtain ⟨N2, hN2⟩ : ∃ N2, w3.heap.size = N2 := ⟨_, rfl⟩
  rw [hN2] at HT0
  obtain ⟨m, hm⟩ : ∃ m, ts.length = m := ⟨_, rfl⟩
  rw [hm] at HT0 Hlen
  have hm2 := Hlen.out
  have i0 : IntKind.i64.wrap ((m : Int) - 1) = (m : Int) - 1 := by rw [IntKind.wrap_i64]; omega
  rw [hm]
  clear hb3 hown hsl3 hN2 HB2 Hsl hm
  go_wp2_with fail
  refine loop_n (fun q a W => a.defers = [] ∧ ∃ (x : Int) (v : Value), (q ≤ m ∧ x = (q : Int) - 1) ∧ ET w W N2 G m d ts v (turnTo ts q) ∧ Fits (none :: none :: none :: none :: some (.slice G m d) :: none :: some (v) :: some (.int .i64 x) :: none :: none :: none :: none :: none :: none :: none :: none :: none :: none :: none :: none :: none :: none :: none :: none :: none :: none :: none :: none :: none :: none :: none :: none :: none :: none :: none :: []) a.tmps.toList) m ?_ ?_
  · refine ⟨rfl, (m : Int) - 1, _, by omega, HT0.out, ?_⟩
    repeat (first | exact fits_nil | refine fits_none ?_ | refine fits_some ?_)
  clear HT0 w3 i0
  intro q a W hI K hK
  obtain ⟨hds, x, v, hq, hT, hfit⟩ := hI
  obtain ⟨f, hf⟩ := fits_act hfit
  rw [hds] at hf
  subst hf
  clear hfit hds
  simp only [fillP, Nat.reduceAdd]
  have HT := Lib.hid hT
  cases q with
  | zero =>
    have hx : ¬ (0 ≤ x) := by omega
    clear hT hK hq
    go_wp2
    go_ret2
    exact ⟨v, rfl, HT.out.bel, own_low HT.out.own HT.out.hlt⟩
  | succ k =>
    obtain ⟨hqm, hxk⟩ := hq
    have hxk2 : x = (k : Int) := by omega
    rw [hxk2]
    obtain ⟨rb, ro, t, rfl, hrb, ht, t0⟩ := hT.sl.ltI (i := k) (by omega)
    have htr := Hrg.out t (List.mem_of_getElem? ht)
    have hadd := turnTo_step ht
    obtain ⟨zs, hzs⟩ : ∃ zs, turnTo ts (k + 1) = zs := ⟨_, rfl⟩
    have hzl : zs.length ≤ 110000 := by
      rw [← hzs]
      unfold turnTo
      have h1 := (List.getElem?_eq_some_iff.1 ht).1
      have h2 := hT.sl.len
      rw [List.length_map, List.length_reverse, List.length_drop]
      omega
    rw [hzs] at HT hadd
    have Hadd := Lib.hid hadd
    have hle := HT.out.hle
    have hrb2 : rb < W.heap.size := by omega
    have j0 : IntKind.i64.wrap (100 - t) = 100 - t := by rw [IntKind.wrap_i64]; omega
    have j1 : IntKind.i64.wrap ((k : Int) - 1) = (k : Int) - 1 := by rw [IntKind.wrap_i64]; omega
    have j2 : (0 : Int) ≤ (k : Int) := by omega
    have j3 : (k : Int) < (m : Int) := by omega
    have hqk : k ≤ m := by omega
    have HT2 := Lib.hid (HT.out.later (balloc (brefl W) (.cells #[.int .i64 (100 - t)] 2)))
    obtain ⟨i0, hi0, hz0, hz1, hz2⟩ := info_parts info_long
    clear hT ht htr hadd hzs HT hxk hxk2 hqm
    go_wp2_with (at_builtin; refine wpList_append_own _ rfl _ _ 25 rfl N2 2 i0 (.int .i64 0) 1 8 und_longs hi0 hz0 hz1 hz2 rfl (by decide) v zs.length _ rfl HT2.out.own ⟨W.heap.size, 0, none⟩ 1 1 [.int .i64 (100 - t)] rfl rfl (one_new W (.int .i64 (100 - t)) 2) (by simp [Value.oneCell']) (by simp only [maxLen]; omega) (by omega) (by have := HT2.out.hle; omega) ?_; intro v' W3 hown' hgr _; have HT3 := Lib.hid (HT2.out.grown (100 - t) hgr hown'); clear hown' hgr)
    rw [← Hadd.out] at HT3
    refine hK _ _ k (by omega) ⟨rfl, (k : Int) - 1, _, by omega, HT3.out, ?_⟩
    repeat (first | exact fits_nil | refine fits_none ?_ | refine fits_some ?_)
theorem refEarly_any (L : Int) (A : Option Addr) (n c : Nat) (rs : List Rg) (w : World) (hs : Sl 2 encR w w.heap.size A n c rs) :
    Calls Try.prog 32 #[.agg #[.int .i64 L, .slice A n c]] w fun e w' => ∃ v, e = .returned (.tuple #[v, .int .i64 (yardE L rs)]) ∧ Below w.heap.size w w' ∧ w'.ownsRow w.heap.size 2 1 v (earlyV L rs).length ((earlyV L rs).map (.int .i64)) := by
  by_cases he : yardE L rs = 0
  · obtain ⟨m, rfl, hL, hr⟩ := yard_nat he
    unfold earlyV
    rw [if_pos he, he]
    have h := refEarly_ok m A n c rs w hs he
    unfold turnTo at h
    exact h
  · unfold earlyV
    rw [if_neg he]
    refine (refEarly_bad L A _ c rs w hs he).mono ?_
    rintro e w' ⟨rfl, hb⟩
    exact ⟨_, rfl, hb, World.ownsRow_nil _ _ _ _⟩
end Go.Proofs.Ytbbdlebmagknmaa
