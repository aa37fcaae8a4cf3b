/- The document's Part: a yard with some of its logs. -/
import Derived.Test.YtbbdlebmagknmaaSRefE
namespace Go.Proofs.Ytbbdlebmagknmaa
open Go.RowKit Go.Shelf

theorem part_take {rs : List Rg} {l : List Nat} {i j : Nat} {x : Rg} (hj : l[i]? = some j) (hx : rs[j]? = some x) : partP rs (l.take i) ++ [x] = partP rs (l.take (i + 1)) := by
  obtain ⟨h1, h2⟩ := List.getElem?_eq_some_iff.1 hj
  unfold partP
  rw [List.take_succ_eq_append_getElem h1, h2, List.map_append, List.map_cons, List.map_nil]
  simp [List.getD, hx]
set_option maxRecDepth 100000 in
set_option maxHeartbeats 4000000 in
theorem refPart_any (L : Int) (A : Option Addr) (n c : Nat) (rs : List Rg) (B : Option Addr) (m d : Nat) (l : List Nat) (w : World) (hs : Sl 2 encR w w.heap.size A n c rs) (hl : Sl 1 encI w w.heap.size B m d (l.map fun i : Nat => (i : Int))) (hlx : ∀ x ∈ l, x < rs.length) (hm100 : l.length ≤ 100) :
    Calls Try.prog 48 #[.agg #[.int .i64 L, .slice A n c], .slice B m d] w fun e w' => ∃ A' c', e = .returned (.agg #[.int .i64 L, .slice A' m c']) ∧ Below w.heap.size w w' ∧ Sl 2 encR w' w'.heap.size A' m c' (partP rs l) := by
  obtain rfl := hs.len
  have hml := hl.len
  rw [List.length_map] at hml
  subst hml
  have hbl1 := (Blk.new (w.alloc (.cells #[.int .i64 L, .slice A rs.length c] 24)) 24 #[.int .i64 0, .slice none 0 0]).alloc (.cells #[.int .i64 L, .slice none 0 0] 24)
  have hbl2 := Blk.new ((w.alloc (.cells #[.int .i64 L, .slice A rs.length c] 24)).alloc (.cells #[.int .i64 0, .slice none 0 0] 24)) 24 #[.int .i64 L, .slice none 0 0]
  rw [World.size_alloc] at hbl1
  rw [World.size_alloc, World.size_alloc] at hbl2
  have HK0 := Lib.hid (show KB w (((w.alloc (.cells #[.int .i64 L, .slice A rs.length c] 24)).alloc (.cells #[.int .i64 0, .slice none 0 0] 24)).alloc (.cells #[.int .i64 L, .slice none 0 0] 24)) L A rs.length c (.slice none 0 0) [] from ⟨⟨balloc (balloc (balloc (brefl w) _) _) _, hbl2, World.ownsRow_nil _ _ _ _, by omega⟩, ((Blk.new w _ _).alloc _).alloc _, hbl1⟩)
  have Hs := Lib.hid hs
  have Hl := Lib.hid hl
  have Hlx := Lib.hid hlx
  clear hs hl hlx hbl1 hbl2
  go_enter Try.func48, Try.ntmps48
  go_wp2_with fail
  refine loop_n (fun q a W => a.defers = [] ∧ ∃ (i : Nat) (v : Value), i + q = l.length ∧ KB w W L A rs.length c v (partP rs (l.take i)) ∧ Fits (none :: some (.slice B l.length d) :: some (.pointer (some ⟨w.heap.size, 0, none⟩)) :: none :: some (.pointer (some ⟨w.heap.size + 1, 0, none⟩)) :: some (.pointer (some ⟨w.heap.size + 1 + 1, 0, none⟩)) :: some (.int .i64 (i : Nat)) :: none :: none :: none :: none :: none :: none :: none :: none :: none :: none :: none :: none :: none :: none :: none :: none :: none :: none :: none :: none :: none :: none :: none :: []) a.tmps.toList) l.length ?_ ?_
  · refine ⟨rfl, 0, _, by omega, HK0.out, ?_⟩
    repeat (first | exact fits_nil | refine fits_none ?_ | refine fits_some ?_)
  clear HK0
  intro q a W hI K hK
  obtain ⟨hds, i, v, hiq, hKB, hfit⟩ := hI
  obtain ⟨f, hf⟩ := fits_act hfit
  rw [hds] at hf
  subst hf
  clear hfit hds
  simp only [fillP, Nat.reduceAdd]
  have c0 := hKB.b0.cell 1
  have c1 := hKB.b0.lt
  have HK := Lib.hid hKB
  by_cases hlt : i < l.length
  · obtain ⟨nb, no, _, rfl, hnw, _, _⟩ := Hl.out.ltI hlt
    obtain ⟨nb', no', z, hA', hnb, hz, n0⟩ := (Hl.out.later hKB.bx.bel).ltI hlt
    cases hA'
    obtain ⟨j, hj, rfl⟩ : ∃ j, l[i]? = some j ∧ z = (j : Int) := by
      rw [List.getElem?_map] at hz
      obtain ⟨j, h1, h2⟩ := Option.map_eq_some_iff.1 hz
      exact ⟨j, h1, h2.symm⟩
    have hjl := Hlx.out j (List.mem_of_getElem? hj)
    obtain ⟨rb, ro, _, rfl, hrw, _, _, _⟩ := Hs.out.ltR hjl
    obtain ⟨rb', ro', x, hA', hrb, hx, g0, g1⟩ := (Hs.out.later hKB.bx.bel).ltR hjl
    cases hA'
    have hadd := part_take hj hx
    obtain ⟨xs, hxs⟩ : ∃ xs, partP rs (l.take i) = xs := ⟨_, rfl⟩
    obtain ⟨xy, hxy⟩ : ∃ xy, partP rs (l.take (i + 1)) = xy := ⟨_, rfl⟩
    have hxl : xs.length ≤ 100 := by rw [← hxs]; simp [partP]; omega
    rw [hxs] at hKB HK hadd
    rw [hxy] at hadd
    have Hadd := Lib.hid hadd
    have Hxy := Lib.hid hxy
    have i1 : (i : Int) < (l.length : Int) := by omega
    have i2 : (0 : Int) ≤ (i : Int) := by omega
    have i3 : IntKind.i64.wrap ((i : Int) + 1) = (i : Int) + 1 := by rw [IntKind.wrap_i64]; omega
    have i4 : (j : Int) < (rs.length : Int) := by omega
    have i5 : (0 : Int) ≤ (j : Int) := by omega
    have b0 := hKB.bx.bp.cell 0
    have b1 := hKB.bx.bp.cell 1
    have b2 := hKB.bx.bp.lt
    have hne := hKB.bx.bp.notRow hKB.bx.own (by decide)
    have hne0 := hKB.b0.notRow hKB.bx.own (by decide)
    have hrow : ∀ r, v.ownBlock = some r → r < W.heap.size := fun r hr => own_lt hKB.bx.own r hr
    have hrbn : v.ownBlock ≠ some rb := fun e => by have := own_base hKB.bx.own rb e; omega
    have hnbn : v.ownBlock ≠ some nb := fun e => by have := own_base hKB.bx.own nb e; omega
    have Hrow := Lib.hid hrow
    clear hKB hx hz hj hadd hxs hxy hrow
    go_wp2_with fail
    refine dagRow 13 11 v.ownBlock (by kernel_rfl) (by kernel_rfl) (.is ?_ :: .is ?_ :: .is ?_ :: .is ?_ :: .is ?_ :: .is ?_ :: .is ?_ :: .is ?_ :: .is ?_ :: .is ?_ :: .like (OneR W.heap.size x.lo x.hi) :: .like (RowR w.heap.size xy) :: .is ?_ :: []) rfl ?st1 ?gd1 ?stb1 ?ob1
    case st1 => repeat (first | exact stab_nil | refine stab_is ?_ | refine stab_like (OneR.stab _ _) ?_ | refine stab_like (RowR.stab _) ?_)
    case gd1 => intro o ho; cases ho; rfl
    case stb1 => repeat (first | exact stabT_nil | refine stabT_is ?_ | refine stabT_like (fun _ _ _ h1 h2 => h2.grown h1.2 Hrow.out) ?_)
    case ob1 =>
    intro env V hG
    have HK2 := Lib.hid (HK.out.b0.grown hG hne0)
    have HK3 := Lib.hid (HK.out.bx.bp.grown hG hne)
    have d1 := HK2.out.cell 1
    have d2 := HK2.out.lt
    have e1 := HK3.out.cell 1
    have e2 := HK3.out.lt
    have h0 := (World.cell?_of_block (a := ⟨rb, ro + j * 2, none⟩) (hG.block rb hrb (Ne.symm hrbn))).trans g0
    have h1 := (World.cell?_of_block (a := ⟨rb, ro + j * 2 + 1, none⟩) (hG.block rb hrb (Ne.symm hrbn))).trans g1
    have h2 := Nat.lt_of_lt_of_le hrb hG.size
    have h3 := (World.cell?_of_block (a := ⟨nb, no + i, none⟩) (hG.block nb hnb (Ne.symm hnbn))).trans n0
    have h4 := Nat.lt_of_lt_of_le hnb hG.size
    have HG := Lib.hid hG
    iterate 10 (refine oblsA_is (show _ ≠ (11 : Nat) by decide) ?_ ?_; unfold doesAt; go_simp; (try go_bits); (first | (refine ⟨brefl _, ?_⟩; rfl) | rfl); intro K hK; go_simp; refine hK _ ?_; clear hK K)
    refine oblsA_like (show _ ≠ (11 : Nat) by decide) (fun _ => ?_) ?_
    · unfold doesAt
      go_simp
      have hbn := Blk.new V 27 #[.int .i64 x.lo, .int .i64 x.hi]
      exact ⟨balloc (brefl V) _, V.heap.size, rfl, HG.out.size, hbn.lt, hbn.cell 0, hbn.cell 1⟩
    intro K hK
    go_simp
    refine hK _ ?_
    clear hK K
    refine oblsA_app rfl (fun hl hp => ?_) ?_
    · obtain ⟨g, hE, hg1, hg2, hg3, hg4⟩ : OneR W.heap.size x.lo x.hi (env 10) V := hl ⟨10, .data⟩ (by simp) rfl (.inl rfl)
      refine app_of_run rfl (.tmp 17) (.tmp 26) 22 rfl rfl hE ?_
      exact run_app_rgB _ Hadd.out (own_later HK.out.bx.own hp) (one_news (x := x) hg3 hg4) (by omega) (by have := hp.size; omega)
    intro K hK
    go_simp
    refine hK _ ?_
    clear hK K
    (refine oblsA_is (show _ ≠ (11 : Nat) by decide) ?_ ?_; unfold doesAt; go_simp; (try go_bits); (first | (refine ⟨brefl _, ?_⟩; rfl) | rfl); intro K hK; go_simp; refine hK _ ?_; clear hK K)
    refine oblsA_last (fun hok => ?_)
    have hrw : RowR w.heap.size xy (env 11) V := hok 11 _ rfl (.inl rfl)
    obtain ⟨v', hv'⟩ : ∃ v', env 11 = v' := ⟨_, rfl⟩
    rw [hv'] at hrw ⊢
    have hl1 : xy.length = xs.length + 1 := by rw [← Hadd.out]; simp
    have hrw' := hrw
    unfold RowR at hrw'
    rw [hl1] at hrw'
    have hrw2 := hrw'
    rw [← Hadd.out, List.flatMap_append] at hrw'
    obtain ⟨gg, cap, rfl⟩ := own_succ hrw2
    have HK4 := Lib.hid (HK.out.grown (x := x) HG.out (by simpa using hrw'))
    rw [Hadd.out] at HK4
    have f1 := HK3.out.frozen 1
    clear hrw hrw' hrw2 hv' hok hG h0 h1 h2 h3 h4 d1 d2 g0 g1 n0 c0 c1 b0 b1 b2 hne hne0 hrbn hnbn hrb hnb HK2 HK3 HG HK hl1
    unfold doesAt
    go_simp
    go_wp2
    rw [← Hxy.out] at HK4
    refine hK _ _ (q - 1) (by omega) ⟨rfl, i + 1, _, by omega, HK4.out, ?_⟩
    repeat (first | exact fits_nil | refine fits_none ?_ | refine fits_some ?_)
  · obtain rfl : i = l.length := by omega
    rw [List.take_length] at hKB HK
    obtain ⟨A', c', hv, hsl⟩ := hKB.bx.sl
    subst hv
    have hbl : (partP rs l).length = l.length := by simp [partP]
    rw [hbl] at hKB HK hsl
    have b0 := hKB.bx.bp.cell 0
    have b1 := hKB.bx.bp.cell 1
    have b2 := hKB.bx.bp.lt
    have b3 := hKB.b1.frozen 0
    have b4 := hKB.b1.frozen 1
    have b5 := hKB.b1.cell 0
    have b6 := hKB.b1.cell 1
    have b7 := hKB.b1.lt
    clear hK hKB
    go_wp2
    have hKB := HK.out
    refine bodyPost_ret (v := .agg #[.int .i64 L, .slice A' l.length c']) ?_ rfl ⟨A', c', rfl, (hKB.bx.bel.setCell (by show w.heap.size ≤ w.heap.size + 1; omega) _).setCell (by show w.heap.size ≤ w.heap.size + 1; omega) _, ?_⟩
    · have e0 : ((W.setCell ⟨w.heap.size + 1, 0, none⟩ (.int .i64 L)).setCell ⟨w.heap.size + 1, 1, none⟩ (.slice A' l.length c')).cell? ⟨w.heap.size + 1, 0, none⟩ = some (.int .i64 L) := by
        rw [((hKB.b1.set 0 _).set 1 _).cell 0]; rfl
      have e1 : ((W.setCell ⟨w.heap.size + 1, 0, none⟩ (.int .i64 L)).setCell ⟨w.heap.size + 1, 1, none⟩ (.slice A' l.length c')).cell? ⟨w.heap.size + 1, 1, none⟩ = some (.slice A' l.length c') := by
        rw [((hKB.b1.set 0 _).set 1 _).cell 1]; rfl
      simp [results, Try.results48, go_sem, e0, e1]
    · have h5 := hKB.bx.own
      have hnr := hKB.b1.notRow h5 (by decide)
      rw [hbl] at h5
      obtain ⟨A2, c2, he2, hsl2⟩ := own_slG (k := 2) (enc := encR) (fun _ => rfl) (own_other (own_other h5 ⟨w.heap.size + 1, 0, none⟩ hnr (.int .i64 L)) ⟨w.heap.size + 1, 1, none⟩ hnr (.slice A' l.length c')) hbl
      simp only [Value.slice.injEq] at he2
      obtain ⟨rfl, _, rfl⟩ := he2
      exact hsl2
end Go.Proofs.Ytbbdlebmagknmaa
