/- The document's grown and Keep: the most logs for so many loads. -/
import Derived.Test.YtbbdlebmagknmaaSRefPart
import Derived.Test.YtbbdlebmagknmaaSGrown
namespace Go.Proofs.Ytbbdlebmagknmaa
open Go.RowKit Go.Shelf

def castL (l : List Nat) : List Int := l.map fun i : Nat => (i : Int)
theorem castL_len (l : List Nat) : (castL l).length = l.length := by simp [castL]
/-- All numbers are appended to an empty list. -/
theorem run_app_ints0 {W : World} {base g : Nat} (ty : TypeId) (hb : base ≤ g) (hg : W.heap[g]? = some (.cells #[] 3 (0, 0))) {FA : Option Addr} {fn fc : Nat} {fs : List Int} (hs : Sl 1 encI W W.heap.size FA fn fc fs) (hfn : fn ≤ 1000) :
    ∃ v' W', (Builtin.append_ #[44, 44] ty #[.slice (some ⟨g, 0, none⟩) 0 0, .slice FA fn fc]).run Try.prog W = .ok v' W' ∧ (W'.ownsRow base 3 1 v' fs.length (fs.map (.int .i64)) ∧ W.grownBy W' (some g) ∧ ∃ gg cap, v' = .slice (some ⟨gg, 0, none⟩) fn cap) := by
  obtain ⟨i0, hi0, hz0, hz1, hz2⟩ := info_parts info_int
  have hlt : g < W.heap.size := (Array.getElem?_eq_some_iff.1 hg).1
  have hl := hs.len
  have hown := own_none (size := 1) hb hg
  by_cases h0 : fn = 0
  · subst h0
    have : fs = [] := List.length_eq_zero_iff.1 hl
    subst this
    refine ⟨.slice (some ⟨g, 0, none⟩) 0 0, W, ?_, hown, ⟨rfl, rfl, rfl, Nat.le_refl _, fun _ _ _ => rfl⟩, g, 0, rfl⟩
    have hi1 : Try.prog.info? 3 = some i0 := hi0
    cases FA with
    | none => simp [Builtin.append_, run_underlying und_ints, sizeOf, typeInfo, hi1, Builtin.lenOf, Builtin.firstCells, loadCells, loadCellsFrom, storeCells]
    | some A => simp [Builtin.append_, run_underlying und_ints, sizeOf, typeInfo, hi1, Builtin.lenOf, Builtin.firstCells, loadCells, loadCellsFrom, storeCells]
  · obtain ⟨b, o, hA, _, _⟩ := hs.at_ (by omega)
    subst hA
    obtain ⟨v', W', h1, h2, h3, _⟩ := run_append_own (P := Try.prog) W base 44 ty 3 i0 (.int .i64 0) 1 8 und_ints hi0 hz0 hz1 hz2 rfl (by decide) _ 0 [] hown ⟨b, o, none⟩ fn fc (fs.map (.int .i64)) (by simp [hl]) (sl_news hs (by omega)) (by intro u hu; obtain ⟨x, _, rfl⟩ := List.mem_map.1 hu; rfl) (by simp only [maxLen]; omega) (by omega) (by omega)
    rw [Nat.zero_add, List.nil_append] at h2
    obtain ⟨k, rfl⟩ : ∃ k, fn = k + 1 := ⟨fn - 1, by omega⟩
    obtain ⟨gg, cap, rfl⟩ := own_succ h2
    rw [hl]
    exact ⟨_, W', h1, h2, h3, gg, cap, rfl⟩
/-- One number more. -/
theorem run_app_int1 {W : World} {base N m : Nat} (ty : TypeId) {v : Value} {xs xy : List Int} {x : Int} (hxy : xs ++ [x] = xy) (hm : xy.length = m) (hown : W.ownsRow base 3 1 v xs.length (xs.map (.int .i64))) (hn : W.cell? ⟨N, 0, none⟩ = some (.int .i64 x)) (h2 : xs.length ≤ 1000) (hb : base ≤ W.heap.size) :
    ∃ v' W', (Builtin.append_ #[44, 44] ty #[v, .slice (some ⟨N, 0, none⟩) 1 1]).run Try.prog W = .ok v' W' ∧ (W.grownBy W' v.ownBlock ∧ ∃ G k, v' = .slice G m k ∧ Sl 1 encI W' W'.heap.size G m k xy) := by
  subst hxy
  subst hm
  obtain ⟨i0, hi0, hz0, hz1, hz2⟩ := info_parts info_int
  obtain ⟨v', W', h1', h2', h3', _⟩ := run_append_own (P := Try.prog) W base 44 ty 3 i0 (.int .i64 0) 1 8 und_ints hi0 hz0 hz1 hz2 rfl (by decide) v xs.length _ hown ⟨N, 0, none⟩ 1 1 [.int .i64 x] rfl (fun j u hu => by
    have hadd : (⟨N, 0, none⟩ : Addr).add j = ⟨N, j, none⟩ := by unfold Addr.add; split <;> simp_all
    rw [hadd]
    match j with
    | 0 => rw [hn]; simpa using hu
    | j + 1 => simp at hu) (by simp [Value.oneCell']) (by simp only [maxLen]; omega) (by omega) hb
  have h4 : W'.ownsRow base 3 1 v' (xs ++ [x]).length ((xs ++ [x]).map (.int .i64)) := by
    rw [List.length_append, List.map_append]
    exact h2'
  obtain ⟨G, k, he, hsl⟩ := own_slI h4 rfl
  exact ⟨v', W', h1', h3', G, k, he, hsl⟩

def GrownSaid (L : Nat) (ld : Int) (rs : List Rg) (f : Nat) : Prop :=
  ∀ (A : Option Addr) (c : Nat) (B : Option Addr) (d : Nat) (l : List Nat) (w : World), Sl 2 encR w w.heap.size A rs.length c rs → Sl 1 encI w w.heap.size B l.length d (castL l) → (∀ x ∈ l, x < rs.length) → l.length + f ≤ rs.length → ∀ i : Nat, i + f = rs.length →
    Calls Try.prog 74 #[.agg #[.int .i64 (L : Int), .slice A rs.length c], .slice B l.length d, .int .i64 (i : Int), .int .i64 ld] w fun e w' => ∃ G m k, e = .returned (.slice G m k) ∧ Below w.heap.size w w' ∧ Sl 1 encI w' w'.heap.size G m k (castL (grownF (fitsB rs L ld) rs.length f l l))
set_option maxRecDepth 100000 in
set_option maxHeartbeats 4000000 in
theorem refGrown_any (L : Nat) (ld : Int) (rs : List Rg) (hr : RsOk rs) (hL : 1 ≤ L ∧ L ≤ 10) (f : Nat) : GrownSaid L ld rs f := by
  induction f using Nat.strongRecOn with
  | ind f ih =>
  intro A c B d l w hs hl hlx hlf i0 hif
  have hn10 := hr.1
  have HY0 := Lib.hid (show YB w (w.alloc (.cells #[.int .i64 (L : Int), .slice A rs.length c] 24)) (L : Int) A rs.length c from ⟨balloc (brefl w) _, Blk.new w _ _⟩)
  have Hs := Lib.hid hs
  have Hl := Lib.hid hl
  have Hlx := Lib.hid hlx
  have Hr := Lib.hid hr
  have Hih := Lib.hid ih
  have HB0 := Lib.hid (hl.later HY0.out.bel)
  obtain ⟨R, hR⟩ : ∃ R, grownF (fitsB rs L ld) rs.length f l l = R := ⟨_, rfl⟩
  rw [hR]
  have HR := Lib.hid hR
  clear hs hl hlx hr ih hR
  go_enter Try.func74, Try.ntmps74
  go_wp2_with fail
  refine loop_n (fun q a W => a.defers = [] ∧ ∃ (i : Nat) (b : List Nat) (G : Option Addr) (k : Nat), (i + q = rs.length ∧ q ≤ f ∧ b.length ≤ 100) ∧ YB w W (L : Int) A rs.length c ∧ Sl 1 encI W W.heap.size G b.length k (castL b) ∧ grownF (fitsB rs L ld) rs.length q l b = R ∧ Fits (none :: some (.slice B l.length d) :: none :: some (.int .i64 ld) :: some (.pointer (some ⟨w.heap.size, 0, none⟩)) :: none :: none :: none :: none :: some (.slice G b.length k) :: some (.int .i64 (i : Nat)) :: none :: none :: none :: none :: none :: none :: none :: none :: none :: none :: none :: none :: none :: none :: none :: none :: none :: none :: none :: none :: none :: none :: none :: none :: none :: none :: none :: none :: none :: none :: none :: none :: none :: none :: none :: none :: none :: none :: none :: none :: none :: none :: none :: none :: none :: none :: none :: none :: none :: []) a.tmps.toList) f ?_ ?_
  · refine ⟨rfl, i0, l, B, d, by omega, HY0.out, HB0.out, HR.out, ?_⟩
    repeat (first | exact fits_nil | refine fits_none ?_ | refine fits_some ?_)
  clear HY0 HB0
  intro q a W hI K hK
  obtain ⟨hds, i, b, G, k, hiq, hY, hb, hgr, hfit⟩ := hI
  obtain ⟨f', hf'⟩ := fits_act hfit
  rw [hds] at hf'
  subst hf'
  clear hfit hds
  simp only [fillP, Nat.reduceAdd]
  have c0 := hY.b0.cell 0
  have c1 := hY.b0.cell 1
  have c2 := hY.b0.lt
  have HY := Lib.hid hY
  have HB := Lib.hid hb
  have Hiq := Lib.hid hiq
  cases q with
  | zero =>
    have hRb : b = R := hgr
    have i1 : ¬ ((i : Int) < (rs.length : Int)) := by omega
    subst hRb
    clear hK hY hb hgr hiq
    go_wp2
    go_ret
    exact ⟨G, b.length, k, rfl, HY.out.bel, HB.out⟩
  | succ q =>
    have i1 : (i : Int) < (rs.length : Int) := by omega
    have i2 : (0 : Int) ≤ (i : Int) := by omega
    have i3 : IntKind.i64.wrap ((i : Int) + 1) = (i : Int) + 1 := by rw [IntKind.wrap_i64]; omega
    have i4 : IntKind.i64.wrap ((l.length : Int) + (rs.length : Int)) = (l.length : Int) + (rs.length : Int) := by rw [IntKind.wrap_i64]; omega
    have hie : rs.length - (q + 1) = i := by omega
    have hbl := hiq.2.2
    unfold grownF at hgr
    rw [hie] at hgr
    have Hgr := Lib.hid hgr
    have hxl : castL l ++ [(i : Int)] = castL (l ++ [i]) := by unfold castL; rw [List.map_append]; rfl
    have Hxl := Lib.hid hxl
    have hw0 := Lib.hid (heap_alloc_new W (.cells #[] 3))
    have hlW := Lib.hid ((Hl.out.later hY.bel).later (balloc (brefl W) (.cells #[] 3)))
    have hl100 : l.length ≤ 100 := by omega
    have hnx : (castL (l ++ [i])).length = l.length + 1 := by rw [castL_len]; simp
    have Hnx := Lib.hid hnx
    obtain ⟨s, hs⟩ : ∃ s, (l.length : Int) + (rs.length : Int) - (i : Int) = s := ⟨_, rfl⟩
    have i5 : IntKind.i64.wrap ((l.length : Int) + (rs.length : Int) - (i : Int)) = s := by rw [IntKind.wrap_i64]; omega
    have hps : s ≤ (b.length : Int) ↔ l.length + (q + 1) ≤ b.length := by omega
    have hpos : i + 1 + q = rs.length := by omega
    clear hY hb hiq hxl hnx hs hgr
    by_cases hp : s ≤ (b.length : Int)
    · have hg2 : grownF (fitsB rs L ld) rs.length q l b = R := by
        have h1 := Hgr.out
        rw [if_pos (by simp [hps.1 hp])] at h1
        exact h1
      have Hg2 := Lib.hid hg2
      have Hpos := Lib.hid hpos
      clear hg2 hps hpos
      go_wp2_with (at_builtin; first
        | (refine wpList_append_run rfl (.tmp 22) (.tmp 23) 44 rfl rfl rfl (run_app_ints0 (base := W.heap.size) _ (Nat.le_refl _) hw0.out hlW.out (by omega)) ?_; intro v11 W1 hR1; obtain ⟨hown1, hgr1, gg1, cap1, rfl⟩ := hR1; have HO1 := Lib.hid hown1; have HB1 := Lib.hid (below_row (Below.mono (balloc (brefl W) (.cells #[] 3)) (Nat.le_refl _)) hgr1 (fun r hr => by cases hr; exact Nat.le_refl _) (by rw [World.size_alloc]; omega)); clear hown1 hgr1)
        | (refine wpList_append_run rfl (.tmp 24) (.tmp 26) 44 rfl rfl rfl (run_app_int1 (base := W.heap.size) _ Hxl.out Hnx.out (own_later HO1.out (balloc (brefl W1) (.cells #[.int .i64 (i : Int)] 3))) ((Blk.new W1 3 #[.int .i64 (i : Int)]).cell 0) (by rw [castL_len]; omega) (by have := HB1.out.size; rw [World.size_alloc]; omega)) ?_; intro v21 W2 hR2; obtain ⟨hgr2, G2, k2, rfl, hsl2⟩ := hR2; have HS2 := Lib.hid hsl2; have HB2 := Lib.hid (below_row (balloc HB1.out (.cells #[.int .i64 (i : Int)] 3)) hgr2 (fun r hr => own_base HO1.out r hr) (by have := HB1.out.size; rw [World.size_alloc]; omega)); have HY2 := Lib.hid (HY.out.later HB2.out); have x0 := HY2.out.b0.cell 0; have x1 := HY2.out.b0.cell 1; have x2 := HY2.out.b0.lt; clear hgr2 hsl2))
      have HB3 := Lib.hid (HB.out.later HB2.out)
      refine hK _ _ q (by omega) ⟨rfl, i + 1, b, G, k, ⟨Hpos.out, by have := Hiq.out; omega, hbl⟩, HY2.out, HB3.out, Hg2.out, ?_⟩
      repeat (first | exact fits_nil | refine fits_none ?_ | refine fits_some ?_)
    · have hpd : decide (l.length + (q + 1) ≤ b.length) = false := by
        rw [decide_eq_false_iff_not]
        exact fun h => hp (hps.2 h)
      have Hpd := Lib.hid hpd
      have Hpos := Lib.hid hpos
      clear hpd hps hpos
      go_wp2_with (at_builtin; first
        | (refine wpList_append_run rfl (.tmp 22) (.tmp 23) 44 rfl rfl rfl (run_app_ints0 (base := W.heap.size) _ (Nat.le_refl _) hw0.out hlW.out (by omega)) ?_; intro v12 W1 hR1; obtain ⟨hown1, hgr1, gg1, cap1, rfl⟩ := hR1; have HO1 := Lib.hid hown1; have HB1 := Lib.hid (below_row (Below.mono (balloc (brefl W) (.cells #[] 3)) (Nat.le_refl _)) hgr1 (fun r hr => by cases hr; exact Nat.le_refl _) (by rw [World.size_alloc]; omega)); clear hown1 hgr1)
        | (refine wpList_append_run rfl (.tmp 24) (.tmp 26) 44 rfl rfl rfl (run_app_int1 (base := W.heap.size) _ Hxl.out Hnx.out (own_later HO1.out (balloc (brefl W1) (.cells #[.int .i64 (i : Int)] 3))) ((Blk.new W1 3 #[.int .i64 (i : Int)]).cell 0) (by rw [castL_len]; omega) (by have := HB1.out.size; rw [World.size_alloc]; omega)) ?_; intro v22 W2 hR2; obtain ⟨hgr2, G2, k2, rfl, hsl2⟩ := hR2; have HS2 := Lib.hid hsl2; have HB2 := Lib.hid (below_row (balloc HB1.out (.cells #[.int .i64 (i : Int)] 3)) hgr2 (fun r hr => own_base HO1.out r hr) (by have := HB1.out.size; rw [World.size_alloc]; omega)); have HY2 := Lib.hid (HY.out.later HB2.out); have x0 := HY2.out.b0.cell 0; have x1 := HY2.out.b0.cell 1; have x2 := HY2.out.b0.lt; clear hgr2 hsl2))
      clear x0 x1 x2
      obtain ⟨nx, hnx⟩ : ∃ nx, l ++ [i] = nx := ⟨_, rfl⟩
      have hnl : nx.length = l.length + 1 := by rw [← hnx]; simp
      have HlxN := Lib.hid (show ∀ x ∈ nx, x < rs.length from fun x hx => by
        rw [← hnx] at hx
        rcases List.mem_append.1 hx with h | h
        · exact Hlx.out x h
        · rw [List.mem_singleton.1 h]; omega)
      have hHg := Hgr.out
      rw [hnx] at HS2 hHg
      have Hg3 := Lib.hid hHg
      have hpk := Hpos.out
      have hqf := Hiq.out.2.1
      have Hcall := Lib.hid (fun (V : World) (h1 : Sl 2 encR V V.heap.size A rs.length c rs) (h2 : Sl 1 encI V V.heap.size G2 (l.length + 1) k2 (castL nx)) => show Calls Try.prog 74 #[.agg #[.int .i64 (L : Int), .slice A rs.length c], .slice G2 (l.length + 1) k2, .int .i64 ((i : Int) + 1), .int .i64 ld] V (fun e w' => ∃ G m k, e = .returned (.slice G m k) ∧ Below V.heap.size V w' ∧ Sl 1 encI w' w'.heap.size G m k (castL (grownF (fitsB rs L ld) rs.length q nx nx))) from by
        have h := Hih.out q (by omega) A c G2 k2 nx V h1 (by rw [hnl]; exact h2) HlxN.out (by omega) (i + 1) (by omega)
        rw [hnl] at h
        exact h)
      have Hpo := Lib.hid (part_ok Hr.out HlxN.out (by omega))
      have hgl := grown_len (fitsB rs L ld) rs.length q nx
      obtain ⟨r, hr⟩ : ∃ r, grownF (fitsB rs L ld) rs.length q nx nx = r := ⟨_, rfl⟩
      rw [hr] at Hcall Hg3 hgl
      obtain ⟨y, hy⟩ : ∃ y, LA (partP rs nx) L 101 = y := ⟨_, rfl⟩
      have hfb : fitsB rs L ld nx = decide (y ≤ ld) := by unfold fitsB; rw [hy]
      have Hy := Lib.hid hy
      have Hfb := Lib.hid hfb
      have hrl : r.length ≤ 100 := by omega
      have HB3 := Lib.hid (HB.out.later HB2.out)
      have HlN := Lib.hid HlxN.out
      clear hnx hHg hpk hqf hgl hr hy hfb HB
      refine (refPart_any (L : Int) A rs.length c rs G2 (l.length + 1) k2 nx _ ((Hs.out.later HY2.out.bel)) HS2.out HlN.out (by omega)).mono ?_
      rintro e w4 ⟨A', c', rfl, hb4, hsl4⟩
      have HY4 := Lib.hid (HY2.out.later hb4)
      have HS4 := Lib.hid (HS2.out.later hb4)
      have HB4 := Lib.hid (HB3.out.later hb4)
      have HP4 := Lib.hid hsl4
      clear hb4 hsl4 HY2 HS2 HB3 HB2
      go_wp2_with fail
      refine (refFewestOf_any L A' (l.length + 1) c' (partP rs nx) _ HP4.out Hpo.out hL).mono ?_
      rintro e w5 ⟨rfl, hb5⟩
      rw [Hy.out]
      have HY5 := Lib.hid (HY4.out.later hb5)
      have HS5 := Lib.hid (HS4.out.later hb5)
      have HB5 := Lib.hid (HB4.out.later hb5)
      clear hb5 HY4 HS4 HB4 HP4
      by_cases hyl : y ≤ ld
      · have hyl2 : ¬ (ld < y) := by omega
        have x0 := HY5.out.b0.cell 0
        have x1 := HY5.out.b0.cell 1
        have x2 := HY5.out.b0.lt
        have hg4 : grownF (fitsB rs L ld) rs.length q l (if b.length < r.length then r else b) = R := by
          have h := Hg3.out
          rw [Hpd.out, Hfb.out, show decide (y ≤ ld) = true by simpa using hyl] at h
          exact h
        have Hg4 := Lib.hid hg4
        clear hg4 hyl hnl
        go_wp2_with fail
        refine (Hcall.out _ (Hs.out.later HY5.out.bel) HS5.out).mono ?_
        rintro e w6 ⟨G6, m6, k6, rfl, hb6, hsl6⟩
        have hm6 := hsl6.len
        rw [castL_len] at hm6
        subst hm6
        have HY6 := Lib.hid (HY5.out.later hb6)
        have HB6 := Lib.hid (HB5.out.later hb6)
        have HS6 := Lib.hid hsl6
        clear hb6 hsl6 HY5 HS5 HB5 x0 x1 x2
        by_cases hbr : b.length < r.length
        · have hbr2 : (b.length : Int) < (r.length : Int) := by omega
          rw [if_pos hbr] at Hg4
          clear hbr
          go_wp2
          refine hK _ _ q (by omega) ⟨rfl, i + 1, r, G6, k6, ⟨Hpos.out, by have := Hiq.out; omega, hrl⟩, HY6.out, HS6.out, Hg4.out, ?_⟩
          repeat (first | exact fits_nil | refine fits_none ?_ | refine fits_some ?_)
        · have hbr2 : ¬ ((b.length : Int) < (r.length : Int)) := by omega
          rw [if_neg hbr] at Hg4
          clear hbr
          go_wp2
          refine hK _ _ q (by omega) ⟨rfl, i + 1, b, G, k, ⟨Hpos.out, by have := Hiq.out; omega, hbl⟩, HY6.out, HB6.out, Hg4.out, ?_⟩
          repeat (first | exact fits_nil | refine fits_none ?_ | refine fits_some ?_)
      · have hyl2 : ld < y := by omega
        have hg4 : grownF (fitsB rs L ld) rs.length q l b = R := by
          have h := Hg3.out
          rw [Hpd.out, Hfb.out, show decide (y ≤ ld) = false by simpa using hyl2] at h
          exact h
        have Hg4 := Lib.hid hg4
        clear hg4 hyl hnl Hcall
        go_wp2
        refine hK _ _ q (by omega) ⟨rfl, i + 1, b, G, k, ⟨Hpos.out, by have := Hiq.out; omega, hbl⟩, HY5.out, HB5.out, Hg4.out, ?_⟩
        repeat (first | exact fits_nil | refine fits_none ?_ | refine fits_some ?_)
end Go.Proofs.Ytbbdlebmagknmaa
