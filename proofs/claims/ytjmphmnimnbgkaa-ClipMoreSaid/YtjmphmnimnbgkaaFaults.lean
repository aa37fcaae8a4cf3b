/- The walk of ClipFaults. -/
import Derived.Test.YtjmphmnimnbgkaaGiven
import Derived.Test.YtjmphmnimnbgkaaOutMore
import Derived.Test.YtjmphmnimnbgkaaLawParts
import Derived.BigRegion
namespace Go.Proofs.Ytjmphmnimnbgkaa
open Go.RowKit Go.Shelf

/-- A ribbon that is being made lies in block K: its faults so far. -/
structure MW (w W : World) (K : Nat) (L : Int) (FA : Option Addr) (fn fc : Nat) (M : Int) (v : Value) (l : List Int) : Prop where
  bel : Below w.heap.size w W
  lo : w.heap.size < K
  b0 : Blk W w.heap.size 24 #[.int .i64 L, .slice FA fn fc]
  bm : Blk W K 24 #[.int .i64 M, v]
  own : W.ownsRow w.heap.size 3 1 v l.length (l.map (.int .i64))
section
variable {w W W' : World} {K : Nat} {L : Int} {FA : Option Addr} {fn fc : Nat} {M : Int} {v : Value} {l : List Int}
theorem MW.later (h : MW w W K L FA fn fc M v l) (hb : Below W.heap.size W W') : MW w W' K L FA fn fc M v l := ⟨Below.later h.bel hb, h.lo, h.b0.later hb, h.bm.later hb, own_later h.own hb⟩
theorem MW.grown {v' : Value} {x : Int} (h : MW w W K L FA fn fc M v l) (hg : W.grownBy W' v.ownBlock) (ho : W'.ownsRow w.heap.size 3 1 v' (l.length + 1) (l.map (.int .i64) ++ [.int .i64 x])) :
    (W'.cell? ⟨K, 1, none⟩ = some v ∧ W'.frozen? ⟨K, 1, none⟩ = false ∧ K < W'.heap.size) ∧ MW w (W'.setCell ⟨K, 1, none⟩ v') K L FA fn fc M v' (l ++ [x]) := by
  have hrow : ∀ k, v.ownBlock = some k → w.heap.size ≤ k := fun k hk => (h.own.lt k hk).1
  have b2 := h.bm.grown hg (h.bm.notRow h.own (by decide))
  have hlo := h.lo
  refine ⟨⟨b2.cell 1, b2.frozen 1, b2.lt⟩, Below.setCell (h.bel.trans ⟨hg.os, hg.tape, hg.output, hg.size, fun i hi => hg.block i (by have := h.bel.size; omega) (fun e => by have := hrow i e.symm; omega)⟩) (by show w.heap.size ≤ K; omega) _, hlo,
    (h.b0.grown hg (h.b0.notRow h.own (by decide))).other (by show K ≠ _; omega) _, b2.set 1 _, ?_⟩
  have h5 := own_other ho ⟨K, 1, none⟩ (b2.notRow ho (by decide)) v'
  simpa using h5
theorem MW.new (hb : Below w.heap.size w W) (h0 : Blk W w.heap.size 24 #[.int .i64 L, .slice FA fn fc]) {K : Nat} (hK : W.heap.size = K) (M : Int) : MW w (W.alloc (.cells #[.int .i64 M, .slice none 0 0] 24)) K L FA fn fc M (.slice none 0 0) [] := by
  subst hK
  exact ⟨balloc hb _, h0.lt, h0.alloc _, Blk.new W _ _, World.ownsRow_nil _ _ _ _⟩
end
theorem one_new (w : World) (x : Value) (t : TypeId) : ∀ j u, [x][j]? = some u → (w.alloc (.cells #[x] t)).cell? ((⟨w.heap.size, 0, none⟩ : Addr).add j) = some u := by
  intro j u hu
  have hadd : (⟨w.heap.size, 0, none⟩ : Addr).add j = ⟨w.heap.size, j, none⟩ := by unfold Addr.add; split <;> simp_all
  rw [hadd, (Blk.new w t #[x]).cell]
  simpa using hu
/-- Of the first i units: the given one, and the faults. -/
def moreF (fs : List Int) (u i : Nat) : List Int := ((List.range i).filter fun j => decide (j = u) || fs.contains (j : Int)).map fun j : Nat => (j : Int)
theorem moreF_add {fs : List Int} {u i : Nat} (h : (decide (i = u) || fs.contains (i : Int)) = true) : moreF fs u (i + 1) = moreF fs u i ++ [(i : Int)] := by
  unfold moreF
  rw [List.range_succ, List.filter_append, List.map_append]
  simp only [List.filter_cons, List.filter_nil, h, if_true, List.map_cons, List.map_nil]
theorem moreF_skip {fs : List Int} {u i : Nat} (h : (decide (i = u) || fs.contains (i : Int)) = false) : moreF fs u (i + 1) = moreF fs u i := by
  unfold moreF
  rw [List.range_succ, List.filter_append, List.map_append]
  simp only [List.filter_cons, List.filter_nil, h]
  simp
theorem moreF_len (fs : List Int) (u i : Nat) : (moreF fs u i).length ≤ i := by
  unfold moreF
  rw [List.length_map]
  have := List.length_filter_le (fun j => decide (j = u) || fs.contains (j : Int)) (List.range i)
  simpa using this
theorem moreF_rib {fs : List Int} {u n : Nat} (h1 : 1 ≤ n) (h2 : n ≤ 24) : ribE (n : Int) (moreF fs u n) = 0 := by
  refine rib_of (by omega) (by omega) ?_ (fun x hx => ?_)
  · unfold moreF
    rw [List.pairwise_map]
    exact (List.pairwise_lt_range.filter _).imp fun h => by omega
  · unfold moreF at hx
    obtain ⟨y, hy, rfl⟩ := List.mem_map.1 hx
    have := List.mem_range.1 (List.mem_filter.1 hy).1
    omega
theorem moreF_has {fs : List Int} {u n : Nat} (h : ribE (n : Int) fs = 0) : ∀ x ∈ fs, x ∈ moreF fs u n := by
  intro x hx
  have hb := (rib_pair h).2 x hx
  unfold moreF
  refine List.mem_map.2 ⟨x.toNat, List.mem_filter.2 ⟨List.mem_range.2 (by omega), ?_⟩, by omega⟩
  rw [show ((x.toNat : Nat) : Int) = x by omega, Bool.or_eq_true]
  exact .inr (List.contains_iff_mem.2 hx)

set_option maxRecDepth 100000 in
set_option maxHeartbeats 8000000 in
theorem faults_law (L : Int) (FA : Option Addr) (fn fc : Nat) (fs : List Int) (KA : Option Addr) (kc : Nat) (ks : List Kd) (wu wi : Int) (w : World) (hfs : Sl 1 encI w w.heap.size FA fn fc fs) (hks : Sl 3 encK w w.heap.size KA ks.length kc ks) (hwu : 0 ≤ wu ∧ wu ≤ 255) (hwi : 0 ≤ wi ∧ wi ≤ 255) :
    Calls Try.prog 11 #[.agg #[.int .i64 L, .slice FA fn fc], .slice KA ks.length kc, .int .u8 wu, .int .u8 wi] w fun e w' => e = .returned (.bool true) ∧ Below w.heap.size w w' := by
  have hB := balloc (brefl w) (.cells #[.int .i64 L, .slice FA fn fc] 24)
  have HK := Lib.hid (show LW w (w.alloc (.cells #[.int .i64 L, .slice FA fn fc] 24)) w.heap.size L FA fn fc fs KA kc ks from ⟨hB, Blk.new w _ _, hfs.later hB, hks.later hB⟩)
  have hfi := Lib.hid (fun W h1 h2 => fine_any L FA fn fc fs KA kc ks W h1 h2)
  have Hfs := Lib.hid hfs
  have Hks := Lib.hid hks
  have hfsl := hfs.len
  clear hB hfs hks
  cases h1 : fineB L fn fs ks with
  | false =>
    rw [h1] at hfi
    clear h1
    go_enter Try.func11, Try.ntmps11
    go_wp2_with fail
    refine (hfi.out _ HK.out.fsl HK.out.ksl).mono ?_
    rintro e w1 ⟨rfl, hb1⟩
    have HB := Lib.hid (Below.later HK.out.bel hb1)
    clear hb1
    go_wp2_with fail
    refine (works_any _).mono ?_
    rintro e w2 ⟨rfl, hb2⟩
    have HB2 := Lib.hid (Below.later HB.out hb2)
    clear hb2
    go_wp2
    go_ret
    exact ⟨rfl, HB2.out⟩
  | true =>
    rw [h1] at hfi
    obtain ⟨he, hfn, _⟩ := fine_rk h1
    obtain ⟨n, rfl, hl1, hl2, hko⟩ := valid_nat he
    obtain ⟨hri, hkn⟩ := rk_rib he
    have hvl := valid_len he
    have hfn2 : fn ≤ 24 := by omega
    obtain ⟨u, hu⟩ : ∃ u : Nat, wu.tmod (n : Int) = (u : Int) := ⟨(wu.tmod (n : Int)).toNat, by
      rw [Int.tmod_eq_emod_of_nonneg (by omega)]
      have := Int.emod_nonneg wu (show (n : Int) ≠ 0 by omega)
      omega⟩
    have a0 : IntKind.i64.wrap wu = wu := by rw [IntKind.wrap_i64]; omega
    have a1 : IntKind.i64.wrap wi = wi := by rw [IntKind.wrap_i64]; omega
    have a2 : (n : Int) ≠ 0 := by omega
    have a3 : IntKind.i64.wrap (u : Int) = (u : Int) := by
      rw [Int.tmod_eq_emod_of_nonneg (by omega)] at hu
      have := Int.emod_lt_of_pos wu (show (0 : Int) < n by omega)
      rw [IntKind.wrap_i64]; omega
    have hrM : rkE (n : Int) (moreF fs u n) ks = 0 := rk_of (moreF_rib hl1 hl2) hkn
    have hrZ : rkE (n : Int) [] ks = 0 := rk_of (bare_rib (by omega) (by omega)) hkn
    have hwM := worth_faults (L := n) hko (moreF_has (u := u) hri)
    have hwZ := worth_faults (L := n) hko (fs := []) (fs' := fs) (fun x hx => by simp at hx)
    have hrL : ∀ f, rkE (n : Int) (lessF fs f) ks = 0 := fun f => rk_of (less_rib hri) hkn
    have hwL : ∀ f, behindAt n (Fst fs n) ks n 0 ≤ behindAt n (Fst (lessF fs f) n) ks n 0 ∧ behindAt n (Fst (lessF fs f) n) ks n 0 ≤ behindAt n (Fst [] n) ks n 0 := fun f =>
      ⟨worth_faults hko fun x hx => by
        unfold lessF at hx
        rw [← List.eraseIdx_eq_take_drop_succ] at hx
        exact (List.eraseIdx_sublist fs f).mem hx, worth_faults hko (fun x hx => by simp at hx)⟩
    have hbZ := behindAt_bd (L := n) (F := Fst [] n) hko n (Nat.le_refl _) 0
    have hbV := behindAt_bd (L := n) (F := Fst fs n) hko n (Nat.le_refl _) 0
    obtain ⟨v0, hv0⟩ : ∃ v0, behindAt n (Fst fs n) ks n 0 = v0 := ⟨_, rfl⟩
    obtain ⟨vm, hvm⟩ : ∃ vm, behindAt n (Fst (moreF fs u n) n) ks n 0 = vm := ⟨_, rfl⟩
    obtain ⟨vz, hvz⟩ : ∃ vz, behindAt n (Fst [] n) ks n 0 = vz := ⟨_, rfl⟩
    rw [hv0, hvm] at hwM
    rw [hv0, hvz] at hwZ
    simp only [hv0, hvz] at hwL
    rw [hvz] at hbZ
    rw [hv0] at hbV
    have d1 : decide (v0 < vm) = false := by simp; omega
    have d2 : decide (vz < v0) = false := by simp; omega
    have HeZ := Lib.hid hrZ
    have HeM := Lib.hid hrM
    have HeL := Lib.hid hrL
    have HwL := Lib.hid hwL
    have He := Lib.hid he
    have Hk := Lib.hid hko
    have Hv0 := Lib.hid hv0
    have Hvm := Lib.hid hvm
    have Hvz := Lib.hid hvz
    have Hbb := Lib.hid (show 0 ≤ v0 ∧ vz ≤ 24000 by omega)
    have hz0 : fn = 0 → vz = v0 := fun h => by
      have : fs = [] := List.length_eq_zero_iff.1 (by omega)
      rw [← hv0, ← hvz, this]
    have Hz0 := Lib.hid hz0
    clear h1 hrZ hrM hrL hwL he hko hv0 hvm hvz hbZ hbV hwM hwZ hri hkn hz0
    go_enter Try.func11, Try.ntmps11
    go_wp2_with fail
    refine (hfi.out _ HK.out.fsl HK.out.ksl).mono ?_
    rintro e w1 ⟨rfl, hb1⟩
    have HK1 := Lib.hid (HK.out.later hb1)
    obtain ⟨c0, c1, c2⟩ := HK1.out.cells
    clear hb1 HK hfi
    obtain ⟨B, hBe⟩ : ∃ B, w1.heap.size = B := ⟨_, rfl⟩
    have HM0 := Lib.hid (MW.new HK1.out.bel HK1.out.b0 hBe n)
    go_wp2_with fail
    try rw [hBe]
    clear hBe c0 c1 c2
    refine loop_n (fun m b W => b.defers = [] ∧ ∃ (i : Nat) (v : Value), i + m = n ∧ MW w W B n FA fn fc n v (moreF fs u i) ∧ Fits (none :: some (.slice KA ks.length kc) :: none :: some (.int .u8 wi) :: some (.pointer (some ⟨w.heap.size, 0, none⟩)) :: none :: none :: none :: none :: some (.int .i64 (u : Nat)) :: some (.pointer (some ⟨B, 0, none⟩)) :: some (.int .i64 (i : Nat)) :: none :: none :: none :: none :: none :: none :: none :: none :: none :: none :: none :: none :: none :: none :: none :: none :: none :: none :: none :: none :: none :: none :: none :: none :: none :: none :: none :: none :: none :: none :: none :: none :: none :: none :: none :: none :: none :: none :: none :: none :: none :: none :: none :: none :: none :: none :: none :: none :: none :: none :: none :: none :: none :: none :: none :: none :: none :: none :: none :: none :: none :: none :: none :: none :: none :: none :: none :: none :: none :: none :: none :: none :: none :: none :: none :: none :: none :: none :: none :: none :: none :: none :: none :: none :: none :: none :: none :: none :: none :: none :: none :: none :: none :: none :: none :: none :: none :: none :: none :: none :: none :: none :: none :: none :: none :: none :: none :: none :: none :: none :: none :: none :: none :: none :: none :: none :: none :: none :: none :: none :: none :: none :: none :: none :: none :: none :: none :: none :: none :: none :: none :: none :: none :: none :: none :: none :: none :: none :: none :: none :: none :: none :: none :: none :: none :: none :: none :: none :: none :: none :: none :: []) b.tmps.toList) n ?_ ?_
    · refine ⟨rfl, 0, _, by omega, HM0.out, ?_⟩
      repeat (first | exact fits_nil | refine fits_none ?_ | refine fits_some ?_)
    clear HM0 HK1
    intro m b W hI K hK
    obtain ⟨hds, i, v, him, hM, hfit⟩ := hI
    obtain ⟨g, hg⟩ := fits_act hfit
    rw [hds] at hg
    subst hg
    clear hfit hds
    simp only [fillP, Nat.reduceAdd]
    have c0 := hM.b0.cell 0
    have c1 := hM.b0.cell 1
    have z0 := hM.b0.lt
    have e0 := hM.bm.cell 0
    have e1 := hM.bm.cell 1
    have z1 := hM.bm.lt
    have hvB : v.ownBlock ≠ some B := hM.bm.notRow hM.own (by decide)
    by_cases hlt : i < n
    · have i1 : (i : Int) < (n : Int) := by omega
      have i2 : (0 : Int) ≤ (i : Int) := by omega
      have i3 : IntKind.i64.wrap ((i : Int) + 1) = (i : Int) + 1 := by rw [IntKind.wrap_i64]; omega
      by_cases hiu : i = u
      · have hin : (decide (i = u) || fs.contains (i : Int)) = true := by simp [hiu]
        have HIN := hin
        have hiu2 : ((i : Int) == (u : Int)) = true := by simp; omega
        clear hin hiu
        have hadd := moreF_add (fs := fs) (u := u) (i := i) HIN
        have hlen := moreF_len fs u i
        obtain ⟨xs, hxs⟩ : ∃ xs, moreF fs u i = xs := ⟨_, rfl⟩
        rw [hxs] at hM hadd hlen
        have zbel := hM.bel.size
        have HSO := Lib.hid (hM.later (balloc (brefl W) (.cells #[.int .i64 i] 3)))
        obtain ⟨i0, hi0, hz0, hz1, hz2⟩ := info_parts info_int
        have Hfin := Lib.hid (show ∀ (v' : Value) (W3 : World), W3.ownsRow w.heap.size 3 1 v' (xs.length + 1) (xs.map (.int .i64) ++ [.int .i64 (i : Int)]) → (W.alloc (.cells #[.int .i64 i] 3)).grownBy W3 v.ownBlock → _ from fun v' W3 hown' hgr => HSO.out.grown hgr hown')
        have Hadd := Lib.hid hadd
        clear hM hadd hxs
        go_wp2_with (at_builtin; refine wpList_append_own _ rfl _ _ 22 rfl w.heap.size 3 i0 (.int .i64 0) 1 8 und_ints hi0 hz0 hz1 hz2 rfl (by decide) v xs.length _ rfl HSO.out.own ⟨W.heap.size, 0, none⟩ 1 1 [.int .i64 i] rfl rfl (one_new _ _ _) (by simp [Value.oneCell']) (by simp only [maxLen]; omega) (by omega) (by have := HSO.out.bel.size; omega) ?_; intro v' W3 hown' hgr _; obtain ⟨gg, cap, rfl⟩ := own_succ hown'; obtain ⟨⟨x1, x2, x3⟩, hM3⟩ := Hfin.out _ W3 hown' hgr; rw [← Hadd.out] at hM3; have HM3 := Lib.hid hM3; clear hM3 hown' hgr)
        clear x1 x2 x3
        refine hK _ _ (m - 1) (by omega) ⟨rfl, i + 1, _, by omega, HM3.out, ?_⟩
        repeat (first | exact fits_nil | refine fits_none ?_ | refine fits_some ?_)
      · have hiu2 : ((i : Int) == (u : Int)) = false := by simp; omega
        have HM := Lib.hid hM
        cases hcn : fs.contains (i : Int) with
        | false =>
          have HM1 := Lib.hid (show MW w W B n FA fn fc n v (moreF fs u (i + 1)) by rw [moreF_skip (by rw [hcn, Bool.or_false]; simpa using hiu)]; exact hM)
          clear hM hiu HM
          go_wp2_with fail
          refine (isFault_any n FA fn fc fs i _ (Hfs.out.later HM1.out.bel)).mono ?_
          rintro e w2 ⟨rfl, hb2⟩
          rw [hcn]
          have HM2 := Lib.hid (HM1.out.later hb2)
          clear hb2 HM1 hcn
          go_wp2
          refine hK _ _ (m - 1) (by omega) ⟨rfl, i + 1, v, by omega, HM2.out, ?_⟩
          repeat (first | exact fits_nil | refine fits_none ?_ | refine fits_some ?_)
        | true =>
          have HIN := (show (decide (i = u) || fs.contains (i : Int)) = true by rw [hcn, Bool.or_true])
          clear hM hiu
          go_wp2_with fail
          refine (isFault_any n FA fn fc fs i _ (Hfs.out.later HM.out.bel)).mono ?_
          rintro e w2 ⟨rfl, hb2⟩
          rw [hcn]
          have hM := HM.out.later hb2
          clear hb2 HM hcn c0 c1 z0 e0 e1 z1
          have c0 := hM.b0.cell 0
          have c1 := hM.b0.cell 1
          have z0 := hM.b0.lt
          have e0 := hM.bm.cell 0
          have e1 := hM.bm.cell 1
          have z1 := hM.bm.lt
          have hadd := moreF_add (fs := fs) (u := u) (i := i) HIN
          have hlen := moreF_len fs u i
          obtain ⟨xs, hxs⟩ : ∃ xs, moreF fs u i = xs := ⟨_, rfl⟩
          rw [hxs] at hM hadd hlen
          have zbel := hM.bel.size
          have HSO := Lib.hid (hM.later (balloc (brefl w2) (.cells #[.int .i64 i] 3)))
          obtain ⟨i0, hi0, hz0, hz1, hz2⟩ := info_parts info_int
          have Hfin := Lib.hid (show ∀ (v' : Value) (W3 : World), W3.ownsRow w.heap.size 3 1 v' (xs.length + 1) (xs.map (.int .i64) ++ [.int .i64 (i : Int)]) → (w2.alloc (.cells #[.int .i64 i] 3)).grownBy W3 v.ownBlock → _ from fun v' W3 hown' hgr => HSO.out.grown hgr hown')
          have Hadd := Lib.hid hadd
          clear hM hadd hxs
          go_wp2_with (at_builtin; refine wpList_append_own _ rfl _ _ 22 rfl w.heap.size 3 i0 (.int .i64 0) 1 8 und_ints hi0 hz0 hz1 hz2 rfl (by decide) v xs.length _ rfl HSO.out.own ⟨w2.heap.size, 0, none⟩ 1 1 [.int .i64 i] rfl rfl (one_new _ _ _) (by simp [Value.oneCell']) (by simp only [maxLen]; omega) (by omega) (by have := HSO.out.bel.size; omega) ?_; intro v' W3 hown' hgr _; obtain ⟨gg, cap, rfl⟩ := own_succ hown'; obtain ⟨⟨x1, x2, x3⟩, hM3⟩ := Hfin.out _ W3 hown' hgr; rw [← Hadd.out] at hM3; have HM3 := Lib.hid hM3; clear hM3 hown' hgr)
          clear x1 x2 x3
          refine hK _ _ (m - 1) (by omega) ⟨rfl, i + 1, _, by omega, HM3.out, ?_⟩
          repeat (first | exact fits_nil | refine fits_none ?_ | refine fits_some ?_)
    · obtain rfl : i = n := by omega
      obtain ⟨G, c, rfl, hGs⟩ := own_sl hM.own
      have HGs := Lib.hid hGs
      have HM := Lib.hid hM
      have HKa := Lib.hid (show LW w W w.heap.size i FA fn fc fs KA kc ks from ⟨hM.bel, hM.b0, Hfs.out.later hM.bel, Hks.out.later hM.bel⟩)
      obtain ⟨ml, hml⟩ : ∃ ml, (moreF fs u i).length = ml := ⟨_, rfl⟩
      rw [hml] at e1 HGs
      have Hml := Lib.hid hml
      clear hM hGs hml hK hlt hvB
      go_wp2_with fail
      refine (best_fine i FA fn fc fs KA kc ks _ HKa.out.fsl HKa.out.ksl He.out).mono ?_
      rintro e w2 ⟨G2, n2, d2, rfl, hb2, _⟩
      rw [Hv0.out]
      have HKb := Lib.hid (HKa.out.later hb2)
      have hMb := HM.out.later hb2
      have HGb := Lib.hid (HGs.out.later hb2)
      rw [Hml.out] at hMb
      clear hb2 HKa HGs c0 c1 z0 e0 e1 z1
      have e0 := hMb.bm.cell 0
      have e1 := hMb.bm.cell 1
      have z1 := hMb.bm.lt
      obtain ⟨c0, c1, c2⟩ := HKb.out.cells
      clear hMb HM
      go_wp2_with fail
      refine (best_fine i G ml c _ KA kc ks _ HGb.out HKb.out.ksl HeM.out).mono ?_
      rintro e w3 ⟨G3, n3, d3, rfl, hb3, _⟩
      rw [Hvm.out]
      have HKc := Lib.hid (HKb.out.later hb3)
      clear hb3 HKb HGb c0 c1 c2 e0 e1 z1
      obtain ⟨c0, c1, c2⟩ := HKc.out.cells
      go_wp2_with fail
      refine (ribbon_lit i none 0 0 _).mono ?_
      rintro e w4 ⟨rfl, hb4⟩
      have HKd := Lib.hid (HKc.out.later hb4)
      clear hb4 HKc c0 c1 c2
      obtain ⟨c0, c1, c2⟩ := HKd.out.cells
      go_wp2_with fail
      refine (best_fine i none 0 0 [] KA kc ks _ Sl.nil_ HKd.out.ksl HeZ.out).mono ?_
      rintro e w5 ⟨G5, n5, d5, rfl, hb5, _⟩
      rw [Hvz.out]
      have HKe := Lib.hid (HKd.out.later hb5)
      clear hb5 HKd c0 c1 c2
      obtain ⟨c0, c1, c2⟩ := HKe.out.cells
      by_cases hf0 : fn = 0
      · have f1 : ((fn : Int) == 0) = true := by simp; omega
        have f2 : (vz == v0) = true := by simpa using Hz0.out hf0
        clear hf0
        go_wp2_with fail
        refine (works_any _).mono ?_
        rintro e w6 ⟨rfl, hb6⟩
        have HB := Lib.hid (HKe.out.later hb6).bel
        clear hb6
        go_wp2
        go_ret
        exact ⟨rfl, HB.out⟩
      · have f1 : ((fn : Int) == 0) = false := by simp; omega
        have f2 : (fn : Int) ≠ 0 := by omega
        obtain ⟨f, hf⟩ : ∃ f : Nat, wi.tmod (fn : Int) = (f : Int) := ⟨(wi.tmod (fn : Int)).toNat, by
          rw [Int.tmod_eq_emod_of_nonneg (by omega)]
          have := Int.emod_nonneg wi f2
          omega⟩
        have hffn : f < fn := by
          rw [Int.tmod_eq_emod_of_nonneg (by omega)] at hf
          have := Int.emod_lt_of_pos wi (show (0 : Int) < fn by omega)
          omega
        have f3 : IntKind.i64.wrap (f : Int) = (f : Int) := by rw [IntKind.wrap_i64]; omega
        obtain ⟨y, hy⟩ : ∃ y, behindAt i (Fst (lessF fs f) i) ks i 0 = y := ⟨_, rfl⟩
        have hyb := HwL.out f
        rw [hy] at hyb
        have hcp : costP i fs ks f = (y - v0, 0) := by
          unfold costP
          rw [if_pos ((inR_iff _ _ _).2 ⟨by omega, by omega⟩), Int.toNat_natCast, ahead_behind Hk.out, ahead_behind Hk.out, hy, Hv0.out]
        obtain ⟨cs, hcs⟩ : ∃ cs, y - v0 = cs := ⟨_, rfl⟩
        rw [hcs] at hcp
        have hbb := Hbb.out
        have g1 : decide (0 ≤ cs) = true := by simp; omega
        have g2 : decide (cs ≤ 24000) = true := by simp; omega
        have g3 : IntKind.i64.wrap (v0 + cs) = y := by rw [IntKind.wrap_i64]; omega
        have g4 : (y == y) = true := by simp
        have g5 : decide (y ≤ vz) = true := by simp; omega
        have Hcp := Lib.hid hcp
        have Hy := Lib.hid hy
        clear hf0 hcp hy hyb hcs hbb
        go_wp2_with fail
        refine (Cost_ok i FA fn fc fs KA kc ks f _ HKe.out.fsl HKe.out.ksl He.out hfn2).mono ?_
        rintro e w6 ⟨rfl, hb6⟩
        rw [Hcp.out]
        have HKf := Lib.hid (HKe.out.later hb6)
        clear hb6 HKe c0 c1 c2
        obtain ⟨c0, c1, c2⟩ := HKf.out.cells
        go_wp2_with fail
        refine (without_any i FA fn fc fs f _ HKf.out.fsl hfn hffn).mono ?_
        rintro e w7 ⟨G7, n7, d7, rfl, hb7, hS7⟩
        have HKg := Lib.hid (HKf.out.later hb7)
        have HS7 := Lib.hid hS7
        clear hb7 hS7 HKf c0 c1 c2
        obtain ⟨c0, c1, c2⟩ := HKg.out.cells
        go_wp2_with fail
        refine (best_fine i G7 n7 d7 (lessF fs f) KA kc ks _ HS7.out HKg.out.ksl (HeL.out f)).mono ?_
        rintro e w8 ⟨G8, n8, d8, rfl, hb8, _⟩
        rw [Hy.out]
        have HKh := Lib.hid (HKg.out.later hb8)
        clear hb8 HKg c0 c1 c2
        go_wp2_with fail
        refine (works_any _).mono ?_
        rintro e w9 ⟨rfl, hb9⟩
        have HB := Lib.hid (HKh.out.later hb9).bel
        clear hb9
        go_wp2
        go_ret
        exact ⟨rfl, HB.out⟩
end Go.Proofs.Ytjmphmnimnbgkaa
