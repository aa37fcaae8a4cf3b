/- The law's Chosen: right hours, by numbers. -/
import Derived.Test.YtbbdlebmagknmaaSAllF
import Derived.Test.YtbbdlebmagknmaaSPlainG
import Derived.Test.YtbbdlebmagknmaaSApiG
import Derived.Deep.RegionHeld3
namespace Go.Proofs.Ytbbdlebmagknmaa
open Go.RowKit Go.Shelf

/-- The number for a log. -/
def numB (bs : List Nat) (i : Nat) : Int := if bs.length = 0 then 0 else ((bs.getD (i % bs.length) 0 : Nat) : Int)
def chosen1 (r : Rg) (n : Int) : Int := r.lo + n.tmod (r.hi - r.lo + 1)
def chosenTo (rs : List Rg) (bs : List Nat) (i : Nat) : List Int := (List.range i).map fun i => chosen1 (rs.getD i ⟨0, 0⟩) (numB bs i)
def chosenP (rs : List Rg) (bs : List Nat) : List Int := chosenTo rs bs rs.length
theorem chosen_len (rs : List Rg) (bs : List Nat) (i : Nat) : (chosenTo rs bs i).length = i := by simp [chosenTo]
theorem num_nonneg (bs : List Nat) (i : Nat) : 0 ≤ numB bs i := by unfold numB; split <;> omega
theorem chosen1_in {r : Rg} {n : Int} (hn : 0 ≤ n) (hr : r.lo ≤ r.hi) : r.lo ≤ chosen1 r n ∧ chosen1 r n ≤ r.hi := by
  unfold chosen1
  rw [Int.tmod_eq_emod_of_nonneg hn]
  have h1 := Int.emod_nonneg n (b := r.hi - r.lo + 1) (by omega)
  have h2 := Int.emod_lt_of_pos n (b := r.hi - r.lo + 1) (by omega)
  omega
theorem chosen_ok {rs : List Rg} (hr : RsOk rs) (bs : List Nat) : ((chosenP rs bs).zip rs).any wrongB = false := by
  rw [List.any_eq_false]
  intro p hp
  obtain ⟨j, hj⟩ := List.getElem?_of_mem hp
  obtain ⟨h1, h2⟩ := List.getElem?_zip_eq_some.1 hj
  have hjl : j < rs.length := (List.getElem?_eq_some_iff.1 h2).1
  unfold chosenP chosenTo at h1
  rw [List.getElem?_map, List.getElem?_range hjl] at h1
  simp only [Option.map_some, Option.some.injEq] at h1
  have h3 : rs.getD j ⟨0, 0⟩ = p.2 := by simp [List.getD, h2]
  rw [h3] at h1
  have h4 := chosen1_in (num_nonneg bs j) (hr.2 p.2 (List.mem_of_getElem? h2)).2.1
  rw [h1] at h4
  unfold wrongB
  rw [Bool.not_eq_true, Bool.not_eq_false', inR_iff]
  exact h4

structure CHW (w W : World) (L : Int) (A : Option Addr) (n c : Nat) (v : Value) (xs : List Int) : Prop where
  bel : Below w.heap.size w W
  b0 : Blk W w.heap.size 24 #[.int .i64 L, .slice A n c]
  own : W.ownsRow (w.heap.size + 1) 2 1 v xs.length (xs.map (.int .i64))
section
variable {w W W' : World} {L : Int} {A : Option Addr} {n c : Nat} {v : Value} {xs : List Int}
theorem CHW.later (h : CHW w W L A n c v xs) (hb : Below W.heap.size W W') : CHW w W' L A n c v xs := ⟨Below.later h.bel hb, h.b0.later hb, own_later h.own hb⟩
theorem CHW.grown {v' : Value} (h : CHW w W L A n c v xs) (x : Int) (hg : W.grownBy W' v.ownBlock) (ho : W'.ownsRow (w.heap.size + 1) 2 1 v' (xs.length + 1) (xs.map (.int .i64) ++ [.int .i64 x])) : CHW w W' L A n c v' (xs ++ [x]) := by
  have hrow : ∀ k, v.ownBlock = some k → w.heap.size + 1 ≤ k := fun k hk => (h.own.lt k hk).1
  refine ⟨h.bel.trans ⟨hg.os, hg.tape, hg.output, hg.size, fun i hi => hg.block i (by have := h.bel.size; omega) (fun e => by have := hrow i e.symm; omega)⟩, h.b0.grown hg (h.b0.notRow h.own (by decide)), ?_⟩
  rw [List.length_append, List.map_append]
  exact ho
end

set_option maxRecDepth 100000 in
set_option maxHeartbeats 4000000 in
theorem chosen_any (L : Int) (A : Option Addr) (n c : Nat) (rs : List Rg) (BA : Option Addr) (bn bc : Nat) (bs : List Nat) (w : World) (hs : Sl 2 encR w w.heap.size A n c rs) (hbs : Sl 1 encB w w.heap.size BA bn bc bs) (hbd : ∀ x ∈ bs, x < 256) (hr : RsOk rs) (hb60 : bn ≤ 60) :
    Calls Try.prog 41 #[.agg #[.int .i64 L, .slice A n c], .slice BA bn bc] w fun e w' => ∃ G c', e = .returned (.slice G n c') ∧ Below w.heap.size w w' ∧ Sl 1 encI w' w'.heap.size G n c' (chosenP rs bs) := by
  obtain rfl := hs.len
  have hbl := hbs.len
  have hn10 := hr.1
  have Hs := Lib.hid hs
  have Hr := Lib.hid hr
  have Hbs := Lib.hid hbs
  have Hbd := Lib.hid hbd
  have HS0 := Lib.hid (show CHW w (w.alloc (.cells #[.int .i64 L, .slice A rs.length c] 24)) L A rs.length c (.slice none 0 0) [] from ⟨balloc (brefl w) _, Blk.new w _ _, World.ownsRow_nil _ _ _ _⟩)
  clear hs hbs hbd hr
  go_enter Try.func41, Try.ntmps41
  go_wp2_with fail
  refine loop_n (fun m a W => a.defers = [] ∧ ∃ (i : Nat) (v : Value), i + m = rs.length ∧ CHW w W L A rs.length c v (chosenTo rs bs i) ∧ Fits (none :: some (.slice BA bn bc) :: some (.pointer (some ⟨w.heap.size, 0, none⟩)) :: none :: none :: some (v) :: some (.int .i64 (i : Nat)) :: none :: none :: none :: none :: none :: none :: none :: none :: none :: none :: none :: none :: none :: none :: none :: none :: none :: none :: none :: none :: none :: none :: none :: none :: none :: none :: none :: none :: none :: none :: none :: none :: none :: none :: none :: none :: none :: none :: none :: none :: none :: none :: none :: none :: none :: none :: []) a.tmps.toList) rs.length ?_ ?_
  · refine ⟨rfl, 0, _, by omega, HS0.out, ?_⟩
    repeat (first | exact fits_nil | refine fits_none ?_ | refine fits_some ?_)
  clear HS0
  intro m a W hI K hK
  obtain ⟨hds, i, v, him, hC, hfit⟩ := hI
  obtain ⟨f, hf⟩ := fits_act hfit
  rw [hds] at hf
  subst hf
  clear hfit hds
  simp only [fillP, Nat.reduceAdd]
  have c0 := hC.b0.cell 0
  have c1 := hC.b0.cell 1
  have c2 := hC.b0.lt
  have HC := Lib.hid hC
  by_cases hlt : i < rs.length
  · obtain ⟨rb, ro, _, rfl, hrw, _, _, _⟩ := Hs.out.ltR hlt
    obtain ⟨rb', ro', r, hA', hrb, hrx, g0, g1⟩ := (Hs.out.later hC.bel).ltR hlt
    cases hA'
    obtain ⟨a0, a1, a2⟩ := Hr.out.2 r (List.mem_of_getElem? hrx)
    have hgd : rs.getD i ⟨0, 0⟩ = r := by simp [List.getD, hrx]
    have hadd : chosenTo rs bs (i + 1) = chosenTo rs bs i ++ [chosen1 r (numB bs i)] := by
      unfold chosenTo
      rw [List.range_succ, List.map_append, List.map_cons, List.map_nil, hgd]
    obtain ⟨xs, hxs⟩ : ∃ xs, chosenTo rs bs i = xs := ⟨_, rfl⟩
    have hxl : xs.length ≤ 10 := by rw [← hxs, chosen_len]; omega
    rw [hxs] at hC HC hadd
    obtain ⟨z, hz⟩ : ∃ z, chosen1 r (numB bs i) = z := ⟨_, rfl⟩
    have hzr := chosen1_in (num_nonneg bs i) a1
    rw [hz] at hadd hzr
    have hz' := hz
    unfold chosen1 at hz'
    obtain ⟨q, hq⟩ : ∃ q, (numB bs i).tmod (r.hi - r.lo + 1) = q := ⟨_, rfl⟩
    rw [hq] at hz'
    have i1 : (i : Int) < (rs.length : Int) := by omega
    have i2 : (0 : Int) ≤ (i : Int) := by omega
    have i3 : IntKind.i64.wrap ((i : Int) + 1) = (i : Int) + 1 := by rw [IntKind.wrap_i64]; omega
    have i4 : IntKind.i64.wrap (r.hi - r.lo) = r.hi - r.lo := by rw [IntKind.wrap_i64]; omega
    have i5 : IntKind.i64.wrap (r.hi - r.lo + 1) = r.hi - r.lo + 1 := by rw [IntKind.wrap_i64]; omega
    have i6 : r.hi - r.lo + 1 ≠ 0 := by omega
    have i7 : IntKind.i64.wrap q = q := by rw [IntKind.wrap_i64]; omega
    have i8 : IntKind.i64.wrap (r.lo + q) = z := by rw [IntKind.wrap_i64]; omega
    have i9 : r.lo + q = z := hz'
    have i10 : IntKind.i64.wrap z = z := by rw [IntKind.wrap_i64]; omega
    have Hadd := Lib.hid hadd
    have Hrx := Lib.hid hrx
    obtain ⟨i0, hi0, hz0, hz1, hz2⟩ := info_parts info_long
    have hwz := hC.bel.size
    by_cases hb0 : bn = 0
    · have j0 : ¬ ((0 : Int) < (bn : Int)) := by omega
      have hnum : numB bs i = 0 := by unfold numB; rw [if_pos (by omega)]
      rw [hnum] at hq
      have hq0 : q = 0 := by rw [← hq]; exact Int.zero_tmod _
      have i11 : IntKind.i64.wrap r.lo = z := by rw [IntKind.wrap_i64]; omega
      have i12 : IntKind.i64.wrap (r.lo + 0) = z := by rw [IntKind.wrap_i64]; omega
      clear hq0 hnum hb0
      have hv0 : v.ownBlock ≠ some w.heap.size := fun e => by have := (HC.out.own.lt _ e).1; omega
      have hvr : v.ownBlock ≠ some rb := fun e => by have := (HC.out.own.lt _ e).1; omega
      clear hadd hrx hxs hC hz hz' hgd c0
      go_wp2_with fail
      go_region_held3 (fun w' => w'.cell? ⟨w.heap.size, 1, none⟩ = some (.slice (some ⟨rb, ro, none⟩) rs.length c) ∧ w'.cell? ⟨rb, ro + i * 2, none⟩ = some (.int .i64 r.lo) ∧ w'.cell? ⟨rb, ro + i * 2 + 1, none⟩ = some (.int .i64 r.hi))
        (first
          | go_keep
          | (go_split_ands
             refine ⟨?_, ?_, ?_⟩
             · (rw [hgrow.cell_far _ (by simp; omega) (Ne.symm hv0)]; assumption)
             · (rw [hgrow.cell_far _ (by simp; omega) (Ne.symm hvr)]; assumption)
             · (rw [hgrow.cell_far _ (by simp; omega) (Ne.symm hvr)]; assumption)))
        ((refine step_append_lies _ (by rfl) _ _ _ (by rfl) (w.heap.size + 1) 2 i0 _ 1 8 und_longs hi0 hz0 hz1 hz2 rfl (by omega) v xs.length _ (by rfl) ((HC.out.own.alloc _).drew)
            ⟨W.heap.size, 0, none⟩ 1 1 [.int .i64 z] (by rfl) (by rfl) (World.news_of_block (cs := #[.int .i64 z]) (t := 2) (fr := (0, 0)) (heap_alloc_new W _)) (by simp [Value.oneCell'])
            (by omega) (by simp only [maxLen]; omega) (by omega) (by simp; omega) (W.heap.size + 1) (by simp) ?_; intro gg cap w3 hown1 hgrow hat hlt'))
      have hP3 := (HC.out.later (bdrew (balloc (brefl W) (.cells #[.int .i64 z] 2)) 1)).grown z hgrow hown1
      rw [← Hadd.out] at hP3
      have HP3 := Lib.hid hP3
      clear hown1 hgrow hat hP3 hlt'
      go_wp2
      refine hK _ _ (m - 1) (by omega) ⟨rfl, i + 1, _, by omega, HP3.out, ?_⟩
      repeat (first | exact fits_nil | refine fits_none ?_ | refine fits_some ?_)
    · have j0 : (0 : Int) < (bn : Int) := by omega
      obtain ⟨kk, hkk⟩ : ∃ kk, i % bn = kk := ⟨_, rfl⟩
      have hkl : kk < bn := by rw [← hkk]; exact Nat.mod_lt _ (by omega)
      obtain ⟨bb, bo, y, rfl, hbb, hy, y0⟩ := (Hbs.out.later hC.bel).ltB hkl
      have hyn := Hbd.out y (List.mem_of_getElem? hy)
      have hnum : numB bs i = (y : Int) := by
        unfold numB
        rw [if_neg (by omega), hbl, hkk]
        simp [List.getD, hy]
      rw [hnum] at hq
      have e1 : (i : Int).tmod (bn : Int) = (kk : Int) := by rw [Int.tmod_eq_emod_of_nonneg (by omega), ← hkk]; rfl
      have e2 : (bn : Int) ≠ 0 := by omega
      have e3 : (kk : Int) < (bn : Int) := by omega
      have e4 : (0 : Int) ≤ (kk : Int) := by omega
      have e5 : IntKind.i64.wrap (y : Int) = (y : Int) := by rw [IntKind.wrap_i64]; omega
      have e6 : IntKind.i64.wrap (kk : Int) = (kk : Int) := by rw [IntKind.wrap_i64]; omega
      have y1 : (y : Int) < 256 := by omega
      have hv0 : v.ownBlock ≠ some w.heap.size := fun e => by have := (HC.out.own.lt _ e).1; omega
      have hvr : v.ownBlock ≠ some rb := fun e => by have := (HC.out.own.lt _ e).1; omega
      clear hadd hrx hxs hC hz hz' hgd c0
      go_wp2_with fail
      go_region_held3 (fun w' => w'.cell? ⟨w.heap.size, 1, none⟩ = some (.slice (some ⟨rb, ro, none⟩) rs.length c) ∧ w'.cell? ⟨rb, ro + i * 2, none⟩ = some (.int .i64 r.lo) ∧ w'.cell? ⟨rb, ro + i * 2 + 1, none⟩ = some (.int .i64 r.hi))
        (first
          | go_keep
          | (go_split_ands
             refine ⟨?_, ?_, ?_⟩
             · (rw [hgrow.cell_far _ (by simp; omega) (Ne.symm hv0)]; assumption)
             · (rw [hgrow.cell_far _ (by simp; omega) (Ne.symm hvr)]; assumption)
             · (rw [hgrow.cell_far _ (by simp; omega) (Ne.symm hvr)]; assumption)))
        ((refine step_append_lies _ (by rfl) _ _ _ (by rfl) (w.heap.size + 1) 2 i0 _ 1 8 und_longs hi0 hz0 hz1 hz2 rfl (by omega) v xs.length _ (by rfl) ((HC.out.own.alloc _).drew)
            ⟨W.heap.size, 0, none⟩ 1 1 [.int .i64 z] (by rfl) (by rfl) (World.news_of_block (cs := #[.int .i64 z]) (t := 2) (fr := (0, 0)) (heap_alloc_new W _)) (by simp [Value.oneCell'])
            (by omega) (by simp only [maxLen]; omega) (by omega) (by simp; omega) (W.heap.size + 1) (by simp) ?_; intro gg cap w3 hown1 hgrow hat hlt'))
      have hP3 := (HC.out.later (bdrew (balloc (brefl W) (.cells #[.int .i64 z] 2)) 1)).grown z hgrow hown1
      rw [← Hadd.out] at hP3
      have HP3 := Lib.hid hP3
      clear hown1 hgrow hat hP3 hlt'
      go_wp2
      refine hK _ _ (m - 1) (by omega) ⟨rfl, i + 1, _, by omega, HP3.out, ?_⟩
      repeat (first | exact fits_nil | refine fits_none ?_ | refine fits_some ?_)
  · obtain rfl : i = rs.length := by omega
    have hv : ∃ G c', v = .slice G rs.length c' ∧ Sl 1 encI W W.heap.size G rs.length c' (chosenP rs bs) := by
      have h1 := hC.own
      rw [chosen_len] at h1
      obtain ⟨G, c', e1, h2⟩ := own_slI h1 (chosen_len _ _ _)
      exact ⟨G, c', e1, h2⟩
    obtain ⟨G, c', rfl, hsl⟩ := hv
    have Hsl := Lib.hid hsl
    clear hK hC hsl
    go_wp2
    go_ret
    exact ⟨G, c', rfl, HC.out.bel, Hsl.out⟩
end Go.Proofs.Ytbbdlebmagknmaa
