/- steam's Keep: its test, whether so many loads are enough for some logs. -/
import Derived.Test.YtbbdlebmagknmaaSLate
import Derived.Test.YtbbdlebmagknmaaSPick
import Derived.Deep.AppendLies
import Derived.Deep.RegionLaw
import Derived.Deep.DeepCutAuto
namespace Go.Proofs.Ytbbdlebmagknmaa
open Go.RowKit Go.Shelf

theorem own_slI {W : World} {base n : Nat} {e : TypeId} {v : Value} {ts : List Int} (h : W.ownsRow base e 1 v n (ts.map (.int .i64))) (hx : ts.length = n) : ∃ A c, v = .slice A n c ∧ Sl 1 encI W W.heap.size A n c ts := by
  have e1 : ∀ l : List Int, l.flatMap encI = l.map (.int .i64) := fun l => by
    induction l with
    | nil => rfl
    | cons t l ih => rw [List.flatMap_cons, ih]; rfl
  rw [← e1] at h
  exact own_slG (k := 1) (enc := encI) (fun _ => rfl) h hx
/-- A yard, or a vat, whose logs are made. -/
structure BX (w W : World) (B P : Nat) (ty : TypeId) (L : Int) (v : Value) (xs : List Rg) : Prop where
  bel : Below B w W
  bp : Blk W P ty #[.int .i64 L, v]
  own : W.ownsRow B 27 2 v xs.length (xs.flatMap encR)
  ge : B ≤ P
section
variable {w W W' : World} {B P : Nat} {ty : TypeId} {L : Int} {v : Value} {xs : List Rg}
theorem BX.later (h : BX w W B P ty L v xs) (hb : Below W.heap.size W W') : BX w W' B P ty L v xs :=
  ⟨h.bel.trans ⟨hb.os, hb.tape, hb.output, hb.size, fun k hk => hb.block k (by have := h.bp.lt; have := h.ge; omega)⟩, h.bp.later hb, own_later h.own hb, h.ge⟩
theorem BX.grown (h : BX w W B P ty L v xs) (ht : ty ≠ 27) {v' : Value} {x : Rg} (hg : W.grownBy W' v.ownBlock) (ho : W'.ownsRow B 27 2 v' (xs.length + 1) (xs.flatMap encR ++ encR x)) : BX w (W'.setCell ⟨P, 1, none⟩ v') B P ty L v' (xs ++ [x]) := by
  have hge := h.ge
  have hb3 := h.bp.grown hg (h.bp.notRow h.own ht)
  refine ⟨(h.bel.trans ⟨hg.os, hg.tape, hg.output, hg.size, fun k hk => hg.block k (by have := h.bp.lt; omega) (fun e => by have := own_base h.own _ e.symm; omega)⟩).setCell (by show B ≤ P; omega) _, ?_, ?_, hge⟩
  · have h1 := hb3.set 1 v'
    simpa using h1
  · have h5 : W'.ownsRow B 27 2 v' (xs ++ [x]).length ((xs ++ [x]).flatMap encR) := by simpa [List.flatMap_append] using ho
    exact own_other h5 _ (hb3.notRow h5 ht) _
theorem BX.own_alloc (h : BX w W B P ty L v xs) (o : Obj) : (W.alloc o).ownsRow B 27 2 v xs.length (xs.flatMap encR) := own_later h.own (balloc (brefl W) o)
theorem BX.sl (h : BX w W B P ty L v xs) : ∃ A c, v = .slice A xs.length c ∧ Sl 2 encR W W.heap.size A xs.length c xs := own_slG (k := 2) (enc := encR) (fun _ => rfl) h.own rfl
end
/-- Some of the logs. -/
def partP (rs : List Rg) (l : List Nat) : List Rg := l.map fun i => rs.getD i ⟨0, 0⟩
theorem part_ok {rs : List Rg} (hr : RsOk rs) {l : List Nat} (hl : ∀ x ∈ l, x < rs.length) (hn : l.length ≤ 10) : RsOk (partP rs l) := by
  refine ⟨by simpa [partP] using hn, fun x hx => ?_⟩
  obtain ⟨i, hi, rfl⟩ := List.mem_map.1 hx
  have h1 := hl i hi
  refine hr.2 _ ?_
  simp [List.getD, h1]
/-- Whether so many loads are enough for some logs. -/
def fitsB (rs : List Rg) (L : Nat) (ld : Int) (l : List Nat) : Bool := decide (LA (partP rs l) L 101 ≤ ld)
set_option maxRecDepth 100000 in
set_option maxHeartbeats 8000000 in
theorem keep1_any (Y Z : Nat) (L : Nat) (A : Option Addr) (c : Nat) (rs : List Rg) (ld : Int) (base : Nat) (l : List Nat) (v : Value) (w : World) (hY : Blk w Y 24 #[.int .i64 (L : Int), .slice A rs.length c]) (hZ : Blk w Z 2 #[.int .i64 ld]) (hs : Sl 2 encR w w.heap.size A rs.length c rs) (hr : RsOk rs) (hL : 1 ≤ L ∧ L ≤ 10) (hl : ListV w base l v) (hlx : ∀ x ∈ l, x < rs.length) (hln : l.length ≤ rs.length) :
    Calls Try.prog 70 #[v, .pointer (some ⟨Y, 0, none⟩), .pointer (some ⟨Z, 0, none⟩)] w fun e w' => e = .returned (.bool (fitsB rs L ld l)) ∧ Below w.heap.size w w' := by
  have hn10 := hr.1
  obtain ⟨Al, cl, hv⟩ : ∃ Al cl, v = .slice Al l.length cl := by
    rcases hl.2 with ⟨rfl, h0⟩ | ⟨g, cap, _, rfl, _⟩
    · exact ⟨none, 0, by rw [h0]⟩
    · exact ⟨_, cap, rfl⟩
  have Hlf := Lib.hid (LeftV.own hl)
  subst hv
  have y0 := hY.cell 0
  have y2 := hY.lt
  have HB0 := Lib.hid (show BX w (w.alloc (.cells #[.int .i64 (L : Int), .slice none 0 0] 87)) w.heap.size w.heap.size 87 (L : Int) (.slice none 0 0) [] from ⟨balloc (brefl w) _, Blk.new w _ _, World.ownsRow_nil _ _ _ _, Nat.le_refl _⟩)
  have HY := Lib.hid hY
  have HZ := Lib.hid hZ
  have Hs := Lib.hid hs
  have Hr := Lib.hid hr
  have Hlx := Lib.hid hlx
  clear hY hZ hs hr hl hlx
  obtain ⟨n, hn⟩ : ∃ n, l.length = n := ⟨_, rfl⟩
  have Hn := Lib.hid hn
  obtain ⟨nr, hnr⟩ : ∃ nr, rs.length = nr := ⟨_, rfl⟩
  have Hnr := Lib.hid hnr
  rw [hn] at hln ⊢
  rw [hnr] at hln hn10 HY Hs
  clear hn hnr
  go_enter Try.func70, Try.ntmps70
  go_wp2_with fail
  clear y0 y2
  refine loop_n (fun m a W => a.defers = [] ∧ ∃ (i : Nat) (pv : Value), i + m = n ∧ BX w W w.heap.size w.heap.size 87 (L : Int) pv (partP rs (l.take i)) ∧ Fits (none :: some (.pointer (some ⟨Y, 0, none⟩)) :: some (.pointer (some ⟨Z, 0, none⟩)) :: none :: none :: some (.pointer (some ⟨w.heap.size, 0, none⟩)) :: none :: none :: none :: none :: none :: none :: none :: none :: some (.slice Al n cl) :: some (.int .i64 (n : Nat)) :: some (.int .i64 (i : Nat)) :: none :: none :: none :: none :: none :: none :: none :: none :: none :: none :: none :: none :: none :: none :: none :: none :: none :: none :: none :: none :: none :: none :: none :: none :: []) a.tmps.toList) n ?_ ?_
  · refine ⟨rfl, 0, _, by omega, HB0.out, ?_⟩
    repeat (first | exact fits_nil | refine fits_none ?_ | refine fits_some ?_)
  clear HB0
  intro m a W hI K hK
  obtain ⟨hds, i, pv, him, hB, hfit⟩ := hI
  obtain ⟨f, hf⟩ := fits_act hfit
  rw [hds] at hf
  subst hf
  clear hfit hds
  simp only [fillP, Nat.reduceAdd]
  have hY1 := HY.out.below hB.bel HY.out.lt
  have hZ1 := HZ.out.below hB.bel HZ.out.lt
  have y0 := hY1.cell 0
  have y1 := hY1.cell 1
  have y2 := hY1.lt
  have z0 := hZ1.cell 0
  have z1 := hZ1.lt
  have b0 := hB.bp.cell 0
  have b1 := hB.bp.cell 1
  have b2 := hB.bp.lt
  have b3 := hB.bp.frozen 1
  have HB := Lib.hid hB
  by_cases hlt : i < n
  · obtain ⟨g, cg, x, hA, _, hgl, hx, hcx⟩ := Hlf.out.at_ (i := i) (by rw [Hn.out]; exact hlt)
    simp only [Value.slice.injEq] at hA
    obtain ⟨rfl, _, rfl⟩ := hA
    have hcx' := (hB.bel.cell (p := ⟨g, i, none⟩) hgl).trans hcx
    have hgl2 : g < W.heap.size := Nat.lt_of_lt_of_le hgl hB.bel.size
    have hxn := Hlx.out x (List.mem_of_getElem? hx)
    rw [Hnr.out] at hxn
    obtain ⟨rb, ro, r, rfl, hrb, hrx, g0, g1⟩ := (Hs.out.below hB.bel).ltR hxn
    have hrb2 : rb < W.heap.size := Nat.lt_of_lt_of_le hrb hB.bel.size
    have hgd : rs.getD x ⟨0, 0⟩ = r := by simp [List.getD, hrx]
    have hadd : partP rs (l.take (i + 1)) = partP rs (l.take i) ++ [r] := by
      obtain ⟨h1, h2⟩ := List.getElem?_eq_some_iff.1 hx
      unfold partP
      rw [List.take_succ_eq_append_getElem h1, h2, List.map_append, List.map_cons, List.map_nil, hgd]
    obtain ⟨xs, hxs⟩ : ∃ xs, partP rs (l.take i) = xs := ⟨_, rfl⟩
    have hxl : xs.length ≤ 10 := by rw [← hxs]; simp [partP]; omega
    rw [hxs] at hB HB hadd
    have Hadd := Lib.hid hadd
    have i1 : (i : Int) < (n : Int) := by omega
    have i2 : (0 : Int) ≤ (i : Int) := by omega
    have i3 : IntKind.i64.wrap ((i : Int) + 1) = (i : Int) + 1 := by rw [IntKind.wrap_i64]; omega
    have i4 : (x : Int) < (nr : Int) := by omega
    have i5 : (0 : Int) ≤ (x : Int) := by omega
    obtain ⟨i0, hi0, hz0, hz1, hz2⟩ := info_parts info_rg
    have hvv : pv.ownBlock ≠ some w.heap.size := hB.bp.notRow hB.own (by decide)
    clear hB hx hcx hrx hgd hadd hxs hgl hY1 hZ1
    have hfb : W.frozen? ⟨w.heap.size, 1, none⟩ = false := b3
    have HBr := Lib.hid (HB.out.later (bdrew (balloc (brefl W) (.cells #[.int .i64 r.lo, .int .i64 r.hi] 27)) 1))
    have HBW := Lib.hid (show w.heap.size ≤ (W.alloc (.cells #[.int .i64 r.lo, .int .i64 r.hi] 27)).heap.size by simp; omega)
    go_wp2_with fail
    go_region_law
      ((refine step_append_lies _ (by rfl) _ _ _ (by rfl) w.heap.size 27 i0 _ 2 16 und_rgs hi0 hz0 hz1 hz2 rfl (by omega) pv xs.length _ (by rfl) ((HB.out.own_alloc _).drew)
          ⟨W.heap.size, 0, none⟩ 1 1 [.int .i64 r.lo, .int .i64 r.hi] (by rfl) (by rfl) (World.news_of_block (cs := #[.int .i64 r.lo, .int .i64 r.hi]) (t := 27) (fr := (0, 0)) (heap_alloc_new W _)) (by simp [Value.oneCell'])
          (by omega) (by simp only [maxLen]; omega) (by omega) HBW.out (W.heap.size + 1) (by simp) ?_; intro gg cap w3 hown1 hgrow hat hlt'; have hb3 := HBr.out.bp.grown hgrow hvv; have hc3 := hb3.cell 1; have hf3 := hb3.frozen 1; have hz3 := hb3.lt; clear hb3))
    all_goals
      have hP3 := HBr.out.grown (by decide) hgrow hown1
      rw [← Hadd.out] at hP3
      have HP3 := Lib.hid hP3
      clear hown1 hgrow hat hP3 hlt' hc3 hf3 hz3
      go_wp2
      refine hK _ _ (m - 1) (by omega) ⟨rfl, i + 1, _, by omega, HP3.out, ?_⟩
      repeat (first | exact fits_nil | refine fits_none ?_ | refine fits_some ?_)
  · obtain rfl : i = n := by omega
    have hE : l.take i = l := by rw [← Hn.out]; exact List.take_length
    rw [hE] at hB HB
    obtain ⟨pA, pc, hpv, hsl⟩ := hB.sl
    subst hpv
    have hpl : (partP rs l).length = i := by unfold partP; rw [List.length_map]; exact Hn.out
    have hfill := fill_any w.heap.size L pA pc (partP rs l) W hB.bp hsl (part_ok Hr.out Hlx.out (by rw [Hn.out]; omega)) hL
    have Hfl := Lib.hid hfill
    have Hpr := Lib.hid (part_ok Hr.out Hlx.out (by rw [Hn.out]; omega))
    have HZ1 := Lib.hid hZ1
    clear hK hB hsl hfill hpl hE hY1 hZ1
    go_wp2_with fail
    refine Hfl.out.mono ?_
    rintro e w1 ⟨tv, lp, ts, H, rfl, hb1, hok, hown, _⟩
    have hlate := (fill_late hok Hpr.out hL.1).2
    obtain ⟨At, ct, rfl, _⟩ := own_slI hown rfl
    have Hlate := Lib.hid hlate
    have HBf := Lib.hid (Below.later HB.out.bel hb1)
    have hz := HZ1.out.later hb1
    have z2 := hz.cell 0
    have z3 := hz.lt
    obtain ⟨q, hq⟩ : ∃ q, decide ((ts.length : Int) ≤ ld) = q := ⟨_, rfl⟩
    have HE := Lib.hid (show fitsB rs L ld l = q by unfold fitsB; rw [← hlate]; exact hq)
    clear hlate hb1 hz hown hok y0 y1 y2 z0 z1 b0 b1 b2 b3
    go_wp2
    go_ret
    exact ⟨ret_bool (by rw [HE.out]), HBf.out⟩
end Go.Proofs.Ytbbdlebmagknmaa
