/- steam's back: a yard whose hours are counted back. -/
import Derived.Test.YtbbdlebmagknmaaSApi
namespace Go.Proofs.Ytbbdlebmagknmaa
open Go.RowKit Go.Shelf

def backR (r : Rg) : Rg := ⟨100 - r.hi, 100 - r.lo⟩
def backP (rs : List Rg) : List Rg := rs.map backR
/-- Block N the yard, N + 1 the result, N + 2 the new yard. -/
structure KB (w W : World) (L : Int) (A : Option Addr) (n c : Nat) (v : Value) (xs : List Rg) : Prop where
  bx : BX w W w.heap.size (w.heap.size + 1 + 1) 24 L v xs
  b0 : Blk W w.heap.size 24 #[.int .i64 L, .slice A n c]
  b1 : Blk W (w.heap.size + 1) 24 #[.int .i64 0, .slice none 0 0]
section
variable {w W W' : World} {L : Int} {A : Option Addr} {n c : Nat} {v : Value} {xs : List Rg}
theorem KB.later (h : KB w W L A n c v xs) (hb : Below W.heap.size W W') : KB w W' L A n c v xs := ⟨h.bx.later hb, h.b0.later hb, h.b1.later hb⟩
theorem KB.grown (h : KB w W L A n c v xs) {v' : Value} {x : Rg} (hg : W.grownBy W' v.ownBlock) (ho : W'.ownsRow w.heap.size 27 2 v' (xs.length + 1) (xs.flatMap encR ++ encR x)) : KB w (W'.setCell ⟨w.heap.size + 1 + 1, 1, none⟩ v') L A n c v' (xs ++ [x]) :=
  ⟨h.bx.grown (by decide) hg ho, (h.b0.grown hg (h.b0.notRow h.bx.own (by decide))).other (by show w.heap.size + 1 + 1 ≠ _; omega) _, (h.b1.grown hg (h.b1.notRow h.bx.own (by decide))).other (by show w.heap.size + 1 + 1 ≠ _; omega) _⟩
end
set_option maxRecDepth 100000 in
set_option maxHeartbeats 4000000 in
theorem back_any (L : Int) (A : Option Addr) (n c : Nat) (rs : List Rg) (w : World) (hs : Sl 2 encR w w.heap.size A n c rs) (hr : RsOk rs) :
    Calls Try.prog 67 #[.agg #[.int .i64 L, .slice A n c]] w fun e w' => ∃ A' c', e = .returned (.agg #[.int .i64 L, .slice A' n c']) ∧ Below w.heap.size w w' ∧ Sl 2 encR w' w'.heap.size A' n c' (backP rs) := by
  obtain rfl := hs.len
  have hn10 := hr.1
  have hbl1 := (Blk.new (w.alloc (.cells #[.int .i64 L, .slice A rs.length c] 24)) 24 #[.int .i64 0, .slice none 0 0]).alloc (.cells #[.int .i64 L, .slice none 0 0] 24)
  have hbl2 := Blk.new ((w.alloc (.cells #[.int .i64 L, .slice A rs.length c] 24)).alloc (.cells #[.int .i64 0, .slice none 0 0] 24)) 24 #[.int .i64 L, .slice none 0 0]
  rw [World.size_alloc] at hbl1
  rw [World.size_alloc, World.size_alloc] at hbl2
  have HK0 := Lib.hid (show KB w (((w.alloc (.cells #[.int .i64 L, .slice A rs.length c] 24)).alloc (.cells #[.int .i64 0, .slice none 0 0] 24)).alloc (.cells #[.int .i64 L, .slice none 0 0] 24)) L A rs.length c (.slice none 0 0) [] from ⟨⟨balloc (balloc (balloc (brefl w) _) _) _, hbl2, World.ownsRow_nil _ _ _ _, by omega⟩, ((Blk.new w _ _).alloc _).alloc _, hbl1⟩)
  have Hs := Lib.hid hs
  have Hr := Lib.hid hr
  clear hs hr hbl1 hbl2
  go_enter Try.func67, Try.ntmps67
  go_wp2_with fail
  refine loop_n (fun m a W => a.defers = [] ∧ ∃ (i : Nat) (v : Value), i + m = rs.length ∧ KB w W L A rs.length c v (backP (rs.take i)) ∧ Fits (none :: some (.pointer (some ⟨w.heap.size, 0, none⟩)) :: some (.pointer (some ⟨w.heap.size + 1, 0, none⟩)) :: some (.pointer (some ⟨w.heap.size + 1 + 1, 0, none⟩)) :: none :: none :: none :: none :: none :: none :: some (.slice A rs.length c) :: some (.int .i64 (rs.length : Nat)) :: some (.int .i64 (i : Nat)) :: none :: none :: none :: none :: none :: none :: none :: none :: none :: none :: none :: none :: none :: none :: none :: none :: none :: []) a.tmps.toList) rs.length ?_ ?_
  · refine ⟨rfl, 0, _, by omega, HK0.out, ?_⟩
    repeat (first | exact fits_nil | refine fits_none ?_ | refine fits_some ?_)
  clear HK0
  intro m a W hI K hK
  obtain ⟨hds, i, v, him, hKB, hfit⟩ := hI
  obtain ⟨f, hf⟩ := fits_act hfit
  rw [hds] at hf
  subst hf
  clear hfit hds
  simp only [fillP, Nat.reduceAdd]
  have HK := Lib.hid hKB
  by_cases hlt : i < rs.length
  · obtain ⟨rb, ro, x, rfl, hrb, hx, g0, g1⟩ := (Hs.out.later hKB.bx.bel).ltR hlt
    obtain ⟨a0, a1, a2⟩ := Hr.out.2 x (List.mem_of_getElem? hx)
    have hadd : backP (rs.take (i + 1)) = backP (rs.take i) ++ [backR x] := by
      obtain ⟨h1, h2⟩ := List.getElem?_eq_some_iff.1 hx
      unfold backP
      rw [List.take_succ_eq_append_getElem h1, h2, List.map_append, List.map_cons, List.map_nil]
    obtain ⟨xs, hxs⟩ : ∃ xs, backP (rs.take i) = xs := ⟨_, rfl⟩
    have hxl : xs.length ≤ 10 := by rw [← hxs]; simp [backP]; omega
    rw [hxs] at hKB HK hadd
    have Hadd := Lib.hid hadd
    have i1 : (i : Int) < (rs.length : Int) := by omega
    have i2 : (0 : Int) ≤ (i : Int) := by omega
    have i3 : IntKind.i64.wrap ((i : Int) + 1) = (i : Int) + 1 := by rw [IntKind.wrap_i64]; omega
    have i4 : IntKind.i64.wrap (100 - x.hi) = 100 - x.hi := by rw [IntKind.wrap_i64]; omega
    have i5 : IntKind.i64.wrap (100 - x.lo) = 100 - x.lo := by rw [IntKind.wrap_i64]; omega
    have hal := balloc (brefl W) (.cells #[.int .i64 x.lo, .int .i64 x.hi] 27)
    have hK1 := hKB.later hal
    have hBx : Blk (W.alloc (.cells #[.int .i64 x.lo, .int .i64 x.hi] 27)) W.heap.size 27 #[.int .i64 x.lo, .int .i64 x.hi] := Blk.new _ _ _
    have c0 := hBx.cell 0
    have c1 := hBx.cell 1
    have c2 := hBx.lt
    have b0 := hK1.bx.bp.cell 0
    have b1 := hK1.bx.bp.cell 1
    have b2 := hK1.bx.bp.lt
    have HK2 := Lib.hid (hK1.later (balloc (brefl _) (.cells #[.int .i64 (100 - x.hi), .int .i64 (100 - x.lo)] 27)))
    obtain ⟨i0, hi0, hz0, hz1, hz2⟩ := info_parts info_rg
    clear hKB HK hx hadd hxs hal hK1 hBx
    go_wp2_with (at_builtin; refine wpList_append_own _ rfl _ _ 22 rfl w.heap.size 27 i0 (.agg #[.int .i64 0, .int .i64 0]) 2 16 und_rgs hi0 hz0 hz1 hz2 rfl (by decide) v xs.length _ rfl HK2.out.bx.own ⟨W.heap.size + 1, 0, none⟩ 1 1 [.int .i64 (100 - x.hi), .int .i64 (100 - x.lo)] rfl rfl (by have h5 := two_new (W.alloc (.cells #[.int .i64 x.lo, .int .i64 x.hi] 27)) (.int .i64 (100 - x.hi)) (.int .i64 (100 - x.lo)) 27; rw [World.size_alloc] at h5; exact h5) (by simp [Value.oneCell']) (by simp only [maxLen]; omega) (by omega) (by have := HK2.out.bx.bp.lt; omega) ?_; intro v' W3 hown' hgr _; obtain ⟨gg, cap, rfl⟩ := own_succ hown'; have hb3 := HK2.out.bx.bp.grown hgr (HK2.out.bx.bp.notRow HK2.out.bx.own (by decide)); have e0 := hb3.cell 1; have e1 := hb3.lt; have e2 := hb3.frozen 1; have HK3 := Lib.hid (HK2.out.grown (x := backR x) hgr hown'); clear hb3 hown' hgr)
    rw [← Hadd.out] at HK3
    refine hK _ _ (m - 1) (by omega) ⟨rfl, i + 1, _, by omega, HK3.out, ?_⟩
    repeat (first | exact fits_nil | refine fits_none ?_ | refine fits_some ?_)
  · obtain rfl : i = rs.length := by omega
    rw [List.take_length] at hKB HK
    obtain ⟨A', c', hv, hsl⟩ := hKB.bx.sl
    subst hv
    have hbl : (backP rs).length = rs.length := by simp [backP]
    rw [hbl] at hKB HK hsl
    have b0 := hKB.bx.bp.cell 0
    have b1 := hKB.bx.bp.cell 1
    have b2 := hKB.bx.bp.lt
    have b3 := hKB.b1.frozen 0
    have b4 := hKB.b1.frozen 1
    have b5 := hKB.b1.cell 0
    have b6 := hKB.b1.cell 1
    have b7 := hKB.b1.lt
    clear hK hKB
    go_wp2
    have hKB := HK.out
    refine bodyPost_ret (v := .agg #[.int .i64 L, .slice A' rs.length c']) ?_ rfl ⟨A', c', rfl, (hKB.bx.bel.setCell (by show w.heap.size ≤ w.heap.size + 1; omega) _).setCell (by show w.heap.size ≤ w.heap.size + 1; omega) _, ?_⟩
    · have e0 : ((W.setCell ⟨w.heap.size + 1, 0, none⟩ (.int .i64 L)).setCell ⟨w.heap.size + 1, 1, none⟩ (.slice A' rs.length c')).cell? ⟨w.heap.size + 1, 0, none⟩ = some (.int .i64 L) := by
        rw [((hKB.b1.set 0 _).set 1 _).cell 0]; rfl
      have e1 : ((W.setCell ⟨w.heap.size + 1, 0, none⟩ (.int .i64 L)).setCell ⟨w.heap.size + 1, 1, none⟩ (.slice A' rs.length c')).cell? ⟨w.heap.size + 1, 1, none⟩ = some (.slice A' rs.length c') := by
        rw [((hKB.b1.set 0 _).set 1 _).cell 1]; rfl
      simp [results, Try.results67, go_sem, e0, e1]
    · have h5 := hKB.bx.own
      have hnr := hKB.b1.notRow h5 (by decide)
      rw [hbl] at h5
      obtain ⟨A2, c2, he2, hsl2⟩ := own_slG (k := 2) (enc := encR) (fun _ => rfl) (own_other (own_other h5 ⟨w.heap.size + 1, 0, none⟩ hnr (.int .i64 L)) ⟨w.heap.size + 1, 1, none⟩ hnr (.slice A' rs.length c')) hbl
      simp only [Value.slice.injEq] at he2
      obtain ⟨rfl, _, rfl⟩ := he2
      exact hsl2
end Go.Proofs.Ytbbdlebmagknmaa
