/- steam's vat.proof: windows that prove the fewest loads. -/
import Derived.Test.YtbbdlebmagknmaaSRange
import Derived.Test.YtbbdlebmagknmaaSBest
import Derived.Test.YtbbdlebmagknmaaLeast
import Derived.Carry
namespace Go.Proofs.Ytbbdlebmagknmaa
open Go.RowKit Go.Shelf Go.Maps
attribute [local go_sem] Oper.semAt_some

/-- Block N the box, N + 1 the map, N + 2 its variable. -/
structure PM (w W : World) (g : Nat) (L : Int) (A : Option Addr) (c : Nat) (rs : List Rg) (n : Nat) (S : Rg → Prop) : Prop where
  fv : FV w W w.heap.size g L A rs.length c
  b2 : Blk W (w.heap.size + 1 + 1) 103 #[.map (some (w.heap.size + 1))]
  own : ∃ D : DM, OwnsM W (w.heap.size + 1) n D ∧ MapIs D S (needP L rs)
section
variable {w W W' : World} {g : Nat} {L : Int} {A : Option Addr} {c : Nat} {rs : List Rg} {n : Nat} {S S' : Rg → Prop}
theorem FV.kept {N nn : Nat} {B : Nat} (h : FV w W N g L A nn c) (hk : Kept B W W') (hB : N ≤ B) : FV w W' N g L A nn c :=
  ⟨h.bel.trans ⟨hk.os, hk.tape, hk.output, hk.size, fun i hi => hk.low i (by omega) (by have := h.b0.lt; omega)⟩, h.b0.kept hk, h.v0.kept hk⟩
theorem PM.later (h : PM w W g L A c rs n S) (hb : Below W.heap.size W W') : PM w W' g L A c rs n S := by
  obtain ⟨D, h1, h2⟩ := h.own
  exact ⟨h.fv.later hb, h.b2.later hb, D, h1.kept (grown_none hb) (by simp), h2⟩
theorem PM.kept {B : Nat} (h : PM w W g L A c rs n S) (hk : Kept B W W') (hB : w.heap.size + 1 + 1 ≤ B) : PM w W' g L A c rs n S := by
  obtain ⟨D, ⟨es, clock, hb, F, hs, hD⟩, h2⟩ := h.own
  have hlt := (Array.getElem?_eq_some_iff.1 hb).1
  exact ⟨h.fv.kept hk (by omega), h.b2.kept hk, D, ⟨es, clock, (hk.low _ (by omega) hlt).trans hb, F, hs, hD⟩, h2⟩
theorem PM.congr (h : PM w W g L A c rs n S) (hS : ∀ r, S r ↔ S' r) : PM w W g L A c rs n S' := by
  obtain ⟨D, h1, h2⟩ := h.own
  exact ⟨h.fv, h.b2, D, h1, h2.congr hS⟩
theorem PM.cells (h : PM w W g L A c rs n S) : W.cell? ⟨w.heap.size, 0, none⟩ = some (.pointer (some ⟨g, 0, none⟩)) ∧ W.cell? ⟨w.heap.size + 1 + 1, 0, none⟩ = some (.map (some (w.heap.size + 1))) ∧ w.heap.size + 1 + 1 < W.heap.size ∧ w.heap.size < W.heap.size := ⟨h.fv.b0.cell 0, h.b2.cell 0, h.b2.lt, h.fv.b0.lt⟩
theorem PM.put (h : PM w W g L A c rs n S) (hgl : g < w.heap.size) (hn : n ≤ 1000) (r : Rg) (hr : smallR r) (hw : 0 ≤ needP L rs r ∧ needP L rs r ≤ 1000000) :
    ∃ W', (Instr.mapUpdate 103 (.map (some (w.heap.size + 1))) (.agg #[.int .i64 r.lo, .int .i64 r.hi]) (.int .i64 (needP L rs r))).run Try.prog W = .ok () W' ∧ PM w W' g L A c rs (n + 1) (fun s => S s ∨ s = r) ∧ W.grownBy W' (some (w.heap.size + 1)) := by
  obtain ⟨D, h1, h2⟩ := h.own
  obtain ⟨W', hr, ho, hg⟩ := h1.update keyed_rg und_mrg (by simp only [maxLen]; omega) (keyR_of r hr) (elem_val _ (wf_mid _ hw.1 hw.2))
  exact ⟨W', hr, ⟨h.fv.grown hg (by omega) (by omega), h.b2.grown hg (by simp), _, ho, h2.put r ‹_›⟩, hg⟩
end
theorem need_le {L : Int} {rs : List Rg} (hL : 1 ≤ L ∧ L ≤ 10) (hr : RsOk rs) (r : Rg) : 0 ≤ needP L rs r ∧ needP L rs r ≤ 1010 := by
  have h1 := List.countP_le_length (p := inWd r) (l := rs)
  have h2 := hr.1
  obtain ⟨_, _, _, _, _, u0, u1⟩ := upI_facts hL (x := ((rs.countP (inWd r) : Nat) : Int)) (by omega)
  exact ⟨u0, u1⟩
theorem wins_small {rs : List Rg} (hr : RsOk rs) {r : Rg} (h : r ∈ winsL rs) : 0 ≤ r.lo ∧ r.lo ≤ r.hi ∧ r.hi ≤ 100 := by
  obtain ⟨a, b, ha, hb, hle, rfl⟩ := winsL_iff.1 h
  have h1 := hr.2 a ha
  have h2 := hr.2 b hb
  exact ⟨h1.1, hle, h2.2.2⟩
theorem wins_key {rs : List Rg} (hr : RsOk rs) {r : Rg} (h : r ∈ winsL rs) : smallR r := by
  have h1 := wins_small hr h
  unfold smallR; omega

/-- The map is ranged over. -/
structure PR (w W : World) (g : Nat) (L : Int) (A : Option Addr) (c : Nat) (rs : List Rg) (r : Nat) (D : DM) (left : Lit → Bool) : Prop where
  fv : FV w W w.heap.size g L A rs.length c
  b2 : Blk W (w.heap.size + 1 + 1) 103 #[.map (some (w.heap.size + 1))]
  is : MapIs D (fun s => s ∈ winsL rs ∧ (left (keyR s) = true ∨ needP L rs s ≠ 0)) (needP L rs)
  has : ∀ z, left z = true → has D z = true
  rl : w.heap.size + 1 + 1 < r
section
variable {w W W' : World} {g : Nat} {L : Int} {A : Option Addr} {c : Nat} {rs : List Rg} {r : Nat} {D : DM} {left : Lit → Bool}
theorem PR.later (h : PR w W g L A c rs r D left) (hb : Below W.heap.size W W') : PR w W' g L A c rs r D left := ⟨h.fv.later hb, h.b2.later hb, h.is, h.has, h.rl⟩
theorem PR.cells (h : PR w W g L A c rs r D left) : W.cell? ⟨w.heap.size, 0, none⟩ = some (.pointer (some ⟨g, 0, none⟩)) ∧ W.cell? ⟨w.heap.size + 1 + 1, 0, none⟩ = some (.map (some (w.heap.size + 1))) ∧ w.heap.size + 1 + 1 < W.heap.size ∧ w.heap.size < W.heap.size := ⟨h.fv.b0.cell 0, h.b2.cell 0, h.b2.lt, h.fv.b0.lt⟩
theorem PR.grown (h : PR w W g L A c rs r D left) (hgl : g < w.heap.size) (hg : W.grownBy W' (some r)) : PR w W' g L A c rs r D left := by
  have hrl := h.rl
  exact ⟨h.fv.grown hg (by omega) (by omega), h.b2.grown hg (by simp; omega), h.is, h.has, hrl⟩
/-- One entry has come, and stays. -/
theorem PR.stay (h : PR w W g L A c rs r D left) {s : Rg} (hs : needP L rs s ≠ 0) (hk : smallR s) : PR w W g L A c rs r D (fun z => left z && !z.sameKey (keyR s)) := by
  refine ⟨h.fv, h.b2, h.is.congr (fun s' => ?_), fun z hz => h.has z (by simp at hz; exact hz.1), h.rl⟩
  by_cases e : s' = s
  · subst e
    exact ⟨fun hh => ⟨hh.1, .inr hs⟩, fun hh => ⟨hh.1, .inr hs⟩⟩
  · constructor
    · rintro ⟨h0, h1⟩
      have hsm := h.is.small s' ⟨h0, h1⟩
      refine ⟨h0, h1.imp_left fun h1 => ?_⟩
      have hne : keyR s' ≠ keyR s := fun e' => e (keyR_inj hsm hk e')
      simp [h1, sameKey_ne hne]
    · rintro ⟨h0, h1⟩
      exact ⟨h0, h1.imp_left fun h1 => by simp at h1; exact h1.1⟩
/-- One entry has come, and has been deleted. -/
theorem PR.gone (h : PR w W g L A c rs r D left) (hgl : g < w.heap.size) (hg : W.grownBy W' (some (w.heap.size + 1))) {s : Rg} (hs : needP L rs s = 0) (hk : smallR s) : PR w W' g L A c rs r (D.del (keyR s)) (fun z => left z && !z.sameKey (keyR s)) := by
  have hself : (keyR s).sameKey (keyR s) = true := WideAt.sameKey_self (keyed_rg.key (keyR_of s hk))
  refine ⟨h.fv.grown hg (by omega) (by omega), h.b2.grown hg (by simp), (h.is.del s hk).congr (fun s' => ?_), fun z hz => ?_, h.rl⟩
  · by_cases e : s' = s
    · subst e
      constructor
      · exact fun hh => absurd rfl hh.2
      · rintro ⟨h0, h1 | h1⟩
        · simp [hself] at h1
        · exact absurd hs h1
    · constructor
      · rintro ⟨⟨h0, h1⟩, _⟩
        have hsm := h.is.small s' ⟨h0, h1⟩
        refine ⟨h0, h1.imp_left fun h1 => ?_⟩
        have hne : keyR s' ≠ keyR s := fun e' => e (keyR_inj hsm hk e')
        simp [h1, sameKey_ne hne]
      · rintro ⟨h0, h1⟩
        exact ⟨⟨h0, h1.imp_left fun h1 => by simp at h1; exact h1.1⟩, e⟩
  · simp at hz
    have hne : z ≠ keyR s := fun e => by subst e; rw [hself] at hz; simp at hz
    rw [has_del_other hne]
    exact h.has z hz.1
end
end Go.Proofs.Ytbbdlebmagknmaa
