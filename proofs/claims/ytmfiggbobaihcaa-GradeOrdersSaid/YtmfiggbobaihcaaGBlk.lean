/- Blocks that are known whole, rows of the call's own, frames that fit: general, of no chapter. -/
import Derived.Test.YtmfiggbobaihcaaDag
import Derived.RangeFuncNested
import Derived.RangeFuncBound
import Derived.RangeFuncCalls
import Derived.RangeFuncLeaves
import Derived.Shelf.RegionOpen
import Derived.TacticsInMore
import Derived.LoopNIn
import Derived.LoopIn
import Derived.Deep.OwnRows
import Derived.OwnWalkIn
import Derived.Scope
import Derived.Deep.LoopGhost
namespace Go.Proofs.Ytmfiggbobaihcaa
open Go.RowKit Go.Shelf

theorem grown_none {W W' : World} (h : Below W.heap.size W W') : W.grownBy W' none := ⟨h.os, h.tape, h.output, h.size, fun k hk _ => h.block k hk⟩
def mark (D : Nat) : Deferred := { target := .collected D, args := #[] }
/-- The marks of loops that have run to their end: their blocks lie from B on. -/
def Marks (B : Nat) (W : World) (ds : List Deferred) : Prop := ∃ Ds : List Nat, ds = Ds.map mark ∧ Ds.Nodup ∧ ∀ D ∈ Ds, B ≤ D ∧ W.heap[D]? = some (.deferred (some []))
theorem Marks.nil (B : Nat) (W : World) : Marks B W [] := ⟨[], rfl, List.nodup_nil, by simp⟩
/-- Whatever is cells, and whatever lies below B, lies as it lay; no block of deferred calls has turned. -/
structure Kept (B : Nat) (W W' : World) : Prop where
  os : W'.os = W.os
  tape : W'.tape = W.tape
  output : W'.output = W.output
  size : W.heap.size ≤ W'.heap.size
  low : ∀ k, k < B → k < W.heap.size → W'.heap[k]? = W.heap[k]?
  cells : ∀ (k : Nat) (c : Array Value) (e : TypeId) (f : Nat × Nat), W.heap[k]? = some (.cells c e f) → W'.heap[k]? = some (.cells c e f)
theorem Kept.refl (B : Nat) (W : World) : Kept B W W := ⟨rfl, rfl, rfl, Nat.le_refl _, fun _ _ _ => rfl, fun _ _ _ _ h => h⟩
theorem Kept.trans {B : Nat} {X Y Z : World} (h : Kept B X Y) (k : Kept B Y Z) : Kept B X Z :=
  ⟨k.os.trans h.os, k.tape.trans h.tape, k.output.trans h.output, Nat.le_trans h.size k.size, fun i hB hi => (k.low i hB (Nat.lt_of_lt_of_le hi h.size)).trans (h.low i hB hi), fun i c e f hi => k.cells i c e f (h.cells i c e f hi)⟩
theorem Kept.of_grown {B : Nat} {W W' : World} {row : Option Nat} (hg : W.grownBy W' row) (hr : ∀ r, row = some r → B ≤ r ∧ ∃ o : Obj, W.heap[r]? = some o ∧ o.isCells = false) : Kept B W W' := by
  refine ⟨hg.os, hg.tape, hg.output, hg.size, fun k hB hk => hg.block k hk (fun e => ?_), fun k c e f hk => ?_⟩
  · have := (hr k e.symm).1; omega
  · refine (hg.block k (Array.getElem?_eq_some_iff.1 hk).1 (fun e' => ?_)).trans hk
    obtain ⟨_, o, ho, hc⟩ := hr k e'.symm
    rw [hk] at ho; cases ho; simp [Obj.isCells] at hc
theorem Kept.below {B : Nat} {w W W' : World} (h : Below B w W) (hB : B ≤ w.heap.size) (k : Kept B W W') : Below B w W' :=
  h.trans ⟨k.os, k.tape, k.output, k.size, fun i hi => k.low i hi (by have := h.size; omega)⟩
theorem Kept.cell {B : Nat} {W W' : World} (k : Kept B W W') {p : Addr} {v : Value} (h : W.cell? p = some v) : W'.cell? p = some v := by
  unfold World.cell? at h ⊢
  cases ho : W.heap[p.block]? with
  | none => rw [ho] at h; cases h
  | some o =>
    rw [ho] at h
    cases o with
    | cells c e f => rw [k.cells _ c e f ho]; exact h
    | _ => cases h

theorem leavesM_marks {P : Program} {F : Fence} {n : Nat} {fn : Func} {tmps : Array Value} {R : Ending → World → Prop} {B : Nat} : ∀ (ds : List Deferred) (W : World) (v : Value), Marks B W ds →
    (∀ W', (results fn tmps).run P W' = .ok v W') → (∀ W', Kept B W W' → R (.returned v) W') → LeavesInM F n P fn tmps R ds .returning W := by
  intro ds
  induction ds with
  | nil =>
    intro W v _ hr hR
    exact ⟨v, hr W, hR W (Kept.refl B W)⟩
  | cons d ds ih =>
    intro W v hm hr hR
    obtain ⟨Ds, hds, hnd, hD⟩ := hm
    cases Ds with
    | nil => simp at hds
    | cons D Ds =>
      simp only [List.map_cons, List.cons.injEq] at hds
      obtain ⟨rfl, rfl⟩ := hds
      obtain ⟨hDB, hDh⟩ := hD D (by simp)
      refine ⟨by simp, .inl ⟨D, W.putObj D (.deferred none), rfl, run_takeDeferred hDh, ?_⟩⟩
      have hk : Kept B W (W.putObj D (.deferred none)) := Kept.of_grown (grownBy_putObj' W D _) (fun r e => by cases e; exact ⟨hDB, _, hDh, rfl⟩)
      refine ih _ v ⟨Ds, rfl, (List.nodup_cons.1 hnd).2, fun E hE => ⟨(hD E (by simp [hE])).1, ?_⟩⟩ hr (fun W' hk' => hR W' (hk.trans hk'))
      have hne : E ≠ D := fun e => (List.nodup_cons.1 hnd).1 (e ▸ hE)
      rw [World.putObj_heap_other hne]
      exact (hD E (by simp [hE])).2


/-- A block that is cells, known whole. -/
def Blk (W : World) (b : Nat) (t : TypeId) (cs : Array Value) : Prop := W.heap[b]? = some (.cells cs t (0, 0))
section
variable {W W' : World} {b : Nat} {t : TypeId} {cs : Array Value}
theorem Blk.lt (h : Blk W b t cs) : b < W.heap.size := (Array.getElem?_eq_some_iff.1 h).1
theorem Blk.cell (h : Blk W b t cs) (o : Nat) : W.cell? ⟨b, o, none⟩ = cs[o]? := by simp [World.cell?, show W.heap[b]? = _ from h]
theorem Blk.frozen (h : Blk W b t cs) (o : Nat) : W.frozen? ⟨b, o, none⟩ = false := by simp [World.frozen?, show W.heap[b]? = _ from h]
theorem Blk.below {B : Nat} (h : Blk W b t cs) (hb : Below B W W') (hB : b < B) : Blk W' b t cs := (hb.block b hB).trans h
theorem Blk.later (h : Blk W b t cs) (hb : Below W.heap.size W W') : Blk W' b t cs := h.below hb h.lt
theorem Blk.alloc (h : Blk W b t cs) (o : Obj) : Blk (W.alloc o) b t cs := (Below.heap_alloc W o b h.lt).trans h
theorem Blk.new (W : World) (t : TypeId) (cs : Array Value) : Blk (W.alloc (.cells cs t)) W.heap.size t cs := World.alloc_heap_new W _
theorem Blk.other (h : Blk W b t cs) {p : Addr} (hp : p.block ≠ b) (u : Value) : Blk (W.setCell p u) b t cs := (Below.heap_setCell W p u b (fun e => hp e.symm)).trans h
theorem Blk.set (h : Blk W b t cs) (o : Nat) (u : Value) : Blk (W.setCell ⟨b, o, none⟩ u) b t (cs.setIfInBounds o u) := by
  unfold Blk at h ⊢
  simp [World.setCell, Array.getElem?_modify, h]
theorem Blk.apart {b' : Nat} {t' : TypeId} {cs' : Array Value} (h : Blk W b t cs) (h' : Blk W b' t' cs') (ht : t ≠ t') : b ≠ b' := by
  rintro rfl
  unfold Blk at h h'
  rw [h] at h'
  simp at h'
  exact ht h'.2
theorem Blk.kept {B : Nat} (h : Blk W b t cs) (hk : Kept B W W') : Blk W' b t cs := hk.cells b cs t (0, 0) h
end

/-! ### Loops whose frame is known in some slots alone -/
theorem fits_nil : Fits [] [] := rfl
theorem fits_some {v : Value} {ps : List (Option Value)} {l : List Value} (h : Fits ps l) : Fits (some v :: ps) (v :: l) := ⟨l, rfl, h⟩
theorem fits_none {u : Value} {ps : List (Option Value)} {l : List Value} (h : Fits ps l) : Fits (none :: ps) (u :: l) := ⟨u, l, rfl, h⟩
def fillP : List (Option Value) → (Nat → Value) → Nat → List Value
  | [], _, _ => []
  | some v :: ps, f, i => v :: fillP ps f (i + 1)
  | none :: ps, f, i => f i :: fillP ps f (i + 1)
theorem fillP_congr : ∀ (ps : List (Option Value)) (f g : Nat → Value) (i : Nat), (∀ k, i ≤ k → f k = g k) → fillP ps f i = fillP ps g i
  | [], _, _, _, _ => rfl
  | some _ :: ps, f, g, i, h => by simp only [fillP]; rw [fillP_congr ps f g (i + 1) (fun k hk => h k (by omega))]
  | none :: ps, f, g, i, h => by simp only [fillP]; rw [h i (Nat.le_refl _), fillP_congr ps f g (i + 1) (fun k hk => h k (by omega))]
theorem fits_fillI : ∀ (ps : List (Option Value)) (l : List Value) (i : Nat), Fits ps l → ∃ f : Nat → Value, l = fillP ps f i
  | [], l, i, h => ⟨fun _ => undef, h⟩
  | some v :: ps, l, i, h => by
    obtain ⟨l', rfl, h'⟩ := h
    obtain ⟨f, rfl⟩ := fits_fillI ps l' (i + 1) h'
    exact ⟨f, rfl⟩
  | none :: ps, l, i, h => by
    obtain ⟨u, l', rfl, h'⟩ := h
    obtain ⟨f, rfl⟩ := fits_fillI ps l' (i + 1) h'
    refine ⟨fun k => if k = i then u else f k, ?_⟩
    simp only [fillP, if_true]
    rw [fillP_congr ps f (fun k => if k = i then u else f k) (i + 1) (fun k hk => by simp [show k ≠ i from by omega])]
theorem fits_act {ps : List (Option Value)} {a : Act} (h : Fits ps a.tmps.toList) : ∃ f : Nat → Value, a = { tmps := (fillP ps f 0).toArray, defers := a.defers } := by
  obtain ⟨f, hf⟩ := fits_fillI ps _ 0 h
  exact ⟨f, by rw [← hf]⟩
theorem loop_n {P : Program} {Q : Exit → Act → World → Prop} {a : Act} {w : World} {c : Code} (I : Nat → Act → World → Prop) (n₀ : Nat) (h₀ : I n₀ a w)
    (round : ∀ n a w, I n a w → ∀ K : Act → World → Prop, (∀ a' w' n', n' < n → I n' a' w' → K a' w') → c.wp P (Exit.then K Q) a w) : (Code.loop c).wp P Q a w :=
  wp_loop_ghost I n₀ h₀ fun n a w h => round n a w h _ fun _ _ n' hn hi => ⟨n', hn, hi⟩
theorem Marks.kept {B : Nat} {W W' : World} {ds : List Deferred} (h : Marks B W ds) (hk : ∀ k : Nat, ∀ c, W.heap[k]? = some (.deferred c) → W'.heap[k]? = some (.deferred c)) : Marks B W' ds := by
  obtain ⟨Ds, h1, h2, h3⟩ := h
  exact ⟨Ds, h1, h2, fun D hD => ⟨(h3 D hD).1, hk D _ (h3 D hD).2⟩⟩
theorem Marks.later {B : Nat} {W W' : World} {ds : List Deferred} (h : Marks B W ds) (hb : Below W.heap.size W W') : Marks B W' ds :=
  h.kept fun k _ hk => (hb.block k (Array.getElem?_eq_some_iff.1 hk).1).trans hk
theorem Marks.setCell {B : Nat} {W : World} {ds : List Deferred} (h : Marks B W ds) (p : Addr) (u : Value) : Marks B (W.setCell p u) ds := by
  refine h.kept fun k c hk => ?_
  by_cases e : k = p.block
  · subst e
    simp [World.setCell, Array.getElem?_modify, hk]
  · exact (Below.heap_setCell W p u k e).trans hk
theorem Marks.cons {B : Nat} {W W' : World} {ds : List Deferred} {D : Nat} (h : Marks B W ds) (hD : W.heap.size ≤ D) (hB : B ≤ W.heap.size) (hW : W'.heap[D]? = some (.deferred (some [])))
    (hk : ∀ k : Nat, ∀ c, k < W.heap.size → W.heap[k]? = some (.deferred c) → W'.heap[k]? = some (.deferred c)) : Marks B W' (mark D :: ds) := by
  obtain ⟨Ds, h1, h2, h3⟩ := h
  refine ⟨D :: Ds, by rw [h1]; rfl, List.nodup_cons.2 ⟨fun hm => ?_, h2⟩, fun E hE => ?_⟩
  · have := (Array.getElem?_eq_some_iff.1 (h3 D hm).2).1; omega
  · rcases List.mem_cons.1 hE with rfl | hE
    · exact ⟨by omega, hW⟩
    · exact ⟨(h3 E hE).1, hk E _ (Array.getElem?_eq_some_iff.1 (h3 E hE).2).1 (h3 E hE).2⟩

theorem KeepsFrom.later {B : Nat} {W W' : World} (h : Below W.heap.size W W') : KeepsFrom B W W' := KeepsFrom.of_grownBy (grown_none h) (fun j e => by cases e)
theorem KeepsFrom.set {B : Nat} (W : World) (p : Addr) (u : Value) : KeepsFrom B W (W.setCell p u) := (KeepsOthers.setCell W p u).from B
theorem Blk.grown {W W' : World} {b : Nat} {t : TypeId} {cs : Array Value} {row : Option Nat} (h : Blk W b t cs) (hg : W.grownBy W' row) (hne : row ≠ some b) : Blk W' b t cs :=
  (hg.block b h.lt (fun e => hne e.symm)).trans h
theorem Blk.notRow {W : World} {b base n size : Nat} {t e : TypeId} {cs : Array Value} {v : Value} {xs : List Value} (h : Blk W b t cs) (hown : W.ownsRow base e size v n xs) (ht : t ≠ e) : v.ownBlock ≠ some b := by
  intro hb
  rcases hown.2 with ⟨rfl, _⟩ | ⟨g, cap, cur, rfl, _, hg, _⟩
  · cases hb
  · simp only [Value.ownBlock, Option.some.injEq] at hb
    subst hb
    unfold Blk at h
    rw [hg] at h
    simp at h
    exact ht h.2.symm
theorem own_later {W W' : World} {base size n : Nat} {e : TypeId} {v : Value} {xs : List Value} (h : W.ownsRow base e size v n xs) (hb : Below W.heap.size W W') : W'.ownsRow base e size v n xs := by
  refine ⟨h.1, ?_⟩
  rcases h.2 with hn | ⟨g, cap, cur, rfl, h1, hg, h2⟩
  · exact .inl hn
  · exact .inr ⟨g, cap, cur, rfl, h1, (hb.block g (Array.getElem?_eq_some_iff.1 hg).1).trans hg, h2⟩
theorem own_kept {W W' : World} {B base size n : Nat} {e : TypeId} {v : Value} {xs : List Value} (h : W.ownsRow base e size v n xs) (hk : Kept B W W') : W'.ownsRow base e size v n xs := by
  refine ⟨h.1, ?_⟩
  rcases h.2 with hn | ⟨g, cap, cur, rfl, h1, hg, h2⟩
  · exact .inl hn
  · exact .inr ⟨g, cap, cur, rfl, h1, hk.cells g cur e (0, 0) hg, h2⟩
theorem own_other {W : World} {base size n : Nat} {e : TypeId} {v : Value} {xs : List Value} (h : W.ownsRow base e size v n xs) (p : Addr) (hp : v.ownBlock ≠ some p.block) (u : Value) : (W.setCell p u).ownsRow base e size v n xs := by
  refine ⟨h.1, ?_⟩
  rcases h.2 with hn | ⟨g, cap, cur, rfl, h1, hg, h2⟩
  · exact .inl hn
  · refine .inr ⟨g, cap, cur, rfl, h1, (Below.heap_setCell W p u g (fun e => hp (by simp [Value.ownBlock, e]))).trans hg, h2⟩

theorem own_succ {W : World} {base : Nat} {e : TypeId} {size : Nat} {v : Value} {k : Nat} {xs : List Value} (h : W.ownsRow base e size v (k + 1) xs) : ∃ g cap, v = .slice (some ⟨g, 0, none⟩) (k + 1) cap := by
  rcases h.2 with ⟨_, h0⟩ | ⟨g, cap, _, rfl, _⟩
  · omega
  · exact ⟨g, cap, rfl⟩
theorem two_new (w : World) (x y : Value) (t : TypeId) : ∀ j u, [x, y][j]? = some u → (w.alloc (.cells #[x, y] t)).cell? ((⟨w.heap.size, 0, none⟩ : Addr).add j) = some u := by
  intro j u hu
  have hadd : (⟨w.heap.size, 0, none⟩ : Addr).add j = ⟨w.heap.size, j, none⟩ := by unfold Addr.add; split <;> simp_all
  rw [hadd, (Blk.new w t #[x, y]).cell]
  simpa using hu

end Go.Proofs.Ytmfiggbobaihcaa
