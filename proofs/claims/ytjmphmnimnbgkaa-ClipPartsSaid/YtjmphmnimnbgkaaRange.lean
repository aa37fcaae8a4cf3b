/- The law for 'for s := range t.sheets(from) { .. }', s being boxed in each round: for every body that keeps the table (but for its lists of worths). -/
import Derived.Test.YtjmphmnimnbgkaaNew
namespace Go.Proofs.Ytjmphmnimnbgkaa
open Go.RowKit Go.Shelf

theorem KeepsFrom.later {B : Nat} {W W' : World} (h : Below W.heap.size W W') : KeepsFrom B W W' := KeepsFrom.of_grownBy (grown_none h) (fun j e => by cases e)
theorem KeepsFrom.set {B : Nat} (W : World) (p : Addr) (u : Value) : KeepsFrom B W (W.setCell p u) := (KeepsOthers.setCell W p u).from B
theorem KpT.set {B1 B2 T : Nat} {KA : Option Addr} (W : World) {p : Addr} (h1 : p.block ≠ B1) (h2 : p.block ≠ B2) (hT : p.block = T → 28 ≤ p.off) (hK : ∀ o, KA = some ⟨p.block, o, none⟩ → p.block = T) (u : Value) : KpT B1 B2 T KA W (W.setCell p u) := by
  refine ⟨by simp [World.setCell], fun b o hb => World.cell?_setCell_other W p ⟨b, o, none⟩ u (fun e => ?_), fun o => World.cell?_setCell_other W p ⟨B1, o, none⟩ u (fun e => h1 (by rw [e])), fun o => World.cell?_setCell_other W p ⟨B2, o, none⟩ u (fun e => h2 (by rw [e]))⟩
  subst e
  rcases hb with ⟨hb, ho⟩ | ⟨hb, o', h'⟩
  · have := hT hb; simp at this; omega
  · exact hb (hK o' h')
theorem kpT_put {B1 B2 T : Nat} {KA : Option Addr} (W : World) (l : Nat) (o o' : Obj) (h1 : B1 < l) (h2 : B2 < l) (hT : T < l) (hK : ∀ b o, KA = some ⟨b, o, none⟩ → b < l) (_ : W.heap[l]? = some o) : KpT B1 B2 T KA W (W.putObj l o') :=
  ⟨(grownBy_putObj' W l o').size, fun b o hb => World.cell?_of_block (w := W) (World.putObj_heap_other (by
      show b ≠ l
      rcases hb with ⟨rfl, _⟩ | ⟨_, o', h'⟩
      · omega
      · have := hK b o' h'; omega)), fun o => World.cell?_of_block (w := W) (World.putObj_heap_other (by show B1 ≠ l; omega)), fun o => World.cell?_of_block (w := W) (World.putObj_heap_other (by show B2 ≠ l; omega))⟩

/-- The round's frame, when the sheet has been boxed. -/
def boxedAct (a : Act) (p d : Tmp) (fr i Bx : Nat) : Act := { tmps := (a.tmps.setIfInBounds p (.agg #[.int .i64 fr, .int .i64 i])).setIfInBounds d (.pointer (some ⟨Bx, 0, none⟩)), defers := [] }

theorem range_sheets {B1 B2 T L : Nat} {FA : Option Addr} {fn fc : Nat} {KA : Option Addr} {kc : Nat} {ks : List Kd} {F : Nat → Int} {fr : Nat} {g : Operand} {p d : Tmp} {assign body : Code} {Q : Exit → Act → World → Prop} {a : Act} {w : World}
    (hg : a.eval g = .func (.func 82) #[] #[.pointer (some ⟨B1, 0, none⟩), .pointer (some ⟨B2, 0, none⟩)])
    (hk : KOk ks) (hL : L ≤ 24) (hF : ∀ j, 0 ≤ F j ∧ F j ≤ 24) (hfr : fr ≤ 24) (hne : ∀ b o, KA = some ⟨b, o, none⟩ → b ≠ T) (hB1 : B1 < w.heap.size) (hB2 : B2 < w.heap.size)
    (h1 : w.cell? ⟨B1, 0, none⟩ = some (.pointer (some ⟨T, 0, none⟩))) (h2 : w.cell? ⟨B2, 0, none⟩ = some (.int .i64 fr)) (hC : TabC w w.heap.size T L FA fn fc KA kc ks F)
    (I : List (Ki L F ks fr) → World → Prop) (Ix : Code → List (Ki L F ks fr) → World → Prop) (hI : ∀ pre W W', Kept w.heap.size W W' → I pre W → I pre W') (hIx : ∀ c pre W W', Kept w.heap.size W W' → Ix c pre W → Ix c pre W') (h0 : I [] w)
    (hassign : ∀ (l : Nat) (x : Ki L F ks fr) (W : World) (K : Act → World → Prop), K (boxedAct a p d fr x.1 W.heap.size) (W.alloc (.cells #[.int .i64 fr, .int .i64 (x.1 : Nat)] 56)) →
      assign.wpIn (Fence.wide.inRound l) 7 Try.prog (Exit.then K (fun _ _ _ => False)) { tmps := a.tmps.setIfInBounds p (.agg #[.int .i64 fr, .int .i64 (x.1 : Nat)]), defers := [] } W)
    (hbody : ∀ (l : Nat) (pre : List (Ki L F ks fr)) (x : Ki L F ks fr) (Bx : Nat) (W : World), w.heap.size ≤ W.heap.size → w.heap.size ≤ Bx → Blk W Bx 56 #[.int .i64 fr, .int .i64 (x.1 : Nat)] → I pre W → pre.length < ks.length →
      body.wpIn (Fence.wide.inRound l) 7 Try.prog (ownPostG w.heap.size (KpT B1 B2 T KA) I Ix (pre ++ [x]) W) (boxedAct a p d fr x.1 Bx) W)
    (hdone : ∀ (D : Nat) (W : World), w.heap.size ≤ D → I (kiTo L F ks fr ks.length) W → W.heap[D]? = some (.deferred (some [])) → Q .normal { a with defers := mark D :: a.defers } W)
    (hstop : ∀ (D : Nat) (c : Code) (pre : List (Ki L F ks fr)) (W : World), w.heap.size ≤ D → (∃ k, k ≤ ks.length ∧ pre = kiTo L F ks fr k) → Ix c pre W → W.heap[D]? = some (.deferred (some [])) → c.wp Try.prog Q { a with defers := mark D :: a.defers } W) :
    (Code.rangeFunc g #[p] assign body).wp Try.prog Q a w := by
  have hKb : ∀ b o, KA = some ⟨b, o, none⟩ → b < w.heap.size := fun b o h => by obtain ⟨b', o', hA, hB, _⟩ := hC.kds.at_ (by have := hk.1; omega); rw [h] at hA; cases hA; omega
  refine (wpIn_wide (n := 9)).1 ?_
  refine wpIn_rangeFunc_ownH (F := Fence.wide) rfl (by omega) hg trivial (enters_of Try.func82 (by kernel_rfl) rfl)
    (sheets_stops 8 B1 B2 T w.heap.size L FA fn fc KA kc ks F fr hk hL hF hfr hne hB1 hB2 w (Nat.le_refl _) h1 h2 hC) (fun h k => h.trans k) (fun W l o o' hl ho _ _ => kpT_put W l o o' (by omega) (by omega) (by have := hC.lt; omega) (fun b o h => Nat.lt_of_lt_of_le (hKb b o h) hl) ho) (Below.refl _ _) (fun _ => rfl)
    (fun pre W => w.heap.size ≤ W.heap.size ∧ I pre W) Ix
    (fun s W W' row hs hg hr => ⟨Nat.le_trans hs.1 hg.size, hI s W W' (Kept.of_grown hg hr) hs.2⟩) (fun c s W W' row hs hg hr => hIx c s W W' (Kept.of_grown hg hr) hs) ⟨Nat.le_refl _, h0⟩
    (fun x a' W => ∃ Bx, w.heap.size ≤ Bx ∧ Blk W Bx 56 #[.int .i64 fr, .int .i64 (x.1 : Nat)] ∧ a' = boxedAct a p d fr x.1 Bx)
    (fun x a' s W W' row hs hg hr => by
      obtain ⟨Bx, h1, h2, h3⟩ := hs
      exact ⟨Bx, h1, h2.kept (Kept.of_grown hg hr), h3⟩) ?_ ?_ ?_ ?_
  · intro l pre x W K hi hK
    have := hassign l x W K (hK _ _ (KeepsFrom.later (balloc (brefl W) _)) (KpT.of_below (balloc (brefl W) _) (by omega) (by omega) (by have := hC.lt; omega) (fun b o h => Nat.lt_of_lt_of_le (hKb b o h) hi.1)) ⟨Nat.le_trans hi.1 (by simp), hI pre W _ (Kept.of_grown (World.grownBy_alloc W _ none) (fun r e => by cases e)) hi.2⟩
      ⟨W.heap.size, hi.1, Blk.new W _ _, rfl⟩)
    have e2 : ∀ v : Value, Array.foldl (fun (t : Array Value) (x : Tmp × Value) => match x with | (p, v) => t.setIfInBounds p v) a.tmps ((#[p] : Array Tmp).zip #[v]) = a.tmps.setIfInBounds p v := fun v => by simp
    rw [e2]
    exact this
  · intro l pre x a' W _ _ hi hx hlen
    obtain ⟨Bx, h1, h2, rfl⟩ := hx
    refine wpIn_mono (hbody l pre x Bx W hi.1 h1 h2 hi.2 hlen) ?_
    intro e b W' hq
    cases e with
    | normal => exact ⟨hq.1, hq.2.1, Nat.le_trans hi.1 hq.1.size, hq.2.2⟩
    | _ => exact hq
  · intro D xs W hD hS hi hd
    subst hS
    exact hdone D W hD hi.2 hd
  · intro D c pre W hD hS hi hd
    exact wpIn_wide.2 (hstop D c pre W hD hS hi hd)
end Go.Proofs.Ytjmphmnimnbgkaa
