/- A range over steam's vat.windows. -/
import Derived.Test.YtbbdlebmagknmaaSWins
namespace Go.Proofs.Ytbbdlebmagknmaa
open Go.RowKit Go.Shelf Go.Maps

/-- **What 'v.windows()' hands back yields: all windows, in some order; or a part of them.** -/
theorem wins_stops (n : Nat) (B1 g : Nat) (L : Int) (A : Option Addr) (c : Nat) (rs : List Rg) (hr : RsOk rs) (w : World) (hR : IR w B1 g L A c rs) :
    SeqStopsK Fence.wide n Try.prog 90 #[.pointer (some ⟨B1, 0, none⟩)] (fun x : Wi rs => #[.agg #[.int .i64 x.1.lo, .int .i64 x.1.hi]]) KpC
      (fun ys => (∀ r ∈ winsL rs, ∃ y ∈ ys, y.1 = r) ∧ ys.length ≤ 100) (fun _ => True) 1000 w := fun l J Jx W hW hJ _ hY h0 =>
  wins1_in n l B1 g L A c rs hr J Jx W hJ hY (hR.kp (KpC.of_below hW)) h0
set_option maxHeartbeats 400000 in
theorem windows_any (g : Nat) (w : World) :
    Calls Try.prog 83 #[.pointer (some ⟨g, 0, none⟩)] w fun e w' =>
      e = .returned (.func (.func 90) #[] #[.pointer (some ⟨w.heap.size, 0, none⟩)]) ∧ w.alloc (.cells #[.pointer (some ⟨g, 0, none⟩)] 70) = w' := by
  go_enter Try.func83, Try.ntmps83
  go_wp2
  go_ret
  exact ⟨rfl, rfl⟩
/-- The round's frame, when the window has been boxed. -/
def boxedAct (a : Act) (p d : Tmp) (r : Rg) (Bx : Nat) : Act := { tmps := (a.tmps.setIfInBounds p (.agg #[.int .i64 r.lo, .int .i64 r.hi])).setIfInBounds d (.pointer (some ⟨Bx, 0, none⟩)), defers := [] }
theorem range_wins {B1 gv : Nat} {L : Int} {A : Option Addr} {c : Nat} {rs : List Rg} {g : Operand} {p d : Tmp} {assign body : Code} {Q : Exit → Act → World → Prop} {a : Act} {w : World}
    (hg : a.eval g = .func (.func 90) #[] #[.pointer (some ⟨B1, 0, none⟩)]) (hr : RsOk rs) (hR : IR w B1 gv L A c rs)
    (I : List (Wi rs) → World → Prop) (Ix : Code → List (Wi rs) → World → Prop) (hI : ∀ pre W W', Kept w.heap.size W W' → I pre W → I pre W') (hIx : ∀ c pre W W', Kept w.heap.size W W' → Ix c pre W → Ix c pre W') (h0 : I [] w)
    (hassign : ∀ (l : Nat) (x : Wi rs) (W : World) (K : Act → World → Prop), K (boxedAct a p d x.1 W.heap.size) (W.alloc (.cells #[.int .i64 x.1.lo, .int .i64 x.1.hi] 27)) →
      assign.wpIn (Fence.wide.inRound l) 7 Try.prog (Exit.then K (fun _ _ _ => False)) { tmps := a.tmps.setIfInBounds p (.agg #[.int .i64 x.1.lo, .int .i64 x.1.hi]), defers := [] } W)
    (hbody : ∀ (l : Nat) (pre : List (Wi rs)) (x : Wi rs) (Bx : Nat) (W : World), w.heap.size ≤ W.heap.size → w.heap.size ≤ Bx → Blk W Bx 27 #[.int .i64 x.1.lo, .int .i64 x.1.hi] → I pre W → pre.length < 1000 →
      body.wpIn (Fence.wide.inRound l) 7 Try.prog (ownPostG w.heap.size KpC I Ix (pre ++ [x]) W) (boxedAct a p d x.1 Bx) W)
    (hdone : ∀ (D : Nat) (W : World) (ys : List (Wi rs)), w.heap.size ≤ D → ((∀ r ∈ winsL rs, ∃ y ∈ ys, y.1 = r) ∧ ys.length ≤ 100) → I ys W → W.heap[D]? = some (.deferred (some [])) → Q .normal { a with defers := mark D :: a.defers } W)
    (hstop : ∀ (D : Nat) (c : Code) (pre : List (Wi rs)) (W : World), w.heap.size ≤ D → Ix c pre W → W.heap[D]? = some (.deferred (some [])) → c.wp Try.prog Q { a with defers := mark D :: a.defers } W) :
    (Code.rangeFunc g #[p] assign body).wp Try.prog Q a w := by
  refine (wpIn_wide (n := 9)).1 ?_
  refine wpIn_rangeFunc_ownH (F := Fence.wide) rfl (by omega) hg trivial (enters_of Try.func90 (by kernel_rfl) rfl)
    (wins_stops 8 B1 gv L A c rs hr w hR) (fun h k => h.trans k) (fun W l o o' _ ho hc _ => KpC.put W l o o' ho hc) (Below.refl _ _) (fun _ => rfl)
    (fun pre W => w.heap.size ≤ W.heap.size ∧ I pre W) Ix
    (fun s W W' row hs hg hr => ⟨Nat.le_trans hs.1 hg.size, hI s W W' (Kept.of_grown hg hr) hs.2⟩) (fun c s W W' row hs hg hr => hIx c s W W' (Kept.of_grown hg hr) hs) ⟨Nat.le_refl _, h0⟩
    (fun x a' W => ∃ Bx, w.heap.size ≤ Bx ∧ Blk W Bx 27 #[.int .i64 x.1.lo, .int .i64 x.1.hi] ∧ a' = boxedAct a p d x.1 Bx)
    (fun x a' s W W' row hs hg hr => by
      obtain ⟨Bx, h1, h2, h3⟩ := hs
      exact ⟨Bx, h1, h2.kept (Kept.of_grown hg hr), h3⟩) ?_ ?_ ?_ ?_
  · intro l pre x W K hi hK
    have := hassign l x W K (hK _ _ (KeepsFrom.later (balloc (brefl W) _)) (KpC.of_below (balloc (brefl W) _)) ⟨Nat.le_trans hi.1 (by simp), hI pre W _ (Kept.of_grown (World.grownBy_alloc W _ none) (fun r e => by cases e)) hi.2⟩
      ⟨W.heap.size, hi.1, Blk.new W _ _, rfl⟩)
    have e2 : ∀ v : Value, Array.foldl (fun (t : Array Value) (x : Tmp × Value) => match x with | (p, v) => t.setIfInBounds p v) a.tmps ((#[p] : Array Tmp).zip #[v]) = a.tmps.setIfInBounds p v := fun v => by simp
    rw [e2]
    exact this
  · intro l pre x a' W _ _ hi hx hlen
    obtain ⟨Bx, h1, h2, rfl⟩ := hx
    refine wpIn_mono (hbody l pre x Bx W hi.1 h1 h2 hi.2 hlen) ?_
    intro e b W' hq
    cases e with
    | normal => exact ⟨hq.1, hq.2.1, Nat.le_trans hi.1 hq.1.size, hq.2.2⟩
    | _ => exact hq
  · intro D xs W hD hS hi hd
    exact hdone D W xs hD hS hi.2 hd
  · intro D c pre W hD _ hi hd
    exact wpIn_wide.2 (hstop D c pre W hD hi hd)
end Go.Proofs.Ytbbdlebmagknmaa
