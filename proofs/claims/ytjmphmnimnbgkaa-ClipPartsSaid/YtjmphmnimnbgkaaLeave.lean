/- Leaving a function whose results lie in cells, with marks of loops; an append that makes a new row, in a region that draws its order. -/
import Derived.Test.YtjmphmnimnbgkaaCost
import Derived.Test.YtjmphmnimnbgkaaPricesLaw
import Derived.ArgAppend
namespace Go.Proofs.Ytjmphmnimnbgkaa
open Go.RowKit Go.Shelf

theorem leavesM_cells {P : Program} {F : Fence} {n : Nat} {fn : Func} {tmps : Array Value} {R : Ending → World → Prop} {B : Nat} : ∀ (ds : List Deferred) (W : World) (v : Value), Marks B W ds →
    (∀ W', Kept B W W' → (results fn tmps).run P W' = .ok v W') → (∀ W', Kept B W W' → R (.returned v) W') → LeavesInM F n P fn tmps R ds .returning W := by
  intro ds
  induction ds with
  | nil =>
    intro W v _ hr hR
    exact ⟨v, hr W (Kept.refl B W), hR W (Kept.refl B W)⟩
  | cons d ds ih =>
    intro W v hm hr hR
    obtain ⟨Ds, hds, hnd, hD⟩ := hm
    cases Ds with
    | nil => simp at hds
    | cons D Ds =>
      simp only [List.map_cons, List.cons.injEq] at hds
      obtain ⟨rfl, rfl⟩ := hds
      obtain ⟨hDB, hDh⟩ := hD D (by simp)
      refine ⟨by simp, .inl ⟨D, W.putObj D (.deferred none), rfl, run_takeDeferred hDh, ?_⟩⟩
      have hk : Kept B W (W.putObj D (.deferred none)) := Kept.of_grown (grownBy_putObj' W D _) (fun r e => by cases e; exact ⟨hDB, _, hDh, rfl⟩)
      refine ih _ v ⟨Ds, rfl, (List.nodup_cons.1 hnd).2, fun E hE => ⟨(hD E (by simp [hE])).1, ?_⟩⟩ (fun W' hk' => hr W' (hk.trans hk')) (fun W' hk' => hR W' (hk.trans hk'))
      have hne : E ≠ D := fun e => (List.nodup_cons.1 hnd).1 (e ▸ hE)
      rw [World.putObj_heap_other hne]
      exact (hD E (by simp [hE])).2
theorem postM_cells {P : Program} {fn : Func} {R : Ending → World → Prop} {a : Act} {B : Nat} {W : World} {v : Value} (hm : Marks B W a.defers) (hr : ∀ W', Kept B W W' → (results fn a.tmps).run P W' = .ok v W') (hR : ∀ W', Kept B W W' → R (.returned v) W') : bodyPostM Fence.wide 9 P fn R .ret a W :=
  leavesM_cells _ _ _ hm hr hR

theorem doesAt_append {P : Program} {o : Oper} {a : Act} {W : World} {R : Value → World → Prop} (s x : Operand) (t tn : TypeId)
    (ho : o.op = .call { callee := .builtin .append, args := #[s, x], argTypes := #[t, tn] }) (vs vx : Value) (hs : a.eval s = vs) (hx : a.eval x = vx)
    (v' : Value) (w' : World) (hr : (Builtin.append_ #[t, tn] o.type #[vs, vx]).run P W = .ok v' w') (h : R v' w') : doesAt P o a W R := by
  unfold doesAt execOp
  simp only [ho, resolve, invoke, builtin, Sem.run_bind, Sem.run_pure, Result.andThen_ok, List.map_toArray, List.map_cons, List.map_nil, hs, hx, hr]
  exact h

/-- Two results in cells. -/
theorem results_cells2 {P : Program} {fn : Func} {p q : Tmp} {tp tq : TypeId} (h : fn.results = #[.cell p tp, .cell q tq]) (tmps : Array Value) (w : World) (a b : Nat) (x y : Int) (kx ky : IntKind) (hp : tmps.getD p undef = .pointer (some ⟨a, 0, none⟩)) (hq : tmps.getD q undef = .pointer (some ⟨b, 0, none⟩))
    (l1 : (loadVar tp ⟨a, 0, none⟩).run P w = .ok (.int kx x) w) (l2 : (loadVar tq ⟨b, 0, none⟩).run P w = .ok (.int ky y) w) :
    (results fn tmps).run P w = .ok (.tuple #[.int kx x, .int ky y]) w := by
  rw [Array.getD_eq_getD_getElem?] at hp hq
  simp [results, h, hp, hq, l1, l2, asAddr]

set_option maxHeartbeats 400000 in
theorem outP_any (x : Int) (w : World) : Calls Try.prog 68 (#[.int .i64 x] ++ #[]) w fun e w' => e = .returned (.bool (outP x)) ∧ Below w.heap.size w w' := by
  by_cases h : x < 0
  · have h1 : decide (x < 0) = true := by simpa using h
    have HE := Lib.hid (show outP x = true by simp [outP, h])
    clear h
    go_enter Try.func68, Try.ntmps68
    go_wp2
    go_ret
    exact ⟨ret_bool HE.out.symm, brefl _⟩
  · have h1 : decide (x < 0) = false := by simpa using h
    have HE := Lib.hid (show outP x = decide (24000 < x) by simp [outP, h])
    clear h
    go_enter Try.func68, Try.ntmps68
    go_wp2
    go_ret
    exact ⟨ret_bool HE.out.symm, brefl _⟩
end Go.Proofs.Ytjmphmnimnbgkaa
