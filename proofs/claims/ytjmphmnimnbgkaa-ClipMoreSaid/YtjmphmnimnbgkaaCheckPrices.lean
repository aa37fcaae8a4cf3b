/- clip.CheckPrices: the law of leaving a sequence, and the walk. -/
import Derived.Test.YtjmphmnimnbgkaaCost
import Derived.Test.YtjmphmnimnbgkaaPath
import Derived.ArgAppend
namespace Go.Proofs.Ytjmphmnimnbgkaa
open Go.RowKit Go.Shelf

theorem leavesM_cells {P : Program} {F : Fence} {n : Nat} {fn : Func} {tmps : Array Value} {R : Ending → World → Prop} {B : Nat} : ∀ (ds : List Deferred) (W : World) (v : Value), Marks B W ds →
    (∀ W', Kept B W W' → (results fn tmps).run P W' = .ok v W') → (∀ W', Kept B W W' → R (.returned v) W') → LeavesInM F n P fn tmps R ds .returning W := by
  intro ds
  induction ds with
  | nil =>
    intro W v _ hr hR
    exact ⟨v, hr W (Kept.refl B W), hR W (Kept.refl B W)⟩
  | cons d ds ih =>
    intro W v hm hr hR
    obtain ⟨Ds, hds, hnd, hD⟩ := hm
    cases Ds with
    | nil => simp at hds
    | cons D Ds =>
      simp only [List.map_cons, List.cons.injEq] at hds
      obtain ⟨rfl, rfl⟩ := hds
      obtain ⟨hDB, hDh⟩ := hD D (by simp)
      refine ⟨by simp, .inl ⟨D, W.putObj D (.deferred none), rfl, run_takeDeferred hDh, ?_⟩⟩
      have hk : Kept B W (W.putObj D (.deferred none)) := Kept.of_grown (grownBy_putObj' W D _) (fun r e => by cases e; exact ⟨hDB, _, hDh, rfl⟩)
      refine ih _ v ⟨Ds, rfl, (List.nodup_cons.1 hnd).2, fun E hE => ⟨(hD E (by simp [hE])).1, ?_⟩⟩ (fun W' hk' => hr W' (hk.trans hk')) (fun W' hk' => hR W' (hk.trans hk'))
      have hne : E ≠ D := fun e => (List.nodup_cons.1 hnd).1 (e ▸ hE)
      rw [World.putObj_heap_other hne]
      exact (hD E (by simp [hE])).2
theorem postM_cells {P : Program} {fn : Func} {R : Ending → World → Prop} {a : Act} {B : Nat} {W : World} {v : Value} (hm : Marks B W a.defers) (hr : ∀ W', Kept B W W' → (results fn a.tmps).run P W' = .ok v W') (hR : ∀ W', Kept B W W' → R (.returned v) W') : bodyPostM Fence.wide 9 P fn R .ret a W :=
  leavesM_cells _ _ _ hm hr hR

theorem doesAt_append {P : Program} {o : Oper} {a : Act} {W : World} {R : Value → World → Prop} (s x : Operand) (t tn : TypeId)
    (ho : o.op = .call { callee := .builtin .append, args := #[s, x], argTypes := #[t, tn] }) (vs vx : Value) (hs : a.eval s = vs) (hx : a.eval x = vx)
    (v' : Value) (w' : World) (hr : (Builtin.append_ #[t, tn] o.type #[vs, vx]).run P W = .ok v' w') (h : R v' w') : doesAt P o a W R := by
  unfold doesAt execOp
  simp only [ho, resolve, invoke, builtin, Sem.run_bind, Sem.run_pure, Result.andThen_ok, List.map_toArray, List.map_cons, List.map_nil, hs, hx, hr]
  exact h

/-- Two results in cells. -/
theorem results_cells2 {P : Program} {fn : Func} {p q : Tmp} {tp tq : TypeId} (h : fn.results = #[.cell p tp, .cell q tq]) (tmps : Array Value) (w : World) (a b : Nat) (x y : Int) (kx ky : IntKind) (hp : tmps.getD p undef = .pointer (some ⟨a, 0, none⟩)) (hq : tmps.getD q undef = .pointer (some ⟨b, 0, none⟩))
    (l1 : (loadVar tp ⟨a, 0, none⟩).run P w = .ok (.int kx x) w) (l2 : (loadVar tq ⟨b, 0, none⟩).run P w = .ok (.int ky y) w) :
    (results fn tmps).run P w = .ok (.tuple #[.int kx x, .int ky y]) w := by
  rw [Array.getD_eq_getD_getElem?] at hp hq
  simp [results, h, hp, hq, l1, l2, asAddr]

set_option maxHeartbeats 400000 in
theorem outP_any (x : Int) (w : World) : Calls Try.prog 68 (#[.int .i64 x] ++ #[]) w fun e w' => e = .returned (.bool (outP x)) ∧ Below w.heap.size w w' := by
  by_cases h : x < 0
  · have h1 : decide (x < 0) = true := by simpa using h
    have HE := Lib.hid (show outP x = true by simp [outP, h])
    clear h
    go_enter Try.func68, Try.ntmps68
    go_wp2
    go_ret
    exact ⟨ret_bool HE.out.symm, brefl _⟩
  · have h1 : decide (x < 0) = false := by simpa using h
    have HE := Lib.hid (show outP x = decide (24000 < x) by simp [outP, h])
    clear h
    go_enter Try.func68, Try.ntmps68
    go_wp2
    go_ret
    exact ⟨ret_bool HE.out.symm, brefl _⟩
attribute [local go_sem] Oper.semAt_some

theorem load_long (a : Addr) (W : World) (x : Int) (h : W.cell? a = some (.int .i64 x)) : (loadVar 2 a).run Try.prog W = .ok (.int .i64 x) W := by
  go_simp
theorem load_err (a : Addr) (W : World) (x : Int) (h : W.cell? a = some (.int .i64 x)) : (loadVar 29 a).run Try.prog W = .ok (.int .i64 x) W := by
  go_simp

/-- Two results' cells, in blocks N + 2 and N + 3. -/
structure RC (tp tq : TypeId) (w W : World) (x e : Int) : Prop where
  bel : Below w.heap.size w W
  b2 : Blk W (w.heap.size + 1 + 1) tp #[.int .i64 x]
  b3 : Blk W (w.heap.size + 1 + 1 + 1) tq #[.int .i64 e]
section
variable {tp tq : TypeId} {w W W' : World} {x e : Int}
theorem RC.later (h : RC tp tq w W x e) (hb : Below W.heap.size W W') : RC tp tq w W' x e := ⟨Below.later h.bel hb, h.b2.later hb, h.b3.later hb⟩
theorem RC.kept {B : Nat} (h : RC tp tq w W x e) (hk : Kept B W W') (hB : w.heap.size ≤ B) : RC tp tq w W' x e :=
  ⟨h.bel.trans ⟨hk.os, hk.tape, hk.output, hk.size, fun i hi => hk.low i (by omega) (by have := h.bel.size; omega)⟩, h.b2.kept hk, h.b3.kept hk⟩
theorem RC.setX (h : RC tp tq w W x e) (y : Int) : RC tp tq w (W.setCell ⟨w.heap.size + 1 + 1, 0, none⟩ (.int .i64 y)) y e :=
  ⟨h.bel.setCell (by show w.heap.size ≤ w.heap.size + 1 + 1; omega) _, h.b2.set 0 _, h.b3.other (by show w.heap.size + 1 + 1 ≠ _; omega) _⟩
theorem RC.setE (h : RC tp tq w W x e) (y : Int) : RC tp tq w (W.setCell ⟨w.heap.size + 1 + 1 + 1, 0, none⟩ (.int .i64 y)) x y :=
  ⟨h.bel.setCell (by show w.heap.size ≤ w.heap.size + 1 + 1 + 1; omega) _, h.b2.other (by show w.heap.size + 1 + 1 + 1 ≠ _; omega) _, h.b3.set 0 _⟩
theorem RC.cells (h : RC tp tq w W x e) : W.cell? ⟨w.heap.size + 1 + 1, 0, none⟩ = some (.int .i64 x) ∧ W.cell? ⟨w.heap.size + 1 + 1 + 1, 0, none⟩ = some (.int .i64 e) ∧ W.frozen? ⟨w.heap.size + 1 + 1, 0, none⟩ = false ∧ W.frozen? ⟨w.heap.size + 1 + 1 + 1, 0, none⟩ = false ∧ w.heap.size + 1 + 1 + 1 < W.heap.size :=
  ⟨h.b2.cell 0, h.b3.cell 0, h.b2.frozen 0, h.b3.frozen 0, h.b3.lt⟩
end
theorem RC.new (tp tq t0 t1 : TypeId) (w : World) (c0 c1 : Array Value) : RC tp tq w ((((w.alloc (.cells c0 t0)).alloc (.cells c1 t1)).alloc (.cells #[.int .i64 0] tp)).alloc (.cells #[.int .i64 0] tq)) 0 0 := by
  refine ⟨balloc (balloc (balloc (balloc (brefl w) _) _) _) _, ?_, ?_⟩
  · have h5 := (Blk.new ((w.alloc (.cells c0 t0)).alloc (.cells c1 t1)) tp #[.int .i64 0]).alloc (.cells #[.int .i64 0] tq)
    rw [World.size_alloc, World.size_alloc] at h5
    exact h5
  · have h5 := Blk.new (((w.alloc (.cells c0 t0)).alloc (.cells c1 t1)).alloc (.cells #[.int .i64 0] tp)) tq #[.int .i64 0]
    rw [World.size_alloc, World.size_alloc, World.size_alloc] at h5
    exact h5

set_option maxRecDepth 100000 in
set_option maxHeartbeats 1000000 in
theorem CheckPrices_bad (L : Int) (FA : Option Addr) (fn fc : Nat) (fs : List Int) (KA : Option Addr) (kc : Nat) (ks : List Kd) (PA : Option Addr) (pn pc : Nat) (w : World) (hfs : Sl 1 encI w w.heap.size FA fn fc fs) (hks : Sl 3 encK w w.heap.size KA ks.length kc ks) (hne : rkE L fs ks ≠ 0) :
    Calls Try.prog 31 #[.agg #[.int .i64 L, .slice FA fn fc], .slice KA ks.length kc, .slice PA pn pc] w fun e w' => e = .returned (.tuple #[.int .i64 0, .int .i64 (rkE L fs ks)]) ∧ Below w.heap.size w w' := by
  have ho := Lib.hid (fun W hb => open_bad L FA fn fc fs KA kc ks W (hfs.later (w' := W) hb) (hks.later hb) hne)
  generalize rkE L fs ks = re at *
  have hn2 : (re == 0) = false := by simpa using hne
  have hn3 : (re != 0) = true := by simpa using hne
  clear hne hfs hks
  refine calls_of_marks Try.func31 rfl ?_
  simp only [Try.ntmps31, List.size_toArray, List.length_cons, List.length_nil, Nat.reduceAdd, Nat.reduceSub, Array.replicate_succ, Array.replicate_zero, List.push_toArray, List.append_toArray, List.nil_append, List.cons_append]
  go_wp2_with fail
  refine (ho.out _ (balloc (balloc (balloc (balloc (brefl w) _) _) _) _)).mono ?_
  rintro e w1 ⟨rfl, hb1⟩
  have hR := (RC.new 2 29 24 25 w #[.int .i64 L, .slice FA fn fc] #[.slice KA ks.length kc]).later hb1
  obtain ⟨r0, r1, r2, r3, r4⟩ := hR.cells
  have r5 : w.heap.size + 1 + 1 < w1.heap.size := by omega
  have HR := Lib.hid (((hR.setX 0).setE re).later (balloc (brefl _) (.cells #[.pointer none] 76)))
  clear hb1 hR
  go_wp2_with fail
  refine postM_cells (B := w.heap.size) (v := .tuple #[.int .i64 0, .int .i64 re]) ?_ (fun W' hk => ?_) (fun W' hk => ?_)
  · exact Marks.nil _ _
  · obtain ⟨r0, r1, _⟩ := (HR.out.kept hk (Nat.le_refl _)).cells
    exact results_cells2 rfl _ W' _ _ 0 re .i64 .i64 rfl rfl (load_long _ _ _ r0) (load_err _ _ _ r1)
  · exact ⟨rfl, (HR.out.kept hk (Nat.le_refl _)).bel⟩
end Go.Proofs.Ytjmphmnimnbgkaa
