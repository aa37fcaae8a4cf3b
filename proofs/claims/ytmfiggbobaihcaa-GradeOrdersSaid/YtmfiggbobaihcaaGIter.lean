/- Ranges over functions: general; the store's grades. -/
import Derived.Test.YtmfiggbobaihcaaGSort
import Derived.Test.YtmfiggbobaihcaaGCost
import Derived.Carry
namespace Go.Proofs.Ytmfiggbobaihcaa
open Go.RowKit Go.Shelf
attribute [local go_sem] Oper.semAt_some

theorem calls_of_marks {P : Program} {f : FuncId} {fn : Func} {c : Code} {args : Array Value} {w : World} {R : Ending → World → Prop} (hf : P.funcs[f]? = some fn) (hb : fn.body = some c)
    (h : c.wp P (bodyPostM Fence.wide 9 P fn R) { tmps := args ++ Array.replicate (fn.ntmps - args.size) undef, defers := [] } w) : Calls P f args w R :=
  (callsIn_wide (n := 9)).1 (callsIn_of_wp_marks hf hb trivial (wpIn_wide.2 h))
theorem postM_ret {P : Program} {fn : Func} {R : Ending → World → Prop} {a : Act} {B : Nat} {W : World} {v : Value} (hm : Marks B W a.defers) (hr : ∀ W', (results fn a.tmps).run P W' = .ok v W') (hR : ∀ W', Kept B W W' → R (.returned v) W') : bodyPostM Fence.wide 9 P fn R .ret a W :=
  leavesM_marks _ _ _ hm hr hR
def KeepD (W0 W : World) : Prop := ∀ k : Nat, ∀ c, W0.heap[k]? = some (.deferred c) → W.heap[k]? = some (.deferred c)
theorem KeepD.refl (W : World) : KeepD W W := fun _ _ h => h
theorem KeepD.later {W0 W W' : World} (h : KeepD W0 W) (hb : Below W.heap.size W W') : KeepD W0 W' := fun k c hk => (hb.block k (Array.getElem?_eq_some_iff.1 (h k c hk)).1).trans (h k c hk)
/-- What is cells, in blocks that count, lies as it lay. -/
structure KpS (ok : Nat → Prop) (W W' : World) : Prop where
  size : W.heap.size ≤ W'.heap.size
  cells : ∀ (k : Nat) (c : Array Value) (e : TypeId) (f : Nat × Nat), ok k → W.heap[k]? = some (.cells c e f) → W'.heap[k]? = some (.cells c e f)
section
variable {ok : Nat → Prop} {A B C : World}
theorem KpS.refl (W : World) : KpS ok W W := ⟨Nat.le_refl _, fun _ _ _ _ _ h => h⟩
theorem KpS.trans (h : KpS ok A B) (k : KpS ok B C) : KpS ok A C := ⟨Nat.le_trans h.size k.size, fun i c e f ho hi => k.cells i c e f ho (h.cells i c e f ho hi)⟩
theorem KpS.of_below (h : Below A.heap.size A B) : KpS ok A B := ⟨h.size, fun i _ _ _ _ hi => (h.block i (Array.getElem?_eq_some_iff.1 hi).1).trans hi⟩
theorem KpS.of_kept {n : Nat} (h : Kept n A B) : KpS ok A B := ⟨h.size, fun i c e f _ hi => h.cells i c e f hi⟩
theorem KpS.blk (h : KpS ok A B) {b : Nat} {t : TypeId} {cs : Array Value} (ho : ok b) (hb : Blk A b t cs) : Blk B b t cs := h.cells b cs t (0, 0) ho hb
theorem KpS.cell (h : KpS ok A B) {p : Addr} {v : Value} (hp : ok p.block) (hv : A.cell? p = some v) : B.cell? p = some v := by
  unfold World.cell? at hv ⊢
  cases ho : A.heap[p.block]? with
  | none => rw [ho] at hv; cases hv
  | some o =>
    rw [ho] at hv
    cases o with
    | cells c e f => rw [h.cells _ c e f hp ho]; exact hv
    | _ => cases hv
theorem KpS.sl {α : Type} {k : Nat} {enc : α → List Value} {b : Nat} {P : Option Addr} {n c : Nat} {xs : List α} (h : KpS ok A B) (hb : ∀ i, i < b → ok i) (hs : Sl k enc A b P n c xs) : Sl k enc B b P n c xs :=
  ⟨hs.len, hs.cap, hs.big, fun hn => by
    obtain ⟨b, o, hA, hB, hc⟩ := hs.at_ hn
    exact ⟨b, o, hA, hB, fun i x hx j u hu => h.cell (hb _ hB) (hc i x hx j u hu)⟩⟩
theorem KpS.put (W : World) (l : Nat) (o o' : Obj) (hl : W.heap[l]? = some o) (hc : o.isCells = false) : KpS ok W (W.putObj l o') :=
  ⟨(grownBy_putObj' W l o').size, fun k c e f _ hk => (World.putObj_heap_other (by rintro rfl; rw [hl] at hk; cases hk; simp [Obj.isCells] at hc)).trans hk⟩
end
theorem Sl.wider {α : Type} {k : Nat} {enc : α → List Value} {w : World} {B B' : Nat} {A : Option Addr} {n c : Nat} {xs : List α} (h : Sl k enc w B A n c xs) (hB : B ≤ B') : Sl k enc w B' A n c xs :=
  ⟨h.len, h.cap, h.big, fun hn => by
    obtain ⟨b, o, hA, hb, hc⟩ := h.at_ hn
    exact ⟨b, o, hA, Nat.lt_of_lt_of_le hb hB, hc⟩⟩

theorem cell_lt {W : World} {p : Addr} {v : Value} (h : W.cell? p = some v) : p.block < W.heap.size := by
  unfold World.cell? at h
  cases ho : W.heap[p.block]? with
  | none => rw [ho] at h; cases h
  | some o => exact (Array.getElem?_eq_some_iff.1 ho).1
/-- From a grade to the best. -/
def downL : Nat → List Nat
  | 0 => [0]
  | g + 1 => (g + 1) :: downL g
abbrev Gd (nn : Nat) := { x : Nat // x < nn }
/-- What the iterator reads. -/
structure IRg (W : World) (B1 B2 T N : Nat) (SA : Option Addr) (sn sc : Nat) (PA : Option Addr) (pn pc : Nat) (OA : Option Addr) (on oc : Nat) (O : List Od) (M : Nat → Int) (i : Nat) : Prop where
  b1 : Blk W B1 74 #[.pointer (some ⟨T, 0, none⟩)]
  b2 : Blk W B2 3 #[.int .i64 (i : Int)]
  st : Blk W T 83 (stoC SA sn sc PA pn pc OA on oc M)
  sl : Sl 2 encO W N OA on oc O
theorem IRg.kp {ok : Nat → Prop} {W W' : World} {B1 B2 T N : Nat} {SA : Option Addr} {sn sc : Nat} {PA : Option Addr} {pn pc : Nat} {OA : Option Addr} {on oc : Nat} {O : List Od} {M : Nat → Int} {i : Nat} (h : IRg W B1 B2 T N SA sn sc PA pn pc OA on oc O M i) (k : KpS ok W W') (h1 : ok B1) (h2 : ok B2) (h3 : ok T) (h4 : ∀ j, j < N → ok j) : IRg W' B1 B2 T N SA sn sc PA pn pc OA on oc O M i :=
  ⟨k.blk h1 h.b1, k.blk h2 h.b2, k.blk h3 h.st, k.sl h4 h.sl⟩
theorem down_get : ∀ g k : Nat, k ≤ g → (downL g)[k]? = some (g - k)
  | 0, k, h => by obtain rfl : k = 0 := by omega
                  rfl
  | g + 1, 0, _ => rfl
  | g + 1, k + 1, h => by
    have := down_get g k (by omega)
    show (downL g)[k]? = _
    rw [this, show g + 1 - (k + 1) = g - k by omega]
theorem down_len : ∀ g : Nat, (downL g).length = g + 1
  | 0 => rfl
  | g + 1 => by show (downL g).length + 1 = _; rw [down_len g]
set_option maxRecDepth 100000 in
set_option maxHeartbeats 4000000 in
theorem grades1_in {nn : Nat} (ok : Nat → Prop) (n : Nat) (l B1 B2 T N : Nat) (SA : Option Addr) (sn sc : Nat) (PA : Option Addr) (pn pc : Nat) (OA : Option Addr) (on oc : Nat) (O : List Od) (M : Nat → Int) (i g : Nat) (x : Od) (hx : O[i]? = some x) (hg : x.g = (g : Int)) (h5 : g < 5) (hnn : g < nn)
    (J Jx : List (Gd nn) → World → Prop) (W : World)
    (hJ : AbidesFrom W.heap.size J)
    (hY : ∀ pre x W1, J pre W1 → pre.length < 1000 → YieldAt Fence.wide (n - 1) Try.prog l #[.int .i64 (x.1 : Int)] W1 fun e W' =>
      (e = .returned (.bool true) ∧ J (pre ++ [x]) W' ∧ KpS ok W1 W') ∨ (e = .returned (.bool false) ∧ Jx (pre ++ [x]) W'))
    (hR : IRg W B1 B2 T N SA sn sc PA pn pc OA on oc O M i) (h0 : J [] W) :
    CallsIn Fence.wide n Try.prog 90 #[.func (.yield l) #[] #[], .pointer (some ⟨B1, 0, none⟩), .pointer (some ⟨B2, 0, none⟩)] W fun e W' => (∃ v, e = .returned v) ∧
      ((∃ ys, (ys.map Subtype.val = downL g) ∧ J ys W') ∨ (∃ pre, True ∧ Jx pre W')) := by
  have m0 := hR.b1.cell 0
  have m1 := hR.b2.cell 0
  have m2 := hR.st.cell 2
  have ml := hR.b1.lt
  have mk := hR.b2.lt
  have mt := hR.st.lt
  have hin := (List.getElem?_eq_some_iff.1 hx).1
  have hin : i < on := by rw [← hR.sl.len]; exact hin
  obtain ⟨rb, ro, x', rfl, hrb, hx', g0, g1⟩ := hR.sl.ltO hin
  rw [hx] at hx'
  cases hx'
  rw [hg] at g0
  have hrw : rb < W.heap.size := cell_lt g0
  have j1 : (i : Int) < (on : Int) := by omega
  have j2 : (0 : Int) ≤ (i : Int) := by omega
  simp only [stoC, List.getElem?_toArray, List.getElem?_cons_zero, List.getElem?_cons_succ] at m0 m1 m2
  have HY := Lib.hid hY
  have HJ := Lib.hid hJ
  have H0 := Lib.hid h0
  clear hY hR hJ h0 hx hg g1
  refine callsIn_of_wp Try.func90 rfl trivial ?_ rfl
  simp only [Try.ntmps90, List.size_toArray, List.length_cons, List.length_nil, Nat.reduceAdd, Nat.reduceSub, Array.replicate_succ, Array.replicate_zero, List.push_toArray, List.append_toArray, List.nil_append, List.cons_append]
  gi_wp2_with fail
  refine dagIn 10 (lets_wide n _) (by kernel_rfl) (by kernel_rfl) (.is ?_ :: .is ?_ :: .is ?_ :: .is ?_ :: .is ?_ :: .is ?_ :: .is ?_ :: .is ?_ :: .is ?_ :: .is ?_ :: []) rfl ?st2 ?ob2
  case st2 => simp [Spec.ok]
  case ob2 =>
    intro env W' hG
    obtain ⟨hc, hf⟩ := bcell hG
    repeat (refine obls_is ?_ ?_; unfold doesAt; go_simp; (try go_bits); (first | (refine ⟨brefl _, ?_⟩; rfl) | rfl); intro K hK; go_simp; refine hK _ ?_; clear hK K)
    refine obls_nil (fun _ => ?_)
    have HJ0 := Lib.hid (HJ.out _ _ _ none H0.out (grown_none hG) (fun r e => by cases e))
    have HK0 := Lib.hid (KpS.of_below (ok := ok) hG)
    clear hc hf hG m0 m1 m2 ml mk mt g0 j1 j2 H0 hrb hin hrw
    gi_wp2_with fail
    gi_loopw [4] (fun v wr => ∃ (k : Nat) (t : Int) (pre : List (Gd nn)), k ≤ g + 1 ∧ v = .int .i64 t ∧ Hid (t = (g : Int) - (k : Int)) ∧ Hid (J pre wr) ∧ Hid (KpS ok W wr) ∧ Hid (pre.map Subtype.val = (downL g).take k))
      (fun v _ => (intOf v + 1).toNat)
    case atStart => exact ⟨0, _, [], Nat.zero_le _, rfl, Lib.hid (by omega), HJ0, HK0, Lib.hid rfl⟩
    case round =>
      obtain ⟨k, t, pre, hk, rfl, Ht, HJs, Hkp, Hpre⟩ := hrel
      by_cases hlt : k ≤ g
      · obtain ⟨e, he⟩ : ∃ e : Nat, t = (e : Int) := ⟨g - k, by have := Ht.out; omega⟩
        have He := Lib.hid (show e = g - k by have := Ht.out; omega)
        have e5 : e < nn := by have := He.out; omega
        have e6 : e < 5 := by have := He.out; omega
        subst he
        have k1 : (0 : Int) ≤ (e : Int) := by omega
        have k2 : IntKind.i64.wrap ((e : Int) - 1) = (e : Int) - 1 := by rw [IntKind.wrap_i64]; omega
        have hpl : pre.length = k := by
          have := congrArg List.length Hpre.out
          rw [List.length_map, List.length_take, down_len] at this
          omega
        obtain ⟨fn', tmps', assign', body', hy, hR⟩ := HY.out pre ⟨e, e5⟩ _ HJs.out (by omega)
        have Hlen := Lib.hid hpl
        dsimp only at hy
        have HR3 := Lib.hid hR
        clear hR hpl
        gi_wp2
        refine ⟨fun h => (by simp [Fence.wide] at h), ?_⟩
        refine HR3.out.mono ?_
        rintro e' W3 (⟨rfl, hJ4, hk4⟩ | ⟨rfl, hJx4⟩)
        · have HJ4 := Lib.hid hJ4
          have Hk4 := Lib.hid hk4
          clear hJ4 hk4
          gi_wp2
          go_roundw
          case rel => exact ⟨k + 1, _, _, by omega, rfl, Lib.hid (by have := He.out; omega), HJ4, Lib.hid (Hkp.out.trans Hk4.out), Lib.hid (by rw [List.map_append, Hpre.out, List.take_add_one, down_get g k hlt, ← He.out]; rfl)⟩
          case measure => simp [intOf]
        · have HJx4 := Lib.hid hJx4
          clear hJx4
          gi_wp2
          refine bodyPost_ret (results_none rfl _ _ _) rfl ?_
          exact ⟨⟨_, rfl⟩, .inr ⟨_, trivial, HJx4.out⟩⟩
      · have k1 : ¬ (0 : Int) ≤ t := by have := Ht.out; omega
        have Hfin := Lib.hid (show pre.map Subtype.val = downL g by rw [Hpre.out, List.take_of_length_le]; rw [down_len]; omega)
        gi_wp2
        go_end0
        exact ⟨⟨_, rfl⟩, .inl ⟨_, Hfin.out, HJs.out⟩⟩
theorem grades_stops {nn : Nat} (ok : Nat → Prop) (n B1 B2 T N : Nat) (SA : Option Addr) (sn sc : Nat) (PA : Option Addr) (pn pc : Nat) (OA : Option Addr) (on oc : Nat) (O : List Od) (M : Nat → Int) (i g : Nat) (x : Od) (hx : O[i]? = some x) (hg : x.g = (g : Int)) (h5 : g < 5) (hnn : g < nn)
    (o1 : ok B1) (o2 : ok B2) (o3 : ok T) (o4 : ∀ j, j < N → ok j) (w : World) (hR : IRg w B1 B2 T N SA sn sc PA pn pc OA on oc O M i) :
    SeqStopsK Fence.wide n Try.prog 90 #[.pointer (some ⟨B1, 0, none⟩), .pointer (some ⟨B2, 0, none⟩)] (fun x : Gd nn => #[.int .i64 (x.1 : Int)]) (KpS ok)
      (fun ys => ys.map Subtype.val = downL g) (fun _ => True) 1000 w := fun l J Jx W hW hJ _ hY h0 =>
  grades1_in ok n l B1 B2 T N SA sn sc PA pn pc OA on oc O M i g x hx hg h5 hnn J Jx W hJ hY (hR.kp (KpS.of_below hW) o1 o2 o3 o4) h0
set_option maxHeartbeats 400000 in
theorem grades_any (T i : Nat) (w : World) :
    Calls Try.prog 73 #[.pointer (some ⟨T, 0, none⟩), .int .i64 (i : Int)] w fun e w' =>
      e = .returned (.func (.func 90) #[] #[.pointer (some ⟨w.heap.size, 0, none⟩), .pointer (some ⟨w.heap.size + 1, 0, none⟩)]) ∧ (w.alloc (.cells #[.pointer (some ⟨T, 0, none⟩)] 74)).alloc (.cells #[.int .i64 (i : Int)] 3) = w' := by
  go_enter Try.func73, Try.ntmps73
  go_wp2
  go_ret
  exact ⟨rfl, rfl⟩
/-- The round's frame, when the grade has been assigned. -/
def setAct (a : Act) (p d : Tmp) (g : Nat) : Act := { tmps := (a.tmps.setIfInBounds p (.int .i64 (g : Int))).setIfInBounds d (.int .i64 (g : Int)), defers := [] }
/-- A range over a store's grades: the round writes the number into a slot of its own. -/
theorem range_grades {nn : Nat} {ok : Nat → Prop} {B1 B2 T N : Nat} {SA : Option Addr} {sn sc : Nat} {PA : Option Addr} {pn pc : Nat} {OA : Option Addr} {on oc : Nat} {O : List Od} {M : Nat → Int} {i gr : Nat} {x : Od} {g : Operand} {p d : Tmp} {assign body : Code} {Q : Exit → Act → World → Prop} {a : Act} {w : World}
    (hg : a.eval g = .func (.func 90) #[] #[.pointer (some ⟨B1, 0, none⟩), .pointer (some ⟨B2, 0, none⟩)]) (hx : O[i]? = some x) (hgr : x.g = (gr : Int)) (h5 : gr < 5) (hnn : gr < nn)
    (o1 : ok B1) (o2 : ok B2) (o3 : ok T) (o4 : ∀ j, j < N → ok j) (hR : IRg w B1 B2 T N SA sn sc PA pn pc OA on oc O M i)
    (I : List (Gd nn) → World → Prop) (Ix : Code → List (Gd nn) → World → Prop) (hI : ∀ pre W W', Kept w.heap.size W W' → I pre W → I pre W') (hIx : ∀ c pre W W', Kept w.heap.size W W' → Ix c pre W → Ix c pre W') (h0 : I [] w)
    (hassign : ∀ (l : Nat) (x : Gd nn) (W : World) (K : Act → World → Prop), K (setAct a p d x.1) W →
      assign.wpIn (Fence.wide.inRound l) 7 Try.prog (Exit.then K (fun _ _ _ => False)) { tmps := a.tmps.setIfInBounds p (.int .i64 (x.1 : Int)), defers := [] } W)
    (hbody : ∀ (l : Nat) (pre : List (Gd nn)) (x : Gd nn) (W : World), w.heap.size ≤ W.heap.size → I pre W → pre.length < 1000 →
      body.wpIn (Fence.wide.inRound l) 7 Try.prog (ownPostG w.heap.size (KpS ok) I Ix (pre ++ [x]) W) (setAct a p d x.1) W)
    (hdone : ∀ (D : Nat) (W : World) (ys : List (Gd nn)), w.heap.size ≤ D → ys.map Subtype.val = downL gr → I ys W → W.heap[D]? = some (.deferred (some [])) → Q .normal { a with defers := mark D :: a.defers } W)
    (hstop : ∀ (D : Nat) (c : Code) (pre : List (Gd nn)) (W : World), w.heap.size ≤ D → Ix c pre W → W.heap[D]? = some (.deferred (some [])) → c.wp Try.prog Q { a with defers := mark D :: a.defers } W) :
    (Code.rangeFunc g #[p] assign body).wp Try.prog Q a w := by
  refine (wpIn_wide (n := 9)).1 ?_
  refine wpIn_rangeFunc_ownH (F := Fence.wide) rfl (by omega) hg trivial (enters_of Try.func90 (by kernel_rfl) rfl)
    (grades_stops ok 8 B1 B2 T N SA sn sc PA pn pc OA on oc O M i gr x hx hgr h5 hnn o1 o2 o3 o4 w hR) (fun h k => h.trans k) (fun W l o o' _ ho hc _ => KpS.put W l o o' ho hc) (Below.refl _ _) (fun _ => rfl)
    (fun pre W => w.heap.size ≤ W.heap.size ∧ I pre W) Ix
    (fun s W W' row hs hg hr => ⟨Nat.le_trans hs.1 hg.size, hI s W W' (Kept.of_grown hg hr) hs.2⟩) (fun c s W W' row hs hg hr => hIx c s W W' (Kept.of_grown hg hr) hs) ⟨Nat.le_refl _, h0⟩
    (fun x a' W => a' = setAct a p d x.1)
    (fun x a' s W W' row hs hg hr => hs) ?_ ?_ ?_ ?_
  · intro l pre x W K hi hK
    have := hassign l x W K (hK _ _ (KeepsFrom.later (brefl W)) (KpS.refl W) hi rfl)
    have e2 : ∀ v : Value, Array.foldl (fun (t : Array Value) (x : Tmp × Value) => match x with | (p, v) => t.setIfInBounds p v) a.tmps ((#[p] : Array Tmp).zip #[v]) = a.tmps.setIfInBounds p v := fun v => by simp
    rw [e2]
    exact this
  · intro l pre x a' W _ _ hi hx hlen
    subst hx
    refine wpIn_mono (hbody l pre x W hi.1 hi.2 hlen) ?_
    intro e b W' hq
    cases e with
    | normal => exact ⟨hq.1, hq.2.1, Nat.le_trans hi.1 hq.2.1.size, hq.2.2⟩
    | _ => exact hq
  · intro D xs W hD hS hi hd
    exact hdone D W xs hD hS hi.2 hd
  · intro D c pre W hD _ hi hd
    exact wpIn_wide.2 (hstop D c pre W hD hi hd)
end Go.Proofs.Ytmfiggbobaihcaa
