/- What SteamMore needs: a list of ranges that is copied, and one that is changed. -/
import Derived.Test.YtbbdlebmagknmaaSMade
import Derived.Test.YtbbdlebmagknmaaSPlain3
import Derived.Test.YtbbdlebmagknmaaApp
namespace Go.Proofs.Ytbbdlebmagknmaa
open Go.RowKit Go.Shelf

/-- A guarded append in a region that keeps its order. -/
theorem wpList_append_runG {P : Program} {ops : Array Oper} {rest : List Oper} {o : Oper} {a : Act} {Q : Exit → Act → World → Prop} {w : World} (hgd : Region.wanted o (yielded ops a.tmps) = true) (s x : Operand) (t : TypeId)
    (ho : o.op = .call { callee := .builtin .append, args := #[s, x], argTypes := #[t, t] }) {v u : Value} (hs : a.eval s = v) (hx : a.eval x = u) {R : Value → World → Prop}
    (hr : ∃ v' w', (Builtin.append_ #[t, t] o.type #[v, u]).run P w = .ok v' w' ∧ R v' w') (h : ∀ v' w', R v' w' → wpList P ops Q rest (a.put o.dst v') w') : wpList P ops Q (o :: rest) a w := by
  refine wpList_step fun K hK => ?_
  rw [if_pos hgd]
  obtain ⟨v', w', h1, h2⟩ := hr
  unfold Oper.wp execOp
  simp only [ho, resolve, invoke, builtin, Sem.run_bind, Sem.run_pure, Result.andThen_ok, List.map_toArray, List.map_cons, List.map_nil, hs, hx, h1]
  exact hK _ _ (h v' w' h2)
/-- A row of ranges of the call's own from block B on. -/
def OwnRs (B : Nat) (xs : List Rg) (v : Value) (W : World) : Prop := W.ownsRow B 27 2 v xs.length (xs.flatMap encR)
theorem OwnRs.stab {B : Nat} (xs : List Rg) : ∀ v W W', Gr W W' → OwnRs B xs v W → OwnRs B xs v W' := fun _ _ _ hG h => own_later h hG
/-- A yard's value that holds such a row. -/
def OwnY (B : Nat) (L : Int) (xs : List Rg) (v : Value) (W : World) : Prop := ∃ u, v = .agg #[.int .i64 L, u] ∧ OwnRs B xs u W
theorem OwnY.stab {B : Nat} (L : Int) (xs : List Rg) : ∀ v W W', Gr W W' → OwnY B L xs v W → OwnY B L xs v W' := fun _ _ _ hG ⟨u, h1, h2⟩ => ⟨u, h1, own_later h2 hG⟩
/-- A new yard. -/
def NewY (B : Nat) (v : Value) (W : World) : Prop := ∃ g, v = .pointer (some ⟨g, 0, none⟩) ∧ B ≤ g ∧ Blk W g 24 #[.int .i64 0, .slice none 0 0]
theorem NewY.stab {B : Nat} : ∀ v W W', Gr W W' → NewY B v W → NewY B v W' := fun _ _ _ hG ⟨g, h1, h2, h3⟩ => ⟨g, h1, h2, h3.later hG⟩
theorem NewY.kept {B B' : Nat} {v : Value} {W W' : World} (h : NewY B v W) (hT : GrT B' 27 W W') : NewY B v W' := by
  obtain ⟨g, h1, h2, h3⟩ := h
  exact ⟨g, h1, h2, grT_block hT h3 (by decide)⟩
/-- All ranges of a slice are appended. -/
theorem run_app_rs {W : World} {base : Nat} (ty : TypeId) {v : Value} {xs : List Rg} (hown : W.ownsRow base 27 2 v xs.length (xs.flatMap encR)) {A : Option Addr} {n c : Nat} {ys : List Rg} (hs : Sl 2 encR W W.heap.size A n c ys) (hn0 : xs.length + n ≤ 1000000) (hb : base ≤ W.heap.size) :
    ∃ v' W', (Builtin.append_ #[22, 22] ty #[v, .slice A n c]).run Try.prog W = .ok v' W' ∧ (W.grownBy W' v.ownBlock ∧ OwnRs base (xs ++ ys) v' W') := by
  obtain ⟨i0, hi0, hz0, hz1, hz2⟩ := info_parts info_rg
  exact run_app_sl (k := 2) (enc := encR) (fun _ => rfl) (fun x u hu => by
    simp only [encR, List.mem_cons, List.not_mem_nil, or_false] at hu
    rcases hu with rfl | rfl <;> rfl) (by decide) 22 27 ty und_rgs hi0 hz0 hz1 hz2 rfl hown hs (by decide) hn0 hb
/-- A new yard that is stored. -/
theorem made_lw {w V : World} {B g : Nat} {L : Int} {xs : List Rg} {u : Value} (hb : Below w.heap.size w V) (hB : w.heap.size ≤ B) (hg : B ≤ g) (hn : Blk V g 24 #[.int .i64 0, .slice none 0 0]) (ho : OwnRs B xs u V) : ∃ A' c', u = .slice A' xs.length c' ∧ LW w ((V.setCell ⟨g, 0, none⟩ (.int .i64 L)).setCell ⟨g, 1, none⟩ u) g L A' xs.length c' xs := by
  have hne := hn.notRow ho (by decide)
  have ho2 : ((V.setCell ⟨g, 0, none⟩ (.int .i64 L)).setCell ⟨g, 1, none⟩ u).ownsRow B 27 2 u xs.length (xs.flatMap encR) := own_other (own_other ho _ hne _) _ hne _
  obtain ⟨A', c', hv, hsl⟩ := own_slG (k := 2) (enc := encR) (fun _ => rfl) ho2 rfl
  subst hv
  exact ⟨A', c', rfl, bset (bset hb (by show w.heap.size ≤ g; omega) _) (by show w.heap.size ≤ g; omega) _, (hn.set 0 _).set 1 _, hsl⟩
theorem made_own {V : World} {B g : Nat} {L : Int} {xs : List Rg} {u : Value} (hn : Blk V g 24 #[.int .i64 0, .slice none 0 0]) (ho : OwnRs B xs u V) : OwnRs B xs u ((V.setCell ⟨g, 0, none⟩ (.int .i64 L)).setCell ⟨g, 1, none⟩ u) := by
  have hne := hn.notRow ho (by decide)
  exact own_other (own_other ho _ hne _) _ hne _
theorem own_blk {W : World} {B : Nat} {xs : List Rg} {A : Option Addr} {n c : Nat} (h : OwnRs B xs (.slice A n c) W) (hn : 0 < xs.length) : ∃ gz cs, A = some ⟨gz, 0, none⟩ ∧ B ≤ gz ∧ Blk W gz 27 cs := by
  rcases h.2 with ⟨_, h0⟩ | ⟨gz, cap, cur, hv, hb, hg, _⟩
  · omega
  · simp only [Value.slice.injEq] at hv
    exact ⟨gz, cur, hv.1, hb, hg⟩
/-- One range of a row is stored. -/
theorem sl_set {V : World} {g n cap i : Nat} {rs : List Rg} {T : TypeId} {cs : Array Value} (z : Rg) (h : Sl 2 encR V V.heap.size (some ⟨g, 0, none⟩) n cap rs) (hb : Blk V g T cs) (hi : i < n) :
    Sl 2 encR ((V.setCell ⟨g, i * 2, none⟩ (.int .i64 z.lo)).setCell ⟨g, i * 2 + 1, none⟩ (.int .i64 z.hi)) ((V.setCell ⟨g, i * 2, none⟩ (.int .i64 z.lo)).setCell ⟨g, i * 2 + 1, none⟩ (.int .i64 z.hi)).heap.size (some ⟨g, 0, none⟩) n cap (rs.set i z) := by
  refine ⟨by rw [List.length_set]; exact h.len, h.cap, h.big, fun hn => ?_⟩
  obtain ⟨b, o, hA, hB, hc⟩ := h.at_ hn
  cases hA
  have hb2 := (hb.set (i * 2) (.int .i64 z.lo)).set (i * 2 + 1) (.int .i64 z.hi)
  refine ⟨g, 0, rfl, hb2.lt, fun j x hx r u hu => ?_⟩
  have hl := h.len
  rw [hb2.cell]
  obtain ⟨x0, hx0⟩ : ∃ x0, rs[j]? = some x0 := ⟨_, List.getElem?_eq_getElem (by have := (List.getElem?_eq_some_iff.1 hx).1; simpa using this)⟩
  have hcr : ∀ r u, (encR x0)[r]? = some u → cs[0 + j * 2 + r]? = some u := fun r u hu => by rw [← hb.cell]; exact hc j x0 hx0 r u hu
  have hr : r < 2 := by have := (List.getElem?_eq_some_iff.1 hu).1; simpa [encR] using this
  by_cases e : i = j
  · subst e
    rw [List.getElem?_set_self (by omega)] at hx
    cases hx
    have s0 := (Array.getElem?_eq_some_iff.1 (hcr 0 _ rfl)).1
    have s1 := (Array.getElem?_eq_some_iff.1 (hcr 1 _ rfl)).1
    match r, hr with
    | 0, _ =>
      rw [show 0 + i * 2 + 0 = i * 2 by omega, Array.getElem?_setIfInBounds_ne (by omega), Array.getElem?_setIfInBounds_self_of_lt (by omega)]
      simpa [encR] using hu
    | 1, _ =>
      rw [show 0 + i * 2 + 1 = i * 2 + 1 by omega, Array.getElem?_setIfInBounds_self_of_lt (by simp; omega)]
      simpa [encR] using hu
  · rw [List.getElem?_set_ne e, hx0] at hx
    cases hx
    rw [Array.getElem?_setIfInBounds_ne (by omega), Array.getElem?_setIfInBounds_ne (by omega)]
    exact hcr r u hu
end Go.Proofs.Ytbbdlebmagknmaa
