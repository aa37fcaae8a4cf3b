/- A region that draws its order, one of whose operations writes into an old block of the call's own (an append), the others lay new blocks at most: one obligation an operation serves every order. -/
import Derived.Test.YtmfiggbobaihcaaDag
import Derived.Deep.OwnRows
namespace Go.Proofs.Ytmfiggbobaihcaa
open Go.RowKit Go.Shelf

/-- The worlds before the append, those that may be met at all, the append's step, and its place. -/
structure Ap where
  k : Nat
  P0 : World → Prop
  P1 : World → Prop
  A : World → World → Prop
  keep : Nat → Bool
def Ap.step (p : Ap) (i : Nat) (W W' : World) : Prop := if i = p.k then p.A W W' else Gr W W'
theorem Ap.step_ne {p : Ap} {i : Nat} (h : i ≠ p.k) : p.step i = fun W W' => Gr W W' := by funext W W'; unfold Ap.step; rw [if_neg h]
theorem Ap.step_eq {p : Ap} {i : Nat} (h : i = p.k) : p.step i = p.A := by funext W W'; unfold Ap.step; rw [if_pos h]
structure Ap.Good (p : Ap) : Prop where
  le : ∀ W, p.P0 W → p.P1 W
  g0 : ∀ W W', p.P0 W → Gr W W' → p.P0 W'
  g1 : ∀ W W', p.P1 W → Gr W W' → p.P1 W'
  a1 : ∀ W W', p.P0 W → p.A W W' → p.P1 W'
def OblsA (p : Ap) (P : Program) (ops : Array Oper) (specs : List Spec) (env : Nat → Value) (W : World) : Nat → List Oper → List Spec → Act → Prop
  | i, o :: os, s :: ss, a =>
    ((∀ e ∈ o.after.toList, Region.binds .any e = true → (i = p.k ∨ e.on = p.k ∨ p.keep e.on = true) → looseOf specs env W e) → (i = p.k → p.P0 W) →
      if Region.wanted o (yielded ops a.tmps) then doesAt P o a W (fun v W' => p.step i W W' ∧ s.ok v W') else s.ok undef W) ∧
    OblsA p P ops specs env W (i + 1) os ss (a.put o.dst (s.val (env i)))
  | _, _, _, _ => True


/-- Operation i may be done before operation k: a closed set of operations has it, but not k. -/
def Before (ops : Array Oper) (k i : Nat) : Prop := ∃ Ls : Nat → Bool, Ls i = true ∧ Ls k = false ∧ ∀ (j : Nat) (oj : Oper), Ls j = true → ops[j]? = some oj → ∀ e ∈ oj.after, Region.binds .any e = true → Ls e.on = true
section
variable {p : Ap} {P : Program} {l : List Oper} {specs : List Spec} {a : Act} {env : Nat → Value}
theorem oblsA_at {ops : Array Oper} {W : World} : ∀ (k : Nat) (ol : List Oper) (sl : List Spec) (b : Act), OblsA p P ops specs env W k ol sl b → ∀ i o s, ol[i]? = some o → sl[i]? = some s →
    (∀ e ∈ o.after.toList, Region.binds .any e = true → (k + i = p.k ∨ e.on = p.k ∨ p.keep e.on = true) → looseOf specs env W e) → (k + i = p.k → p.P0 W) →
      if Region.wanted o (yielded ops (lexAct env k (ol.take i) (sl.take i) b).tmps) then doesAt P o (lexAct env k (ol.take i) (sl.take i) b) W (fun v W' => p.step (k + i) W W' ∧ s.ok v W') else s.ok undef W := by
  intro k ol
  induction ol generalizing k with
  | nil => intro sl b _ i o s h; simp at h
  | cons o' os ih =>
    intro sl b hO i o s ho hs hloose hp0
    cases sl with
    | nil => simp at hs
    | cons s' ss =>
      simp only [OblsA] at hO
      cases i with
      | zero =>
        simp at ho hs; subst ho; subst hs
        simpa [lexAct] using hO.1 hloose hp0
      | succ i =>
        simp only [List.take_succ_cons, lexAct]
        have e : k + 1 + i = k + (i + 1) := by omega
        have h := ih (k + 1) ss _ hO.2 i o s (by simpa using ho) (by simpa using hs) (by rw [e]; exact hloose) (by rw [e]; exact hp0)
        rw [e] at h
        exact h
end
section
variable {p : Ap} {F : Fence} {n : Nat} {P : Program} {ops : Array Oper} {l r : List Oper} {specs : List Spec} {a : Act} {Q : Exit → Act → World → Prop}
theorem wpAnyIn_dagA (hF : Lets F n P) (hops : ops = (l ++ r).toArray) (hr : r.length ≤ 1) (hB : dagOk l ops = true) (hlen : specs.length = l.length)
    (hp : p.Good) (hst : ∀ s ∈ specs, ∀ v W W', Gr W W' → s.ok v W → s.ok v W')
    (hgd : ∀ o, ops[p.k]? = some o → o.guard = none) (hst2 : ∀ (i : Nat) s, i ≠ p.k → p.keep i = true → Before ops p.k i → specs[i]? = some s → ∀ v W W', p.P0 W → p.A W W' → s.ok v W → s.ok v W')
    (hobl : ∀ env W, p.P1 W → OblsA p P ops specs env W 0 l specs a)
    (hend : ∀ env W, p.P1 W → (∀ (i : Nat) s, specs[i]? = some s → (i = p.k ∨ p.keep i = true) → s.ok (s.val (env i)) W) →
      if r = [] then Q .normal (lexAct env 0 l specs a) W else wpOpIn F n P ops Q l.length (fun a W => Q .normal a W) (lexAct env 0 l specs a) W) :
    ∀ (fuel : Nat) (listed : Array Bool) (a' : Act) (W : World) (env : Nat → Value), listed.size = ops.size → unl ops.size listed ≤ fuel → (r ≠ [] → listed.getD l.length true = false) → p.P1 W → (listed.getD p.k false = false → p.P0 W) →
      FrameIs l specs a (fun i => listed.getD i false = true) env a' → (∀ (i : Nat) s, listed.getD i false = true → specs[i]? = some s → (listed.getD p.k false = true → i = p.k ∨ p.keep i = true) → s.ok (s.val (env i)) W) →
      (∀ (i : Nat) o, listed.getD i false = true → ops[i]? = some o → ∀ e ∈ o.after, Region.binds .any e = true → listed.getD e.on false = true) →
      wpAnyIn F n P .any ops Q fuel listed a' W := by
  have hd := dag_distinct hops hB
  have hosz : ops.size = l.length + r.length := by rw [hops]; simp
  have hol : ∀ (i : Nat) (o : Oper), i < l.length → ops[i]? = some o → l[i]? = some o := by
    intro i o hi ho; rw [hops] at ho; simpa [List.getElem?_append_left hi] using ho
  have hlo : ∀ (i : Nat) (o : Oper), l[i]? = some o → ops[i]? = some o := by
    intro i o hi
    have hl : i < l.length := (List.getElem?_eq_some_iff.1 hi).1
    rw [hops]; simp [List.getElem?_append_left hl, hi]
  have hlex : ∀ (env : Nat → Value) (i : Nat), i ≤ l.length → FrameIs l specs a (· < i) env (lexAct env 0 (l.take i) (specs.take i) a) := by
    intro env i hi
    have h0 : FrameIs l specs a (· < 0) env a := ⟨rfl, rfl, fun _ _ => rfl, fun i _ _ _ hi => absurd hi (by omega)⟩
    have hti : (l.take i).length = i := by simp; omega
    have htl : (specs.take i).length = i := by simp; omega
    have := lex_frame (env := env) (specs := specs) (a := a) hd hlen 0 (l.take i) (specs.take i) a (by omega)
      (fun j hj => by rw [List.getElem?_take, if_pos (by omega)]; simp) (fun j hj => by rw [List.getElem?_take, if_pos (by omega)]; simp) (by omega) h0
    simpa [hti] using this
  have hfull : ∀ (env : Nat → Value) (listed : Array Bool) (a' : Act), FrameIs l specs a (fun i => listed.getD i false = true) env a' → (∀ i, i < l.length → listed.getD i false = true) → a' = lexAct env 0 l specs a := by
    intro env listed a' hf hall
    have h2 := hlex env l.length (Nat.le_refl _)
    rw [List.take_of_length_le (by omega), List.take_of_length_le (by omega)] at h2
    exact hf.eq hlen h2 (fun i hi => ⟨fun _ => hi, fun _ => hall i hi⟩)
  have htf : ∀ (listed : Array Bool) (i : Nat), listed.size = ops.size → i < ops.size → (listed.getD i true = true ↔ listed.getD i false = true) := by
    intro listed i h1 h2
    have h3 : i < listed.size := by omega
    simp [h3]
  have hdone : ∀ (env : Nat → Value) (listed : Array Bool) (a' : Act) (W : World), listed.size = ops.size → (r ≠ [] → listed.getD l.length true = false) → p.P1 W →
      FrameIs l specs a (fun i => listed.getD i false = true) env a' → (∀ (i : Nat) s, listed.getD i false = true → specs[i]? = some s → (listed.getD p.k false = true → i = p.k ∨ p.keep i = true) → s.ok (s.val (env i)) W) →
      (∀ i, i < ops.size → listed.getD i true = true) → Q .normal a' W := by
    intro env listed a' W hsz hlast hG hf hok hall
    have hre : r = [] := by
      by_cases e : r = []
      · exact e
      · have h1 := hlast e
        have h2 : 0 < r.length := List.length_pos_iff.2 e
        rw [hall l.length (by omega)] at h1; cases h1
    have hall' : ∀ i, i < l.length → listed.getD i false = true := fun i hi => (htf listed i hsz (by omega)).1 (hall i (by omega))
    rw [hfull env listed a' hf hall']
    have h3 := hend env W hG (fun i s hs hkp => hok i s (hall' i (by have := (List.getElem?_eq_some_iff.1 hs).1; omega)) hs (fun _ => hkp))
    rwa [if_pos hre] at h3
  intro fuel
  induction fuel with
  | zero =>
    intro listed a' W env hsz hun hlast hG hG0 hf hok hcl
    have hall : ∀ i, i < ops.size → listed.getD i true = true := by
      intro i hi
      cases hx : listed.getD i true with
      | true => rfl
      | false => have := unl_pos hi hx; omega
    exact ⟨ready_nil_of hall, hdone env listed a' W hsz hlast hG hf hok hall⟩
  | succ fuel ih =>
    intro listed a' W env hsz hun hlast hG hG0 hf hok hcl
    refine ⟨fun hnil => hdone env listed a' W hsz hlast hG hf hok (all_of_ready_nil hB hsz hnil), fun i hi => ?_⟩
    obtain ⟨hiu, o, ho, hdeps⟩ := mem_ready.1 hi
    have hio : i < ops.size := (Array.getElem?_eq_some_iff.1 ho).1
    obtain ⟨hsel, hdef, hback, hcf, hsink⟩ := dagOk_at hB ho
    have hil : i < listed.size := by omega
    have hiF : listed.getD i false = false := by
      cases hx : listed.getD i false with
      | false => rfl
      | true => rw [(htf listed i hsz hio).2 hx] at hiu; cases hiu
    have hset : ∀ j, (listed.setIfInBounds i true).getD j false = true ↔ (listed.getD j false = true ∨ j = i) := by
      intro j
      by_cases e : i = j
      · subst e; simp [hil]
      · rw [getD_set_ne false e]; constructor
        · exact fun h => .inl h
        · exact fun h => h.resolve_right (fun h' => e h'.symm)
    have hclose : ∀ (j : Nat) oj, (listed.setIfInBounds i true).getD j false = true → ops[j]? = some oj → ∀ e ∈ oj.after, Region.binds .any e = true → (listed.setIfInBounds i true).getD e.on false = true := by
      intro j oj hj hoj e he hb
      rw [hset] at hj ⊢
      rcases hj with hj | rfl
      · exact .inl (hcl j oj hj hoj e he hb)
      · rw [ho] at hoj; cases hoj; exact .inl (hdeps e he hb)
    by_cases hil2 : i < l.length
    · -- an ordinary operation
      have hlo' := hol i o hil2 ho
      obtain ⟨s, hs⟩ : ∃ s, specs[i]? = some s := ⟨_, List.getElem?_eq_getElem (by omega)⟩
      have hloose : ∀ e ∈ o.after.toList, Region.binds .any e = true → (i = p.k ∨ e.on = p.k ∨ p.keep e.on = true) → looseOf specs env W e := by
        intro e he hb hkp
        have h1 := hdeps e (by simpa using he) hb
        have h2 := hback e (by simpa using he) hb
        obtain ⟨s', hs'⟩ : ∃ s', specs[e.on]? = some s' := ⟨_, List.getElem?_eq_getElem (by omega)⟩
        have h3 := hok e.on s' h1 hs' (fun hlk => by
          rcases hkp with hk | hk | hk
          · rw [← hk, hiF] at hlk; cases hlk
          · exact .inl hk
          · exact .inr hk)
        unfold looseOf
        simp only [List.getD, hs', Option.getD_some]
        cases s' with
        | is c => trivial
        | like R => exact h3
      have hO := oblsA_at 0 l specs a (hobl env W hG) i o s hlo' hs (by rw [Nat.zero_add]; exact hloose) (fun e => hG0 (by rw [Nat.zero_add] at e; rw [← e]; exact hiF))
      rw [Nat.zero_add] at hO
      have hfl := hlex env i (by omega)
      have hag : ∀ t, t ∈ o.looksAt ops → a'.tmps[t]? = (lexAct env 0 (l.take i) (specs.take i) a).tmps[t]? := by
        intro t ht
        refine hf.agree hlen hfl t (fun j oj hoj hdst => ?_)
        by_cases e : j = i
        · subst e; simp [hiF]
        · obtain ⟨_, h2⟩ := hcf j oj t e hoj hdst
          obtain ⟨h3, h4⟩ := h2 ht
          constructor
          · intro hj
            by_cases hlt : j < i
            · exact hlt
            · obtain ⟨e', he', hb', hon⟩ := h4 hlt
              have := hcl j oj hj (hlo j oj hoj) e' he' hb'
              rw [hon, hiF] at this; cases this
          · intro hlt
            obtain ⟨e', he', hb', hon⟩ := h3 hlt
            have := hdeps e' he' hb'
            rwa [hon] at this
      have hev : ∀ x ∈ o.op.operands, a'.eval x = (lexAct env 0 (l.take i) (specs.take i) a).eval x := by
        intro x hx
        cases x with
        | tmp t =>
          have := hag t (List.mem_append_left _ (List.mem_filterMap.2 ⟨.tmp t, by simpa using hx, rfl⟩))
          simp [Act.eval, this]
        | _ => rfl
      have hex : execOp a'.eval o = execOp (lexAct env 0 (l.take i) (specs.take i) a).eval o := execOp_congr o hsel hev
      have hwant : Region.wanted o (yielded ops a'.tmps) = Region.wanted o (yielded ops (lexAct env 0 (l.take i) (specs.take i) a).tmps) := by
        unfold Region.wanted
        cases hg : o.guard with
        | none => rfl
        | some gw =>
          obtain ⟨g, want⟩ := gw
          have hy : yielded ops a'.tmps g = yielded ops (lexAct env 0 (l.take i) (specs.take i) a).tmps g := by
            unfold yielded
            cases ht : (ops[g]?).bind (·.dst) with
            | none => rfl
            | some t =>
              have := hag t (List.mem_append_right _ (by simp [hg, ht]))
              simp [this]
          simp only [hy]
      have hnext : ∀ v W', p.step i W W' → s.ok v W' → wpAnyIn F n P .any ops Q fuel (listed.setIfInBounds i true) (a'.put o.dst v) W' := by
        intro v W' hg hv
        have hL : ¬ (listed.getD i false = true) := by simp [hiF]
        have hf2 := hf.put hd hlo' hs hL (Spec.val_of_ok hv)
        have hG1 : p.P1 W' := by
          unfold Ap.step at hg
          by_cases e : i = p.k
          · rw [if_pos e] at hg
            exact hp.a1 W W' (hG0 (by rw [← e]; exact hiF)) hg
          · rw [if_neg e] at hg
            exact hp.g1 W W' hG hg
        refine ih _ _ _ (fun j => if j = i then v else env j) (by simpa using hsz) ?_ ?_ hG1 ?_ ?_ ?_ hclose
        · have := unl_set hio hiu; omega
        · intro hre
          have h1 := hlast hre
          rw [getD_set_ne true (by omega)]; exact h1
        · intro hk
          by_cases e : i = p.k
          · rw [(hset p.k).2 (.inr e.symm)] at hk; cases hk
          · unfold Ap.step at hg
            rw [if_neg e] at hg
            refine hp.g0 W W' (hG0 ?_) hg
            cases hx : listed.getD p.k false with
            | false => rfl
            | true => rw [(hset p.k).2 (.inl hx)] at hk; cases hk
        · refine ⟨hf2.defers, hf2.size, fun t ht => hf2.old t (fun j oj hj => ht j oj ((hset j).2 hj)), fun j oj sj t hj => hf2.new j oj sj t ((hset j).1 hj)⟩
        · intro j sj hj hsj hkp
          by_cases e : j = i
          · subst e
            rw [hs] at hsj; cases hsj
            simp only [if_true]
            rw [Spec.val_of_ok hv]; exact hv
          · simp only [e, if_false]
            have hj' := ((hset j).1 hj).resolve_right e
            unfold Ap.step at hg
            by_cases e2 : i = p.k
            · rw [if_pos e2] at hg
              have hkj : p.keep j = true := by
                rcases hkp ((hset p.k).2 (.inr e2.symm)) with h | h
                · exact absurd (h.trans e2.symm) e
                · exact h
              exact hst2 j sj (fun e3 => e (e3.trans e2.symm)) hkj ⟨fun x => listed.getD x false, hj', by rw [← e2]; exact hiF, fun x ox hx hox ex hex hbx => hcl x ox hx hox ex hex hbx⟩ hsj _ _ _ (hG0 (by rw [← e2]; exact hiF)) hg (hok j sj hj' hsj (fun hlk => by rw [← e2, hiF] at hlk; cases hlk))
            · rw [if_neg e2] at hg
              exact hst sj (List.mem_of_getElem? hsj) _ _ _ hg (hok j sj hj' hsj (fun hlk => hkp ((hset p.k).2 (.inl hlk))))
      have hskip : ¬ (Region.wanted o (yielded ops a'.tmps) = true) → p.step i W W := by
        intro hw
        unfold Ap.step
        by_cases e : i = p.k
        · exact absurd (by simp [Region.wanted, hgd o (by rw [← e]; exact ho)]) hw
        · rw [if_neg e]; exact brefl W
      unfold wpOpIn
      simp only [ho]
      rw [← hwant] at hO
      split
      · rename_i hw
        rw [if_pos hw] at hO
        refine wpIn_of_does (R := fun v W' => p.step i W W' ∧ s.ok v W') hF hdef ?_ (fun v W' hv => hnext v W' hv.1 hv.2)
        unfold doesAt at hO ⊢
        rwa [hex]
      · rename_i hw
        rw [if_neg hw] at hO
        exact ⟨fun f _ => hF.fn f, hnext undef W (hskip hw) hO⟩
    · -- the last one
      have hre : r ≠ [] := by intro e; rw [e] at hosz; simp at hosz; omega
      have hil3 : i = l.length := by omega
      have hall : ∀ j, j < l.length → listed.getD j false = true := by
        have key : ∀ (d j : Nat), j < l.length → l.length - j ≤ d → listed.getD j false = true := by
          intro d
          induction d with
          | zero => intro j hj hd; omega
          | succ d ihd =>
            intro j hj hdd
            have hoj : ops[j]? = some ops[j] := Array.getElem?_eq_getElem (by omega)
            obtain ⟨_, _, _, _, hsink⟩ := dagOk_at hB hoj
            rcases hsink with ⟨h1, _⟩ | h1 | ⟨k, ok, hok', e, he, hb, hon⟩
            · omega
            · have : 0 < r.length := List.length_pos_iff.2 hre
              omega
            · have hkb := (dagOk_at hB hok').2.2.1 e he hb
              by_cases hk : k = i
              · subst hk
                rw [ho] at hok'; cases hok'
                have := hdeps e he hb
                rwa [hon] at this
              · have hkl : k < ops.size := (Array.getElem?_eq_some_iff.1 hok').1
                have := hcl k ok (ihd k (by omega) (by omega)) hok' e he hb
                rwa [hon] at this
        exact fun j hj => key _ j hj (Nat.le_refl _)
      rw [hfull env listed a' hf hall]
      have h3 := hend env W hG (fun j s hs hkp => hok j s (hall j (by have := (List.getElem?_eq_some_iff.1 hs).1; omega)) hs (fun _ => hkp))
      rw [if_neg hre, ← hil3] at h3
      refine wpOpIn_mono (fun a2 W2 hq => ?_) h3
      have hall2 : ∀ j, j < ops.size → (listed.setIfInBounds i true).getD j true = true := by
        intro j hj
        by_cases e : i = j
        · subst e; simp [hil]
        · rw [getD_set_ne true e]; exact (htf listed j hsz hj).2 (hall j (by omega))
      have hrn := ready_nil_of hall2
      cases fuel with
      | zero => exact ⟨hrn, hq⟩
      | succ f => exact ⟨fun _ => hq, by rw [hrn]; simp⟩

/-- **The region.** -/
theorem wpIn_region_dagA {id : Nat} (hF : Lets F n P) (hm : P.follows .mixedOrders = true) (l r : List Oper) (hops : ops = (l ++ r).toArray) (hr : r.length ≤ 1) (hB : dagOk l ops = true) {a : Act} {w : World} (specs : List Spec) (hlen : specs.length = l.length)
    (hp : p.Good) (hw0 : ∀ W, Gr w W → p.P0 W) (hst : ∀ s ∈ specs, ∀ v W W', Gr W W' → s.ok v W → s.ok v W')
    (hgd : ∀ o, ops[p.k]? = some o → o.guard = none) (hst2 : ∀ (i : Nat) s, i ≠ p.k → p.keep i = true → Before ops p.k i → specs[i]? = some s → ∀ v W W', p.P0 W → p.A W W' → s.ok v W → s.ok v W')
    (hobl : ∀ env W, p.P1 W → OblsA p P ops specs env W 0 l specs a)
    (hend : ∀ env W, p.P1 W → (∀ (i : Nat) s, specs[i]? = some s → (i = p.k ∨ p.keep i = true) → s.ok (s.val (env i)) W) →
      if r = [] then Q .normal (lexAct env 0 l specs a) W else wpOpIn F n P ops Q l.length (fun a W => Q .normal a W) (lexAct env 0 l specs a) W) :
    (Code.region id ops true).wpIn F n P Q a w := by
  have hG0 : Gr w { w with drawn := w.drawn + 1 } := (brefl w).drew
  refine wpIn_region_any hm (wpAnyIn_dagA hF hops hr hB hlen hp hst hgd hst2 hobl hend ops.size _ a _ (fun _ => undef) (by simp) ?_ ?_ (hp.le _ (hw0 _ hG0)) (fun _ => hw0 _ hG0) ?_ ?_ ?_)
  · unfold unl
    exact Nat.le_trans (List.countP_le_length) (by simp)
  · intro hre
    have : 0 < r.length := List.length_pos_iff.2 hre
    have hsz : ops.size = l.length + r.length := by rw [hops]; simp
    have h2 : l.length < ops.size := by omega
    simp [h2]
  · refine ⟨rfl, rfl, fun _ _ => rfl, fun i o s t hi => (repl_no _ _ hi).elim⟩
  · intro i s hi; exact (repl_no _ _ hi).elim
  · intro i o hi; exact (repl_no _ _ hi).elim
end

/-- The obligations, one behind the other, and what is asked at the end, of the operations that are left. -/
def OblsKA (p : Ap) (P : Program) (ops : Array Oper) (specs : List Spec) (env : Nat → Value) (W : World) (E : List Oper → Act → Prop) : Nat → List Oper → List Spec → Act → Prop
  | i, o :: os, s :: ss, a =>
    ((∀ e ∈ o.after.toList, Region.binds .any e = true → (i = p.k ∨ e.on = p.k ∨ p.keep e.on = true) → looseOf specs env W e) → (i = p.k → p.P0 W) →
      if Region.wanted o (yielded ops a.tmps) then doesAt P o a W (fun v W' => p.step i W W' ∧ s.ok v W') else s.ok undef W) ∧
    OblsKA p P ops specs env W E (i + 1) os ss (a.put o.dst (s.val (env i)))
  | _, os, _, a => E os a

theorem obls_of_KA {p : Ap} {P : Program} {ops : Array Oper} {specs : List Spec} {env : Nat → Value} {W : World} {E : List Oper → Act → Prop} : ∀ (k : Nat) (ol : List Oper) (sl : List Spec) (b : Act), sl.length ≤ ol.length → OblsKA p P ops specs env W E k ol sl b →
    OblsA p P ops specs env W k (ol.take sl.length) sl b ∧ E (ol.drop sl.length) (lexAct env k (ol.take sl.length) sl b) := by
  intro k ol
  induction ol generalizing k with
  | nil => intro sl b hl h; cases sl with
    | nil => exact ⟨trivial, h⟩
    | cons => simp at hl
  | cons o os ih =>
    intro sl b hl h
    cases sl with
    | nil => exact ⟨trivial, h⟩
    | cons s ss =>
      obtain ⟨h1, h2⟩ := ih (k + 1) ss _ (by simpa using hl) h.2
      exact ⟨⟨h.1, h1⟩, h2⟩

/-- What is left behind the operations that have a value of their own. -/
def dagEndA (p : Ap) (P : Program) (Q : Exit → Act → World → Prop) (specs : List Spec) (env : Nat → Value) (W : World) (os : List Oper) (a : Act) : Prop :=
  (∀ (i : Nat) s, specs[i]? = some s → (i = p.k ∨ p.keep i = true) → s.ok (s.val (env i)) W) → match os with
    | [] => Q .normal a W
    | [o] => doesAt P o a W (fun v W' => Q .normal (a.put o.dst v) W')
    | _ => False

section
variable {p : Ap} {P : Program} {ops : Array Oper} {specs : List Spec} {env : Nat → Value} {W : World} {E : List Oper → Act → Prop} {i : Nat} {o : Oper} {os : List Oper} {ss : List Spec} {a : Act} {Q : Exit → Act → World → Prop}
/-- An operation whose value is known exactly. -/
theorem oblsA_is {v : Value} (hi : i ≠ p.k) (h : if Region.wanted o (yielded ops a.tmps) then doesAt P o a W (fun u W' => Gr W W' ∧ u = v) else undef = v)
    (hn : ∀ K : Act → Prop, (∀ b, OblsKA p P ops specs env W E (i + 1) os ss b → K b) → K (a.put o.dst v)) : OblsKA p P ops specs env W E i (o :: os) (.is v :: ss) a :=
  ⟨fun _ _ => by rw [Ap.step_ne hi]; exact h, hn _ fun _ h => h⟩
/-- The same, by what is known of the values that it waits for. -/
theorem oblsA_isL {v : Value} (hi : i ≠ p.k) (h : (∀ e ∈ o.after.toList, Region.binds .any e = true → (i = p.k ∨ e.on = p.k ∨ p.keep e.on = true) → looseOf specs env W e) → if Region.wanted o (yielded ops a.tmps) then doesAt P o a W (fun u W' => Gr W W' ∧ u = v) else undef = v)
    (hn : ∀ K : Act → Prop, (∀ b, OblsKA p P ops specs env W E (i + 1) os ss b → K b) → K (a.put o.dst v)) : OblsKA p P ops specs env W E i (o :: os) (.is v :: ss) a :=
  ⟨fun h0 _ => by rw [Ap.step_ne hi]; exact h h0, hn _ fun _ h => h⟩
/-- An operation whose value is known by a relation. -/
theorem oblsA_like {R : Value → World → Prop} (hi : i ≠ p.k) (h : (∀ e ∈ o.after.toList, Region.binds .any e = true → (i = p.k ∨ e.on = p.k ∨ p.keep e.on = true) → looseOf specs env W e) → if Region.wanted o (yielded ops a.tmps) then doesAt P o a W (fun u W' => Gr W W' ∧ R u W') else R undef W)
    (hn : ∀ K : Act → Prop, (∀ b, OblsKA p P ops specs env W E (i + 1) os ss b → K b) → K (a.put o.dst (env i))) : OblsKA p P ops specs env W E i (o :: os) (.like R :: ss) a :=
  ⟨fun h0 _ => by rw [Ap.step_ne hi]; exact h h0, hn _ fun _ h => h⟩
/-- The append. -/
theorem oblsA_app {R : Value → World → Prop} (hi : i = p.k) (h : (∀ e ∈ o.after.toList, Region.binds .any e = true → (i = p.k ∨ e.on = p.k ∨ p.keep e.on = true) → looseOf specs env W e) → p.P0 W → if Region.wanted o (yielded ops a.tmps) then doesAt P o a W (fun u W' => p.A W W' ∧ R u W') else R undef W)
    (hn : ∀ K : Act → Prop, (∀ b, OblsKA p P ops specs env W E (i + 1) os ss b → K b) → K (a.put o.dst (env i))) : OblsKA p P ops specs env W E i (o :: os) (.like R :: ss) a :=
  ⟨fun h0 h1 => by rw [Ap.step_eq hi]; exact h h0 (h1 hi), hn _ fun _ h => h⟩
/-- The end: no operation is left. -/
theorem oblsA_nil (h : (∀ (i : Nat) s, specs[i]? = some s → (i = p.k ∨ p.keep i = true) → s.ok (s.val (env i)) W) → Q .normal a W) : OblsKA p P ops specs env W (dagEndA p P Q specs env W) i [] [] a := h
/-- The end: one operation is left. -/
theorem oblsA_last (h : (∀ (i : Nat) s, specs[i]? = some s → (i = p.k ∨ p.keep i = true) → s.ok (s.val (env i)) W) → doesAt P o a W (fun v W' => Q .normal (a.put o.dst v) W')) : OblsKA p P ops specs env W (dagEndA p P Q specs env W) i [o] [] a := h
end

section
variable {p : Ap} {F : Fence} {k : Nat} {P : Program} {Q : Exit → Act → World → Prop} {a : Act} {w : World}
theorem dagAIn (n : Nat) {id : Nat} {m : List Oper} (hF : Lets F k P) (hm : P.follows .mixedOrders = true) (hB : dagFit n m = true) (specs : List Spec) (hlen : specs.length = n)
    (hp : p.Good) (hw0 : ∀ W, Gr w W → p.P0 W) (hst : ∀ s ∈ specs, ∀ v W W', Gr W W' → s.ok v W → s.ok v W')
    (hgd : ∀ o, m[p.k]? = some o → o.guard = none) (hst2 : ∀ (i : Nat) s, i ≠ p.k → p.keep i = true → Before m.toArray p.k i → specs[i]? = some s → ∀ v W W', p.P0 W → p.A W W' → s.ok v W → s.ok v W')
    (h : ∀ env W, p.P1 W → OblsKA p P m.toArray specs env W (dagEndA p P Q specs env W) 0 m specs a) :
    (Code.region id m.toArray true).wpIn F k P Q a w := by
  simp only [dagFit, Bool.and_eq_true, decide_eq_true_eq] at hB
  obtain ⟨⟨⟨h1, h2⟩, h3⟩, h4⟩ := hB
  have hl : (m.take n).length = n := by simp; omega
  refine wpIn_region_dagA hF hm (m.take n) (m.drop n) (by simp) (by simp; omega) h1 specs (by omega) hp hw0 hst (fun o ho => hgd o (by simpa using ho)) hst2 (fun env W hG => ?_) (fun env W hG hok => ?_)
  · have := (obls_of_KA 0 m specs a (by omega) (h env W hG)).1
    rwa [hlen] at this
  · have hx := (obls_of_KA 0 m specs a (by omega) (h env W hG)).2
    rw [hlen] at hx
    have hx := hx hok
    split
    · rename_i hnil
      rw [hnil] at hx
      exact hx
    · rename_i hne
      cases hd : m.drop n with
      | nil => exact absurd hd hne
      | cons o t =>
        cases t with
        | cons o' t' =>
          have h5 : (m.drop n).length ≤ 1 := by simp; omega
          rw [hd] at h5
          simp at h5
        | nil =>
          rw [hd] at hx h4
          have hg : o.guard = none := by simpa using h4
          have ho : m.toArray[(m.take n).length]? = some o := by
            rw [hl, List.getElem?_toArray]
            have : m[n]? = (m.drop n)[0]? := by simp
            rw [this, hd]; rfl
          unfold wpOpIn
          simp only [ho, Region.wanted, hg, if_true]
          exact wpIn_of_does hF (dagOk_at h1 ho).2.1 hx (fun v W' hv => hv)
theorem dagA (n : Nat) {id : Nat} {m : List Oper} (hm : P.follows .mixedOrders = true) (hB : dagFit n m = true) (specs : List Spec) (hlen : specs.length = n)
    (hp : p.Good) (hw0 : ∀ W, Gr w W → p.P0 W) (hst : ∀ s ∈ specs, ∀ v W W', Gr W W' → s.ok v W → s.ok v W')
    (hgd : ∀ o, m[p.k]? = some o → o.guard = none) (hst2 : ∀ (i : Nat) s, i ≠ p.k → p.keep i = true → Before m.toArray p.k i → specs[i]? = some s → ∀ v W W', p.P0 W → p.A W W' → s.ok v W → s.ok v W')
    (h : ∀ env W, p.P1 W → OblsKA p P m.toArray specs env W (dagEndA p P Q specs env W) 0 m specs a) :
    (Code.region id m.toArray true).wp P Q a w :=
  (wpIn_wide (n := 0)).1 (dagAIn n (lets_wide 0 P) hm hB specs hlen hp hw0 hst hgd hst2 h)
end

/-- What an append does. -/
theorem does_append {P : Program} {o : Oper} {a : Act} {W : World} {R : Value → World → Prop} (s x : Operand) (t : TypeId)
    (ho : o.op = .call { callee := .builtin .append, args := #[s, x], argTypes := #[t, t] }) {v u : Value} (hs : a.eval s = v) (hx : a.eval x = u)
    (hr : ∃ v' w', (Builtin.append_ #[t, t] o.type #[v, u]).run P W = .ok v' w' ∧ R v' w') : doesAt P o a W R := by
  obtain ⟨v', w', h1, h2⟩ := hr
  unfold doesAt execOp
  simp only [ho, resolve, invoke, builtin, Sem.run_bind, Sem.run_pure, Result.andThen_ok, List.map_toArray, List.map_cons, List.map_nil, hs, hx, h1]
  exact h2
theorem app_of_run {P : Program} {ops : Array Oper} {o : Oper} {a : Act} {W : World} {R : Value → World → Prop} {E : Prop} (hgd : o.guard = none) (s x : Operand) (t : TypeId)
    (ho : o.op = .call { callee := .builtin .append, args := #[s, x], argTypes := #[t, t] }) {v u : Value} (hs : a.eval s = v) (hx : a.eval x = u)
    (hr : ∃ v' w', (Builtin.append_ #[t, t] o.type #[v, u]).run P W = .ok v' w' ∧ R v' w') : if Region.wanted o (yielded ops a.tmps) = true then doesAt P o a W R else E := by
  rw [if_pos (by simp [Region.wanted, hgd])]
  exact does_append s x t ho hs hx hr
/-- An append in a region that keeps its order. -/
theorem wpList_append_run {P : Program} {ops : Array Oper} {rest : List Oper} {o : Oper} {a : Act} {Q : Exit → Act → World → Prop} {w : World} (hgd : o.guard = none) (s x : Operand) (t : TypeId)
    (ho : o.op = .call { callee := .builtin .append, args := #[s, x], argTypes := #[t, t] }) {v u : Value} (hs : a.eval s = v) (hx : a.eval x = u) {R : Value → World → Prop}
    (hr : ∃ v' w', (Builtin.append_ #[t, t] o.type #[v, u]).run P w = .ok v' w' ∧ R v' w') (h : ∀ v' w', R v' w' → wpList P ops Q rest (a.put o.dst v') w') : wpList P ops Q (o :: rest) a w := by
  refine wpList_plain hgd fun K hK => ?_
  obtain ⟨v', w', h1, h2⟩ := hr
  unfold Oper.wp execOp
  simp only [ho, resolve, invoke, builtin, Sem.run_bind, Sem.run_pure, Result.andThen_ok, List.map_toArray, List.map_cons, List.map_nil, hs, hx, h1]
  exact hK _ _ (h v' w' h2)
theorem own_none {W : World} {base g size : Nat} {e : TypeId} (hb : base ≤ g) (hg : W.heap[g]? = some (.cells #[] e (0, 0))) : W.ownsRow base e size (.slice (some ⟨g, 0, none⟩) 0 0) 0 [] :=
  ⟨by simp, .inr ⟨g, 0, #[], rfl, hb, hg, Nat.le_refl _, by simp [maxLen], by simp, by simp⟩⟩
theorem below_row {B : Nat} {w Wc W3 : World} {row : Option Nat} (hW : Below B w Wc) (hgr : Wc.grownBy W3 row) (hB : ∀ r, row = some r → B ≤ r) (hs : B ≤ Wc.heap.size) : Below B w W3 :=
  hW.trans ⟨hgr.os, hgr.tape, hgr.output, hgr.size, fun i hi => hgr.block i (by omega) (fun e => by have := hB i e.symm; omega)⟩
theorem sl_news {W : World} {B b o : Nat} {n c : Nat} {xs : List Int} (h : Sl 1 encI W B (some ⟨b, o, none⟩) n c xs) (hn : 0 < n) : ∀ j u, (xs.map (Value.int .i64))[j]? = some u → W.cell? ((⟨b, o, none⟩ : Addr).add j) = some u := by
  intro j u hu
  obtain ⟨b', o', hA, _, hc⟩ := h.at_ hn
  cases hA
  rw [List.getElem?_map] at hu
  cases hx : xs[j]? with
  | none => rw [hx] at hu; cases hu
  | some x =>
    rw [hx] at hu
    cases hu
    have := hc j x hx 0 _ rfl
    have hadd : (⟨b, o, none⟩ : Addr).add j = ⟨b, o + j, none⟩ := by unfold Addr.add; split <;> simp_all
    rw [hadd]
    simpa using this
/-- The usual append: to a row whose block is known. -/
def Ap.row (w : World) (k : Nat) (row : Option Nat) : Ap := ⟨k, fun W => Gr w W, fun W => w.grownBy W row, fun W W' => W.grownBy W' row, fun _ => true⟩
theorem grown_below {w W W' : World} {row : Option Nat} (h : w.grownBy W row) (hg : Gr W W') : w.grownBy W' row :=
  h.trans ⟨hg.os, hg.tape, hg.output, hg.size, fun k hk _ => hg.block k hk⟩
theorem Ap.row_good (w : World) (k : Nat) (row : Option Nat) : (Ap.row w k row).Good where
  le _ h := ⟨h.os, h.tape, h.output, h.size, fun k hk _ => h.block k hk⟩
  g0 _ _ h hg := Below.later h hg
  g1 _ _ h hg := grown_below h hg
  a1 _ _ h ha := (show w.grownBy _ row from ⟨h.os, h.tape, h.output, h.size, fun k hk _ => h.block k hk⟩).trans ha
/-- A region with an append to a row whose block is known. -/
theorem dagRow (n k : Nat) (row : Option Nat) {P : Program} {Q : Exit → Act → World → Prop} {a : Act} {w : World} {id : Nat} {m : List Oper} (hm : P.follows .mixedOrders = true) (hB : dagFit n m = true) (specs : List Spec) (hlen : specs.length = n)
    (hst : ∀ s ∈ specs, ∀ v W W', Gr W W' → s.ok v W → s.ok v W')
    (hgd : ∀ o, m[k]? = some o → o.guard = none) (hst2 : ∀ s ∈ specs.eraseIdx k, ∀ v W W', Gr w W ∧ W.grownBy W' row → s.ok v W → s.ok v W')
    (h : ∀ env W, w.grownBy W row → OblsKA (Ap.row w k row) P m.toArray specs env W (dagEndA (Ap.row w k row) P Q specs env W) 0 m specs a) :
    (Code.region id m.toArray true).wp P Q a w :=
  dagA (p := Ap.row w k row) n hm hB specs hlen (Ap.row_good w k row) (fun _ h => h) hst hgd (fun i s hi _ _ hs v W W' h1 h2 => hst2 s (List.mem_eraseIdx_iff_getElem?.2 ⟨i, hi, hs⟩) v W W' ⟨h1, h2⟩) h
/-- Some row of elements T, of the call's own from block B on, is written. -/
def GrT (B : Nat) (T : TypeId) (V V' : World) : Prop := ∃ row, V.grownBy V' row ∧ ∀ r, row = some r → B ≤ r ∧ ∃ cs fr, V.heap[r]? = some (.cells cs T fr)
def Ap.fresh (w : World) (k : Nat) (T : TypeId) (keep : Nat → Bool) : Ap := ⟨k, fun W => Gr w W, fun W => Gr w W, GrT w.heap.size T, keep⟩
theorem Ap.fresh_good (w : World) (k : Nat) (T : TypeId) (keep : Nat → Bool) : (Ap.fresh w k T keep).Good where
  le _ h := h
  g0 _ _ h hg := Below.later h hg
  g1 _ _ h hg := Below.later h hg
  a1 _ _ h ha := by
    obtain ⟨row, h1, h2⟩ := ha
    exact below_row h h1 (fun r hr => (h2 r hr).1) h.size
/-- The values that are kept are stable. -/
def StabK (T : World → World → Prop) (keep : Nat → Bool) : Nat → List Spec → Prop
  | _, [] => True
  | i, s :: l => (keep i = true → ∀ v W W', T W W' → s.ok v W → s.ok v W') ∧ StabK T keep (i + 1) l
theorem stabK_at {T : World → World → Prop} {keep : Nat → Bool} : ∀ (l : List Spec) (j : Nat), StabK T keep j l → ∀ (i : Nat) (s : Spec), keep (j + i) = true → l[i]? = some s → ∀ v W W', T W W' → s.ok v W → s.ok v W'
  | [], _, _, i, s, _, hs => by simp at hs
  | a :: l, j, h, 0, s, hk, hs => by
    simp at hs
    subst hs
    exact h.1 hk
  | a :: l, j, h, i + 1, s, hk, hs => stabK_at l (j + 1) h.2 i s (by rw [show j + 1 + i = j + (i + 1) by omega]; exact hk) (by simpa using hs)
/-- What the kernel checks: these operations wait for the append, or for one that does. -/
def lateOk (late : Nat → Bool) (k : Nat) (m : List Oper) : Bool := (List.range m.length).all fun i => !late i || (match m[i]? with | none => false | some o => o.after.any fun e => Region.binds .any e && (e.on == k || (late e.on && decide (e.on < i))))
theorem lateOk_at {late : Nat → Bool} {k : Nat} {m : List Oper} (h : lateOk late k m = true) : ∀ {i : Nat}, i < m.length → Before m.toArray k i → late i = false := by
  have key : ∀ (d i : Nat), i ≤ d → i < m.length → late i = true → ∀ Ls : Nat → Bool, Ls i = true → Ls k = false → (∀ (j : Nat) (oj : Oper), Ls j = true → m.toArray[j]? = some oj → ∀ e ∈ oj.after, Region.binds .any e = true → Ls e.on = true) → False := by
    intro d
    induction d with
    | zero =>
      intro i hd hi hl Ls h1 h2 h3
      have hx := List.all_eq_true.1 h i (List.mem_range.2 hi)
      rw [hl, List.getElem?_eq_getElem hi] at hx
      simp only [Bool.not_true, Bool.false_or] at hx
      obtain ⟨e, he, hb⟩ := Array.any_eq_true'.1 hx
      simp only [Bool.and_eq_true, Bool.or_eq_true, beq_iff_eq, decide_eq_true_eq] at hb
      have h4 := h3 i _ h1 (by rw [List.getElem?_toArray]; exact List.getElem?_eq_getElem hi) e he hb.1
      rcases hb.2 with h5 | h5
      · rw [h5, h2] at h4; cases h4
      · omega
    | succ d ih =>
      intro i hd hi hl Ls h1 h2 h3
      have hx := List.all_eq_true.1 h i (List.mem_range.2 hi)
      rw [hl, List.getElem?_eq_getElem hi] at hx
      simp only [Bool.not_true, Bool.false_or] at hx
      obtain ⟨e, he, hb⟩ := Array.any_eq_true'.1 hx
      simp only [Bool.and_eq_true, Bool.or_eq_true, beq_iff_eq, decide_eq_true_eq] at hb
      have h4 := h3 i _ h1 (by rw [List.getElem?_toArray]; exact List.getElem?_eq_getElem hi) e he hb.1
      rcases hb.2 with h5 | h5
      · rw [h5, h2] at h4; cases h4
      · exact ih e.on (by omega) (by omega) h5.1 Ls h4 h2 h3
  intro i hi ⟨Ls, h1, h2, h3⟩
  cases hl : late i with
  | false => rfl
  | true => exact (key i i (Nat.le_refl _) hi hl Ls h1 h2 h3).elim
/-- A region with an append to a row that was made in it. -/
theorem dagFresh (n k : Nat) (T : TypeId) (keep late : Nat → Bool) {P : Program} {Q : Exit → Act → World → Prop} {a : Act} {w : World} {id : Nat} {m : List Oper} (hm : P.follows .mixedOrders = true) (hB : dagFit n m = true) (specs : List Spec) (hlen : specs.length = n)
    (hst : ∀ s ∈ specs, ∀ v W W', Gr W W' → s.ok v W → s.ok v W')
    (hgd : ∀ o, m[k]? = some o → o.guard = none) (hlate : lateOk late k m = true) (hst2 : StabK (fun W W' => Gr w W ∧ GrT w.heap.size T W W') (fun i => keep i && !late i) 0 specs)
    (h : ∀ env W, Gr w W → OblsKA (Ap.fresh w k T keep) P m.toArray specs env W (dagEndA (Ap.fresh w k T keep) P Q specs env W) 0 m specs a) :
    (Code.region id m.toArray true).wp P Q a w :=
  dagA (p := Ap.fresh w k T keep) n hm hB specs hlen (Ap.fresh_good w k T keep) (fun _ h => h) hst hgd (fun i s _ hk hn hs v W W' h1 h2 => stabK_at specs 0 hst2 i s (by
    have hi : i < m.length := by
      simp only [dagFit, Bool.and_eq_true, decide_eq_true_eq] at hB
      have := (List.getElem?_eq_some_iff.1 hs).1
      omega
    rw [Nat.zero_add, lateOk_at hlate hi hn, show keep i = true from hk]
    rfl) hs v W W' ⟨h1, h2⟩) h
/-- A block of another type stays. -/
theorem grT_block {B : Nat} {T t : TypeId} {V V' : World} {b : Nat} {cs : Array Value} (h : GrT B T V V') (hb : V.heap[b]? = some (.cells cs t (0, 0))) (ht : t ≠ T) : V'.heap[b]? = some (.cells cs t (0, 0)) := by
  obtain ⟨row, h1, h2⟩ := h
  refine (h1.block b (Array.getElem?_eq_some_iff.1 hb).1 (fun e => ?_)).trans hb
  obtain ⟨_, cs', fr, h3⟩ := h2 b e.symm
  rw [hb] at h3
  cases h3
  exact ht rfl
theorem grT_of_own {B base n size : Nat} {T : TypeId} {V V' : World} {v : Value} {xs : List Value} (h : V.grownBy V' v.ownBlock) (ho : V.ownsRow base T size v n xs) (hB : B ≤ base) : GrT B T V V' := by
  refine ⟨v.ownBlock, h, fun r hr => ?_⟩
  rcases ho.2 with ⟨rfl, _⟩ | ⟨g, cap, cur, rfl, hb, hg, _⟩
  · cases hr
  · simp only [Value.ownBlock, Option.some.injEq] at hr
    subst hr
    exact ⟨by omega, cur, _, hg⟩
section
variable {T : World → World → Prop}
theorem stabT_nil : ∀ s ∈ ([] : List Spec), ∀ v W W', T W W' → s.ok v W → s.ok v W' := by simp
theorem stabT_is {c : Value} {l : List Spec} (h : ∀ s ∈ l, ∀ v W W', T W W' → s.ok v W → s.ok v W') : ∀ s ∈ Spec.is c :: l, ∀ v W W', T W W' → s.ok v W → s.ok v W' := by
  intro s hs
  rcases List.mem_cons.1 hs with rfl | hs
  · exact fun _ _ _ _ h => h
  · exact h s hs
theorem stabT_like {R : Value → World → Prop} {l : List Spec} (hR : ∀ v W W', T W W' → R v W → R v W') (h : ∀ s ∈ l, ∀ v W W', T W W' → s.ok v W → s.ok v W') : ∀ s ∈ Spec.like R :: l, ∀ v W W', T W W' → s.ok v W → s.ok v W' := by
  intro s hs
  rcases List.mem_cons.1 hs with rfl | hs
  · exact hR
  · exact h s hs
end
end Go.Proofs.Ytmfiggbobaihcaa
