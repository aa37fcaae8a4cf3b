/- The walk of GradeOrders. -/
import Derived.Test.YtmfiggbobaihcaaDagA
import Derived.Maps.AppendAt
import Derived.Test.YtmfiggbobaihcaaGFilled
namespace Go.Proofs.Ytmfiggbobaihcaa
open Go.RowKit Go.Shelf

/-- Some operations are done: one more. -/
def ins (L : Nat → Bool) (i : Nat) : Nat → Bool := fun j => L j || j == i
def envS (env : Nat → Value) (i : Nat) (v : Value) : Nat → Value := fun j => if j = i then v else env j
/-- The operations that write, what holds of the worlds, what holds as long as one has not written, what one does, which values it leaves, and which operation waits for which. -/
structure Gp where
  wl : List Nat
  P1 : (Nat → Bool) → (Nat → Value) → World → Prop
  P0 : Nat → World → Prop
  A : Nat → (Nat → Value) → Value → World → World → Prop
  keep : Nat → Nat → Bool
  dep : Nat → Nat → Bool
  E : Nat → (Nat → Value) → Value → Prop
def Gp.step (p : Gp) (i : Nat) (env : Nat → Value) (v : Value) (W W' : World) : Prop := if i ∈ p.wl then p.A i env v W W' else Gr W W' ∧ p.E i env v
theorem Gp.step_ne {p : Gp} {i : Nat} (h : i ∉ p.wl) : p.step i = fun env v W W' => Gr W W' ∧ p.E i env v := by funext env v W W'; unfold Gp.step; rw [if_neg h]
theorem Gp.step_eq {p : Gp} {i : Nat} (h : i ∈ p.wl) : p.step i = p.A i := by funext env v W W'; unfold Gp.step; rw [if_pos h]
structure Gp.Good (p : Gp) : Prop where
  g1 : ∀ L env W W' i v, i ∉ p.wl → L i = false → (∀ j, p.dep i j = true → ins L i j = true) → p.P1 L env W → Gr W W' → p.E i env v → p.P1 (ins L i) (envS env i v) W'
  g0 : ∀ k W W', k ∈ p.wl → p.P0 k W → Gr W W' → p.P0 k W'
  a1 : ∀ L env W W' k v, k ∈ p.wl → L k = false → (∀ j, p.dep k j = true → ins L k j = true) → p.P1 L env W → p.P0 k W → p.A k env v W W' → p.P1 (ins L k) (envS env k v) W'
  a0 : ∀ L env W W' k j v, k ∈ p.wl → j ∈ p.wl → k ≠ j → L k = false → L j = false → p.P1 L env W → p.P0 k W → p.P0 j W → p.A k env v W W' → p.P0 j W'
/-- What is known of value j holds still when operation i comes. -/
def Gp.safe (p : Gp) (j i : Nat) : Bool := p.wl.all fun k => k == j || k == i || p.dep k i || p.keep k j
def Gp.safeE (p : Gp) (j : Nat) : Bool := p.wl.all fun k => k == j || p.dep j k || p.keep k j
def OblsG (p : Gp) (P : Program) (ops : Array Oper) (specs : List Spec) (env : Nat → Value) (W : World) : Nat → List Oper → List Spec → Act → Prop
  | i, o :: os, s :: ss, a =>
    ((∀ e ∈ o.after.toList, Region.binds .any e = true → p.safe e.on i = true → looseOf specs env W e) → (∀ k ∈ p.wl, (k = i ∨ p.dep k i = true) → p.P0 k W) →
      if Region.wanted o (yielded ops a.tmps) then doesAt P o a W (fun v W' => p.step i env v W W' ∧ s.ok v W') else s.ok undef W) ∧
    OblsG p P ops specs env W (i + 1) os ss (a.put o.dst (s.val (env i)))
  | _, _, _, _ => True

/-- Which operations wait for which: a bit for each. -/
def ancs (m : List Oper) : List Nat := m.foldl (fun acc o => acc ++ [o.after.foldl (fun b e => if Region.binds .any e then b ||| (1 <<< e.on) ||| acc.getD e.on 0 else b) 0]) []
def depB (A : List Nat) (k i : Nat) : Bool := decide (i < A.length) && (A.getD k 0).testBit i
def depOk (A : List Nat) (m : List Oper) : Bool := A.length == m.length && (List.range m.length).all fun k => match m[k]? with
  | none => false
  | some o => (List.range m.length).all fun i => !depB A k i || decide (i < k) && o.after.any fun e => Region.binds .any e && decide (e.on < k) && (e.on == i || depB A e.on i)
theorem depOk_lt {A : List Nat} {m : List Oper} (h : depOk A m = true) {k i : Nat} (hk : k < m.length) (hd : depB A k i = true) : i < k ∧ ∃ e ∈ (m[k]).after, Region.binds .any e = true ∧ e.on < k ∧ (e.on = i ∨ depB A e.on i = true) := by
  unfold depOk at h
  simp only [Bool.and_eq_true, beq_iff_eq] at h
  have hx := List.all_eq_true.1 h.2 k (List.mem_range.2 hk)
  rw [List.getElem?_eq_getElem hk] at hx
  have hi : i < m.length := by
    unfold depB at hd
    simp only [Bool.and_eq_true, decide_eq_true_eq] at hd
    omega
  have hy := List.all_eq_true.1 hx i (List.mem_range.2 hi)
  rw [hd] at hy
  simp only [Bool.not_true, Bool.false_or, Bool.and_eq_true, decide_eq_true_eq] at hy
  obtain ⟨e, he, hb⟩ := Array.any_eq_true'.1 hy.2
  simp only [Bool.and_eq_true, Bool.or_eq_true, beq_iff_eq, decide_eq_true_eq] at hb
  exact ⟨hy.1, e, he, hb.1.1, hb.1.2, hb.2⟩
theorem depOk_at {A : List Nat} {m : List Oper} (h : depOk A m = true) {Ls : Nat → Bool} (hc : ∀ (j : Nat) (oj : Oper), Ls j = true → m.toArray[j]? = some oj → ∀ e ∈ oj.after, Region.binds .any e = true → Ls e.on = true) :
    ∀ (d k i : Nat), k ≤ d → k < m.length → depB A k i = true → Ls k = true → Ls i = true := by
  intro d
  induction d with
  | zero =>
    intro k i hd hk hdp hL
    have := (depOk_lt h hk hdp).1
    omega
  | succ d ih =>
    intro k i hd hk hdp hL
    obtain ⟨_, e, he, hb, hlt, h5⟩ := depOk_lt h hk hdp
    have h4 := hc k _ hL (by rw [List.getElem?_toArray]; exact List.getElem?_eq_getElem hk) e he hb
    rcases h5 with h5 | h5
    · rw [h5] at h4; exact h4
    · exact ih e.on i (by omega) (by omega) h5 h4

section
variable {p : Gp} {P : Program} {l : List Oper} {specs : List Spec} {a : Act} {env : Nat → Value}
theorem oblsG_at {ops : Array Oper} {W : World} : ∀ (k : Nat) (ol : List Oper) (sl : List Spec) (b : Act), OblsG p P ops specs env W k ol sl b → ∀ i o s, ol[i]? = some o → sl[i]? = some s →
    (∀ e ∈ o.after.toList, Region.binds .any e = true → p.safe e.on (k + i) = true → looseOf specs env W e) → (∀ j ∈ p.wl, (j = k + i ∨ p.dep j (k + i) = true) → p.P0 j W) →
      if Region.wanted o (yielded ops (lexAct env k (ol.take i) (sl.take i) b).tmps) then doesAt P o (lexAct env k (ol.take i) (sl.take i) b) W (fun v W' => p.step (k + i) env v W W' ∧ s.ok v W') else s.ok undef W := by
  intro k ol
  induction ol generalizing k with
  | nil => intro sl b _ i o s h; simp at h
  | cons o' os ih =>
    intro sl b hO i o s ho hs hloose hp0
    cases sl with
    | nil => simp at hs
    | cons s' ss =>
      simp only [OblsG] at hO
      cases i with
      | zero =>
        simp at ho hs; subst ho; subst hs
        simpa [lexAct] using hO.1 hloose hp0
      | succ i =>
        simp only [List.take_succ_cons, lexAct]
        have e : k + 1 + i = k + (i + 1) := by omega
        have h := ih (k + 1) ss _ hO.2 i o s (by simpa using ho) (by simpa using hs) (by rw [e]; exact hloose) (by rw [e]; exact hp0)
        rw [e] at h
        exact h
end
section
variable {p : Gp} {F : Fence} {n : Nat} {P : Program} {ops : Array Oper} {l r : List Oper} {specs : List Spec} {a : Act} {Q : Exit → Act → World → Prop}
theorem wpAnyIn_dagG (hF : Lets F n P) (hops : ops = (l ++ r).toArray) (hr : r.length ≤ 1) (hB : dagOk l ops = true) (hlen : specs.length = l.length)
    (hp : p.Good) (hwl : ∀ k ∈ p.wl, k < l.length) (hdp : ∀ (Ls : Nat → Bool), (∀ (j : Nat) (oj : Oper), Ls j = true → ops[j]? = some oj → ∀ e ∈ oj.after, Region.binds .any e = true → Ls e.on = true) → ∀ k i, k < l.length → p.dep k i = true → Ls k = true → Ls i = true)
    (hst : ∀ s ∈ specs, ∀ v W W', Gr W W' → s.ok v W → s.ok v W')
    (hgd : ∀ k ∈ p.wl, ∀ o, ops[k]? = some o → o.guard = none) (hge : ∀ (k : Nat) o, k ∉ p.wl → ops[k]? = some o → o.guard ≠ none → ∀ env v, p.E k env v)
    (hst2 : ∀ k ∈ p.wl, ∀ (i : Nat) s, i ≠ k → p.keep k i = true → p.dep i k = false → specs[i]? = some s → ∀ L env v u W W', L k = false → p.P1 L env W → p.P0 k W → p.A k env v W W' → s.ok u W → s.ok u W')
    (hobl : ∀ L env W, p.P1 L env W → OblsG p P ops specs env W 0 l specs a)
    (hend : ∀ L env W, (∀ i, i < l.length → L i = true) → p.P1 L env W → (∀ (i : Nat) s, specs[i]? = some s → p.safeE i = true → s.ok (s.val (env i)) W) →
      if r = [] then Q .normal (lexAct env 0 l specs a) W else wpOpIn F n P ops Q l.length (fun a W => Q .normal a W) (lexAct env 0 l specs a) W) :
    ∀ (fuel : Nat) (listed : Array Bool) (a' : Act) (W : World) (env : Nat → Value), listed.size = ops.size → unl ops.size listed ≤ fuel → (r ≠ [] → listed.getD l.length true = false) → p.P1 (fun i => listed.getD i false) env W → (∀ k ∈ p.wl, listed.getD k false = false → p.P0 k W) →
      FrameIs l specs a (fun i => listed.getD i false = true) env a' → (∀ (i : Nat) s, listed.getD i false = true → specs[i]? = some s → (∀ k ∈ p.wl, listed.getD k false = true → k = i ∨ p.dep i k = true ∨ p.keep k i = true) → s.ok (s.val (env i)) W) →
      (∀ (i : Nat) o, listed.getD i false = true → ops[i]? = some o → ∀ e ∈ o.after, Region.binds .any e = true → listed.getD e.on false = true) →
      wpAnyIn F n P .any ops Q fuel listed a' W := by
  have hd := dag_distinct hops hB
  have hosz : ops.size = l.length + r.length := by rw [hops]; simp
  have hol : ∀ (i : Nat) (o : Oper), i < l.length → ops[i]? = some o → l[i]? = some o := by
    intro i o hi ho; rw [hops] at ho; simpa [List.getElem?_append_left hi] using ho
  have hlo : ∀ (i : Nat) (o : Oper), l[i]? = some o → ops[i]? = some o := by
    intro i o hi
    have hl : i < l.length := (List.getElem?_eq_some_iff.1 hi).1
    rw [hops]; simp [List.getElem?_append_left hl, hi]
  have hlex : ∀ (env : Nat → Value) (i : Nat), i ≤ l.length → FrameIs l specs a (· < i) env (lexAct env 0 (l.take i) (specs.take i) a) := by
    intro env i hi
    have h0 : FrameIs l specs a (· < 0) env a := ⟨rfl, rfl, fun _ _ => rfl, fun i _ _ _ hi => absurd hi (by omega)⟩
    have hti : (l.take i).length = i := by simp; omega
    have htl : (specs.take i).length = i := by simp; omega
    have := lex_frame (env := env) (specs := specs) (a := a) hd hlen 0 (l.take i) (specs.take i) a (by omega)
      (fun j hj => by rw [List.getElem?_take, if_pos (by omega)]; simp) (fun j hj => by rw [List.getElem?_take, if_pos (by omega)]; simp) (by omega) h0
    simpa [hti] using this
  have hfull : ∀ (env : Nat → Value) (listed : Array Bool) (a' : Act), FrameIs l specs a (fun i => listed.getD i false = true) env a' → (∀ i, i < l.length → listed.getD i false = true) → a' = lexAct env 0 l specs a := by
    intro env listed a' hf hall
    have h2 := hlex env l.length (Nat.le_refl _)
    rw [List.take_of_length_le (by omega), List.take_of_length_le (by omega)] at h2
    exact hf.eq hlen h2 (fun i hi => ⟨fun _ => hi, fun _ => hall i hi⟩)
  have htf : ∀ (listed : Array Bool) (i : Nat), listed.size = ops.size → i < ops.size → (listed.getD i true = true ↔ listed.getD i false = true) := by
    intro listed i h1 h2
    have h3 : i < listed.size := by omega
    simp [h3]
  have hsafeE : ∀ (i : Nat) (listed : Array Bool), p.safeE i = true → ∀ k ∈ p.wl, listed.getD k false = true → k = i ∨ p.dep i k = true ∨ p.keep k i = true := by
    intro i listed hs k hk _
    have := List.all_eq_true.1 hs k hk
    simp only [Bool.or_eq_true, beq_iff_eq] at this
    rcases this with (h | h) | h
    · exact .inl h
    · exact .inr (.inl h)
    · exact .inr (.inr h)
  have hdone : ∀ (env : Nat → Value) (listed : Array Bool) (a' : Act) (W : World), listed.size = ops.size → (r ≠ [] → listed.getD l.length true = false) → p.P1 (fun i => listed.getD i false) env W →
      FrameIs l specs a (fun i => listed.getD i false = true) env a' → (∀ (i : Nat) s, listed.getD i false = true → specs[i]? = some s → (∀ k ∈ p.wl, listed.getD k false = true → k = i ∨ p.dep i k = true ∨ p.keep k i = true) → s.ok (s.val (env i)) W) →
      (∀ i, i < ops.size → listed.getD i true = true) → Q .normal a' W := by
    intro env listed a' W hsz hlast hG hf hok hall
    have hre : r = [] := by
      by_cases e : r = []
      · exact e
      · have h1 := hlast e
        have h2 : 0 < r.length := List.length_pos_iff.2 e
        rw [hall l.length (by omega)] at h1; cases h1
    have hall' : ∀ i, i < l.length → listed.getD i false = true := fun i hi => (htf listed i hsz (by omega)).1 (hall i (by omega))
    rw [hfull env listed a' hf hall']
    have h3 := hend _ env W hall' hG (fun i s hs hsf => hok i s (hall' i (by have := (List.getElem?_eq_some_iff.1 hs).1; omega)) hs (hsafeE i listed hsf))
    rwa [if_pos hre] at h3
  intro fuel
  induction fuel with
  | zero =>
    intro listed a' W env hsz hun hlast hG hG0 hf hok hcl
    have hall : ∀ i, i < ops.size → listed.getD i true = true := by
      intro i hi
      cases hx : listed.getD i true with
      | true => rfl
      | false => have := unl_pos hi hx; omega
    exact ⟨ready_nil_of hall, hdone env listed a' W hsz hlast hG hf hok hall⟩
  | succ fuel ih =>
    intro listed a' W env hsz hun hlast hG hG0 hf hok hcl
    refine ⟨fun hnil => hdone env listed a' W hsz hlast hG hf hok (all_of_ready_nil hB hsz hnil), fun i hi => ?_⟩
    obtain ⟨hiu, o, ho, hdeps⟩ := mem_ready.1 hi
    have hio : i < ops.size := (Array.getElem?_eq_some_iff.1 ho).1
    obtain ⟨hsel, hdef, hback, hcf, hsink⟩ := dagOk_at hB ho
    have hil : i < listed.size := by omega
    have hiF : listed.getD i false = false := by
      cases hx : listed.getD i false with
      | false => rfl
      | true => rw [(htf listed i hsz hio).2 hx] at hiu; cases hiu
    have hset : ∀ j, (listed.setIfInBounds i true).getD j false = true ↔ (listed.getD j false = true ∨ j = i) := by
      intro j
      by_cases e : i = j
      · subst e; simp [hil]
      · rw [getD_set_ne false e]; constructor
        · exact fun h => .inl h
        · exact fun h => h.resolve_right (fun h' => e h'.symm)
    have hins : (fun j => (listed.setIfInBounds i true).getD j false) = ins (fun j => listed.getD j false) i := by
      funext j
      unfold ins
      rw [Bool.eq_iff_iff, hset j, Bool.or_eq_true, beq_iff_eq]
    have hclose : ∀ (j : Nat) oj, (listed.setIfInBounds i true).getD j false = true → ops[j]? = some oj → ∀ e ∈ oj.after, Region.binds .any e = true → (listed.setIfInBounds i true).getD e.on false = true := by
      intro j oj hj hoj e he hb
      rw [hset] at hj ⊢
      rcases hj with hj | rfl
      · exact .inl (hcl j oj hj hoj e he hb)
      · rw [ho] at hoj; cases hoj; exact .inl (hdeps e he hb)
    by_cases hil2 : i < l.length
    · -- an ordinary operation
      have hlo' := hol i o hil2 ho
      obtain ⟨s, hs⟩ : ∃ s, specs[i]? = some s := ⟨_, List.getElem?_eq_getElem (by omega)⟩
      have hnot : ∀ k ∈ p.wl, (k = i ∨ p.dep k i = true) → listed.getD k false = false := by
        intro k hk h
        rcases h with rfl | h
        · exact hiF
        · cases hx : listed.getD k false with
          | false => rfl
          | true =>
            have := hdp (fun j => listed.getD j false) hcl k i (hwl k hk) h hx
            rw [hiF] at this; cases this
      have hloose : ∀ e ∈ o.after.toList, Region.binds .any e = true → p.safe e.on i = true → looseOf specs env W e := by
        intro e he hb hsf
        have h1 := hdeps e (by simpa using he) hb
        have h2 := hback e (by simpa using he) hb
        obtain ⟨s', hs'⟩ : ∃ s', specs[e.on]? = some s' := ⟨_, List.getElem?_eq_getElem (by omega)⟩
        have h3 := hok e.on s' h1 hs' (fun k hk hlk => by
          have h5 := List.all_eq_true.1 hsf k hk
          simp only [Bool.or_eq_true, beq_iff_eq] at h5
          rcases h5 with ((h5 | h5) | h5) | h5
          · exact .inl h5
          · rw [hnot k hk (.inl h5)] at hlk; cases hlk
          · rw [hnot k hk (.inr h5)] at hlk; cases hlk
          · exact .inr (.inr h5))
        unfold looseOf
        simp only [List.getD, hs', Option.getD_some]
        cases s' with
        | is c => trivial
        | like R => exact h3
      have hO := oblsG_at 0 l specs a (hobl _ env W hG) i o s hlo' hs (by rw [Nat.zero_add]; exact hloose) (by rw [Nat.zero_add]; exact fun k hk h => hG0 k hk (hnot k hk h))
      rw [Nat.zero_add] at hO
      have hfl := hlex env i (by omega)
      have hag : ∀ t, t ∈ o.looksAt ops → a'.tmps[t]? = (lexAct env 0 (l.take i) (specs.take i) a).tmps[t]? := by
        intro t ht
        refine hf.agree hlen hfl t (fun j oj hoj hdst => ?_)
        by_cases e : j = i
        · subst e; simp [hiF]
        · obtain ⟨_, h2⟩ := hcf j oj t e hoj hdst
          obtain ⟨h3, h4⟩ := h2 ht
          constructor
          · intro hj
            by_cases hlt : j < i
            · exact hlt
            · obtain ⟨e', he', hb', hon⟩ := h4 hlt
              have := hcl j oj hj (hlo j oj hoj) e' he' hb'
              rw [hon, hiF] at this; cases this
          · intro hlt
            obtain ⟨e', he', hb', hon⟩ := h3 hlt
            have := hdeps e' he' hb'
            rwa [hon] at this
      have hev : ∀ x ∈ o.op.operands, a'.eval x = (lexAct env 0 (l.take i) (specs.take i) a).eval x := by
        intro x hx
        cases x with
        | tmp t =>
          have := hag t (List.mem_append_left _ (List.mem_filterMap.2 ⟨.tmp t, by simpa using hx, rfl⟩))
          simp [Act.eval, this]
        | _ => rfl
      have hex : execOp a'.eval o = execOp (lexAct env 0 (l.take i) (specs.take i) a).eval o := execOp_congr o hsel hev
      have hwant : Region.wanted o (yielded ops a'.tmps) = Region.wanted o (yielded ops (lexAct env 0 (l.take i) (specs.take i) a).tmps) := by
        unfold Region.wanted
        cases hg : o.guard with
        | none => rfl
        | some gw =>
          obtain ⟨g, want⟩ := gw
          have hy : yielded ops a'.tmps g = yielded ops (lexAct env 0 (l.take i) (specs.take i) a).tmps g := by
            unfold yielded
            cases ht : (ops[g]?).bind (·.dst) with
            | none => rfl
            | some t =>
              have := hag t (List.mem_append_right _ (by simp [hg, ht]))
              simp [this]
          simp only [hy]
      have hnext : ∀ v W', p.step i env v W W' → s.ok v W' → wpAnyIn F n P .any ops Q fuel (listed.setIfInBounds i true) (a'.put o.dst v) W' := by
        intro v W' hg hv
        have hL : ¬ (listed.getD i false = true) := by simp [hiF]
        have hf2 := hf.put hd hlo' hs hL (Spec.val_of_ok hv)
        have hG1 : p.P1 (ins (fun j => listed.getD j false) i) (envS env i v) W' := by
          by_cases e : i ∈ p.wl
          · rw [Gp.step_eq e] at hg
            exact hp.a1 _ _ W W' i v e hiF (fun j hj => by rw [← hins]; exact hdp (fun j => (listed.setIfInBounds i true).getD j false) hclose i j hil2 hj ((hset i).2 (.inr rfl))) hG (hG0 i e hiF) hg
          · rw [Gp.step_ne e] at hg
            exact hp.g1 _ _ W W' i v e hiF (fun j hj => by rw [← hins]; exact hdp (fun j => (listed.setIfInBounds i true).getD j false) hclose i j hil2 hj ((hset i).2 (.inr rfl))) hG hg.1 hg.2
        refine ih _ _ _ (envS env i v) (by simpa using hsz) ?_ ?_ (by rw [hins]; exact hG1) ?_ ?_ ?_ hclose
        · have := unl_set hio hiu; omega
        · intro hre
          have h1 := hlast hre
          rw [getD_set_ne true (by omega)]; exact h1
        · intro k hk hlk
          have hki : k ≠ i := fun e => by rw [(hset k).2 (.inr e)] at hlk; cases hlk
          have hlk0 : listed.getD k false = false := by
            cases hx : listed.getD k false with
            | false => rfl
            | true => rw [(hset k).2 (.inl hx)] at hlk; cases hlk
          by_cases e : i ∈ p.wl
          · rw [Gp.step_eq e] at hg
            exact hp.a0 _ _ W W' i k v e hk (Ne.symm hki) hiF hlk0 hG (hG0 i e hiF) (hG0 k hk hlk0) hg
          · rw [Gp.step_ne e] at hg
            exact hp.g0 k W W' hk (hG0 k hk hlk0) hg.1
        · refine ⟨hf2.defers, hf2.size, fun t ht => hf2.old t (fun j oj hj => ht j oj ((hset j).2 hj)), fun j oj sj t hj => hf2.new j oj sj t ((hset j).1 hj)⟩
        · intro j sj hj hsj hkp
          unfold envS
          by_cases e : j = i
          · subst e
            rw [hs] at hsj; cases hsj
            simp only [if_true]
            rw [Spec.val_of_ok hv]; exact hv
          · simp only [e, if_false]
            have hj' := ((hset j).1 hj).resolve_right e
            have hjl : j < l.length := by have := (List.getElem?_eq_some_iff.1 hsj).1; omega
            have h1 := hok j sj hj' hsj (fun k hk hlk => hkp k hk ((hset k).2 (.inl hlk)))
            by_cases e2 : i ∈ p.wl
            · rw [Gp.step_eq e2] at hg
              have hnd : p.dep j i = false := by
                cases hx : p.dep j i with
                | false => rfl
                | true =>
                  have := hdp (fun j => listed.getD j false) hcl j i hjl hx hj'
                  rw [hiF] at this; cases this
              have hkj : p.keep i j = true := by
                rcases hkp i e2 ((hset i).2 (.inr rfl)) with h | h | h
                · exact absurd h.symm e
                · rw [hnd] at h; cases h
                · exact h
              exact hst2 i e2 j sj e hkj hnd hsj _ env v _ _ _ hiF hG (hG0 i e2 hiF) hg h1
            · rw [Gp.step_ne e2] at hg
              exact hst sj (List.mem_of_getElem? hsj) _ _ _ hg.1 h1
      have hskip : ¬ (Region.wanted o (yielded ops a'.tmps) = true) → p.step i env undef W W := by
        intro hw
        by_cases e : i ∈ p.wl
        · exact absurd (by simp [Region.wanted, hgd i e o ho]) hw
        · rw [Gp.step_ne e]; exact ⟨brefl W, hge i o e ho (fun h => hw (by simp [Region.wanted, h])) env undef⟩
      unfold wpOpIn
      simp only [ho]
      rw [← hwant] at hO
      split
      · rename_i hw
        rw [if_pos hw] at hO
        refine wpIn_of_does (R := fun v W' => p.step i env v W W' ∧ s.ok v W') hF hdef ?_ (fun v W' hv => hnext v W' hv.1 hv.2)
        unfold doesAt at hO ⊢
        rwa [hex]
      · rename_i hw
        rw [if_neg hw] at hO
        exact ⟨fun f _ => hF.fn f, hnext undef W (hskip hw) hO⟩
    · -- the last one
      have hre : r ≠ [] := by intro e; rw [e] at hosz; simp at hosz; omega
      have hil3 : i = l.length := by omega
      have hall : ∀ j, j < l.length → listed.getD j false = true := by
        have key : ∀ (d j : Nat), j < l.length → l.length - j ≤ d → listed.getD j false = true := by
          intro d
          induction d with
          | zero => intro j hj hd; omega
          | succ d ihd =>
            intro j hj hdd
            have hoj : ops[j]? = some ops[j] := Array.getElem?_eq_getElem (by omega)
            obtain ⟨_, _, _, _, hsink⟩ := dagOk_at hB hoj
            rcases hsink with ⟨h1, _⟩ | h1 | ⟨k, ok, hok', e, he, hb, hon⟩
            · omega
            · have : 0 < r.length := List.length_pos_iff.2 hre
              omega
            · have hkb := (dagOk_at hB hok').2.2.1 e he hb
              by_cases hk : k = i
              · subst hk
                rw [ho] at hok'; cases hok'
                have := hdeps e he hb
                rwa [hon] at this
              · have hkl : k < ops.size := (Array.getElem?_eq_some_iff.1 hok').1
                have := hcl k ok (ihd k (by omega) (by omega)) hok' e he hb
                rwa [hon] at this
        exact fun j hj => key _ j hj (Nat.le_refl _)
      rw [hfull env listed a' hf hall]
      have h3 := hend _ env W hall hG (fun j s hs hsf => hok j s (hall j (by have := (List.getElem?_eq_some_iff.1 hs).1; omega)) hs (hsafeE j listed hsf))
      rw [if_neg hre, ← hil3] at h3
      refine wpOpIn_mono (fun a2 W2 hq => ?_) h3
      have hall2 : ∀ j, j < ops.size → (listed.setIfInBounds i true).getD j true = true := by
        intro j hj
        by_cases e : i = j
        · subst e; simp [hil]
        · rw [getD_set_ne true e]; exact (htf listed j hsz hj).2 (hall j (by omega))
      have hrn := ready_nil_of hall2
      cases fuel with
      | zero => exact ⟨hrn, hq⟩
      | succ f => exact ⟨fun _ => hq, by rw [hrn]; simp⟩

/-- **The region.** -/
theorem wpIn_region_dagG {id : Nat} (hF : Lets F n P) (hm : P.follows .mixedOrders = true) (l r : List Oper) (hops : ops = (l ++ r).toArray) (hr : r.length ≤ 1) (hB : dagOk l ops = true) {a : Act} {w : World} (specs : List Spec) (hlen : specs.length = l.length)
    (hp : p.Good) (hwl : ∀ k ∈ p.wl, k < l.length) (hdp : ∀ (Ls : Nat → Bool), (∀ (j : Nat) (oj : Oper), Ls j = true → ops[j]? = some oj → ∀ e ∈ oj.after, Region.binds .any e = true → Ls e.on = true) → ∀ k i, k < l.length → p.dep k i = true → Ls k = true → Ls i = true)
    (hw0 : ∀ W, Gr w W → p.P1 (fun _ => false) (fun _ => undef) W ∧ ∀ k ∈ p.wl, p.P0 k W) (hst : ∀ s ∈ specs, ∀ v W W', Gr W W' → s.ok v W → s.ok v W')
    (hgd : ∀ k ∈ p.wl, ∀ o, ops[k]? = some o → o.guard = none) (hge : ∀ (k : Nat) o, k ∉ p.wl → ops[k]? = some o → o.guard ≠ none → ∀ env v, p.E k env v)
    (hst2 : ∀ k ∈ p.wl, ∀ (i : Nat) s, i ≠ k → p.keep k i = true → p.dep i k = false → specs[i]? = some s → ∀ L env v u W W', L k = false → p.P1 L env W → p.P0 k W → p.A k env v W W' → s.ok u W → s.ok u W')
    (hobl : ∀ L env W, p.P1 L env W → OblsG p P ops specs env W 0 l specs a)
    (hend : ∀ L env W, (∀ i, i < l.length → L i = true) → p.P1 L env W → (∀ (i : Nat) s, specs[i]? = some s → p.safeE i = true → s.ok (s.val (env i)) W) →
      if r = [] then Q .normal (lexAct env 0 l specs a) W else wpOpIn F n P ops Q l.length (fun a W => Q .normal a W) (lexAct env 0 l specs a) W) :
    (Code.region id ops true).wpIn F n P Q a w := by
  have hG0 : Gr w { w with drawn := w.drawn + 1 } := (brefl w).drew
  have hL0 : (fun i => (Array.replicate ops.size false).getD i false) = fun _ => false := by
    funext i
    cases hx : (Array.replicate ops.size false).getD i false with
    | false => rfl
    | true => exact (repl_no _ _ hx).elim
  refine wpIn_region_any hm (wpAnyIn_dagG hF hops hr hB hlen hp hwl hdp hst hgd hge hst2 hobl hend ops.size _ a _ (fun _ => undef) (by simp) ?_ ?_ (by rw [hL0]; exact (hw0 _ hG0).1) (fun k hk _ => (hw0 _ hG0).2 k hk) ?_ ?_ ?_)
  · unfold unl
    exact Nat.le_trans (List.countP_le_length) (by simp)
  · intro hre
    have : 0 < r.length := List.length_pos_iff.2 hre
    have hsz : ops.size = l.length + r.length := by rw [hops]; simp
    have h2 : l.length < ops.size := by omega
    simp [h2]
  · refine ⟨rfl, rfl, fun _ _ => rfl, fun i o s t hi => (repl_no _ _ hi).elim⟩
  · intro i s hi; exact (repl_no _ _ hi).elim
  · intro i o hi; exact (repl_no _ _ hi).elim
end

theorem doesAt_mono {P : Program} {o : Oper} {a : Act} {W : World} {R R' : Value → World → Prop} (hR : ∀ v W', R v W' → R' v W') (h : doesAt P o a W R) : doesAt P o a W R' := by
  unfold doesAt at h ⊢
  generalize (execOp a.eval o).run P W = r at h
  cases r with
  | ok x W' =>
    cases x <;> simp only [doesUpon] at h
    case value v => exact hR v W' h
    case skip => exact hR undef W' h
    case enter f args =>
      refine Calls.mono h fun e W'' he => ?_
      obtain ⟨v, rfl, hv⟩ := he
      exact ⟨v, rfl, hR v W'' hv⟩
  | halt x W' => simp only [doesUpon] at h
/-- The obligations, one behind the other, and what is asked at the end, of the operations that are left. -/
def OblsKG (p : Gp) (P : Program) (ops : Array Oper) (specs : List Spec) (env : Nat → Value) (W : World) (E : List Oper → Act → Prop) : Nat → List Oper → List Spec → Act → Prop
  | i, o :: os, s :: ss, a =>
    ((∀ e ∈ o.after.toList, Region.binds .any e = true → p.safe e.on i = true → looseOf specs env W e) → (∀ k ∈ p.wl, (k = i ∨ p.dep k i = true) → p.P0 k W) →
      if Region.wanted o (yielded ops a.tmps) then doesAt P o a W (fun v W' => p.step i env v W W' ∧ s.ok v W') else s.ok undef W) ∧
    OblsKG p P ops specs env W E (i + 1) os ss (a.put o.dst (s.val (env i)))
  | _, os, _, a => E os a

theorem obls_of_KG {p : Gp} {P : Program} {ops : Array Oper} {specs : List Spec} {env : Nat → Value} {W : World} {E : List Oper → Act → Prop} : ∀ (k : Nat) (ol : List Oper) (sl : List Spec) (b : Act), sl.length ≤ ol.length → OblsKG p P ops specs env W E k ol sl b →
    OblsG p P ops specs env W k (ol.take sl.length) sl b ∧ E (ol.drop sl.length) (lexAct env k (ol.take sl.length) sl b) := by
  intro k ol
  induction ol generalizing k with
  | nil => intro sl b hl h; cases sl with
    | nil => exact ⟨trivial, h⟩
    | cons => simp at hl
  | cons o os ih =>
    intro sl b hl h
    cases sl with
    | nil => exact ⟨trivial, h⟩
    | cons s ss =>
      obtain ⟨h1, h2⟩ := ih (k + 1) ss _ (by simpa using hl) h.2
      exact ⟨⟨h.1, h1⟩, h2⟩

/-- What is left behind the operations that have a value of their own. -/
def dagEndG (p : Gp) (n : Nat) (P : Program) (Q : Exit → Act → World → Prop) (specs : List Spec) (L : Nat → Bool) (env : Nat → Value) (W : World) (os : List Oper) (a : Act) : Prop :=
  (∀ i, i < n → L i = true) → (∀ (i : Nat) s, specs[i]? = some s → p.safeE i = true → s.ok (s.val (env i)) W) → match os with
    | [] => Q .normal a W
    | [o] => doesAt P o a W (fun v W' => Q .normal (a.put o.dst v) W')
    | _ => False

section
variable {p : Gp} {n : Nat} {P : Program} {ops : Array Oper} {specs : List Spec} {L : Nat → Bool} {env : Nat → Value} {W : World} {E : List Oper → Act → Prop} {i : Nat} {o : Oper} {os : List Oper} {ss : List Spec} {a : Act} {Q : Exit → Act → World → Prop}
theorem obl_E {R : Value → World → Prop} {E' : Prop} (hi : i ∉ p.wl) (hE : ∀ env v, p.E i env v) (h : if Region.wanted o (yielded ops a.tmps) then doesAt P o a W (fun u W' => Gr W W' ∧ R u W') else E') : if Region.wanted o (yielded ops a.tmps) then doesAt P o a W (fun u W' => p.step i env u W W' ∧ R u W') else E' := by
  rw [Gp.step_ne hi]
  split
  · rename_i hw
    rw [if_pos hw] at h
    exact doesAt_mono (fun v W' hv => ⟨⟨hv.1, hE env v⟩, hv.2⟩) h
  · rename_i hw
    rwa [if_neg hw] at h
/-- An operation that gives an elder value on. -/
theorem oblsG_mv {R : Value → World → Prop} (hi : i ∉ p.wl) (h : (∀ e ∈ o.after.toList, Region.binds .any e = true → p.safe e.on i = true → looseOf specs env W e) → if Region.wanted o (yielded ops a.tmps) then doesAt P o a W (fun u W' => (Gr W W' ∧ p.E i env u) ∧ R u W') else R undef W)
    (hn : ∀ K : Act → Prop, (∀ b, OblsKG p P ops specs env W E (i + 1) os ss b → K b) → K (a.put o.dst (env i))) : OblsKG p P ops specs env W E i (o :: os) (.like R :: ss) a :=
  ⟨fun h0 _ => by rw [Gp.step_ne hi]; exact h h0, hn _ fun _ h => h⟩
/-- An operation whose value is known exactly. -/
theorem oblsG_is {v : Value} (hi : i ∉ p.wl) (hE : ∀ env v, p.E i env v) (h : (∀ k ∈ p.wl, (k = i ∨ p.dep k i = true) → p.P0 k W) → if Region.wanted o (yielded ops a.tmps) then doesAt P o a W (fun u W' => Gr W W' ∧ u = v) else undef = v)
    (hn : ∀ K : Act → Prop, (∀ b, OblsKG p P ops specs env W E (i + 1) os ss b → K b) → K (a.put o.dst v)) : OblsKG p P ops specs env W E i (o :: os) (.is v :: ss) a :=
  ⟨fun _ h0 => obl_E hi hE (h h0), hn _ fun _ h => h⟩
/-- The same, by what is known of the values that it waits for. -/
theorem oblsG_isL {v : Value} (hi : i ∉ p.wl) (hE : ∀ env v, p.E i env v) (h : (∀ e ∈ o.after.toList, Region.binds .any e = true → p.safe e.on i = true → looseOf specs env W e) → (∀ k ∈ p.wl, (k = i ∨ p.dep k i = true) → p.P0 k W) → if Region.wanted o (yielded ops a.tmps) then doesAt P o a W (fun u W' => Gr W W' ∧ u = v) else undef = v)
    (hn : ∀ K : Act → Prop, (∀ b, OblsKG p P ops specs env W E (i + 1) os ss b → K b) → K (a.put o.dst v)) : OblsKG p P ops specs env W E i (o :: os) (.is v :: ss) a :=
  ⟨fun h0 h1 => obl_E hi hE (h h0 h1), hn _ fun _ h => h⟩
/-- An operation whose value is known by a relation. -/
theorem oblsG_like {R : Value → World → Prop} (hi : i ∉ p.wl) (hE : ∀ env v, p.E i env v) (h : (∀ e ∈ o.after.toList, Region.binds .any e = true → p.safe e.on i = true → looseOf specs env W e) → (∀ k ∈ p.wl, (k = i ∨ p.dep k i = true) → p.P0 k W) → if Region.wanted o (yielded ops a.tmps) then doesAt P o a W (fun u W' => Gr W W' ∧ R u W') else R undef W)
    (hn : ∀ K : Act → Prop, (∀ b, OblsKG p P ops specs env W E (i + 1) os ss b → K b) → K (a.put o.dst (env i))) : OblsKG p P ops specs env W E i (o :: os) (.like R :: ss) a :=
  ⟨fun h0 h1 => obl_E hi hE (h h0 h1), hn _ fun _ h => h⟩
/-- An operation that writes. -/
theorem oblsG_wr {R : Value → World → Prop} (hi : i ∈ p.wl) (h : (∀ e ∈ o.after.toList, Region.binds .any e = true → p.safe e.on i = true → looseOf specs env W e) → (∀ k ∈ p.wl, (k = i ∨ p.dep k i = true) → p.P0 k W) → if Region.wanted o (yielded ops a.tmps) then doesAt P o a W (fun u W' => p.A i env u W W' ∧ R u W') else R undef W)
    (hn : ∀ K : Act → Prop, (∀ b, OblsKG p P ops specs env W E (i + 1) os ss b → K b) → K (a.put o.dst (env i))) : OblsKG p P ops specs env W E i (o :: os) (.like R :: ss) a :=
  ⟨fun h0 h1 => by rw [Gp.step_eq hi]; exact h h0 h1, hn _ fun _ h => h⟩
/-- The end: no operation is left. -/
theorem oblsG_nil (h : (∀ i, i < n → L i = true) → (∀ (i : Nat) s, specs[i]? = some s → p.safeE i = true → s.ok (s.val (env i)) W) → Q .normal a W) : OblsKG p P ops specs env W (dagEndG p n P Q specs L env W) i [] [] a := h
/-- The end: one operation is left. -/
theorem oblsG_last (h : (∀ i, i < n → L i = true) → (∀ (i : Nat) s, specs[i]? = some s → p.safeE i = true → s.ok (s.val (env i)) W) → doesAt P o a W (fun v W' => Q .normal (a.put o.dst v) W')) : OblsKG p P ops specs env W (dagEndG p n P Q specs L env W) i [o] [] a := h
end

section
variable {p : Gp} {F : Fence} {k : Nat} {P : Program} {Q : Exit → Act → World → Prop} {a : Act} {w : World}
theorem dagGIn (n : Nat) {id : Nat} {m : List Oper} (hF : Lets F k P) (hm : P.follows .mixedOrders = true) (hB : dagFit n m = true) (specs : List Spec) (hlen : specs.length = n)
    (hp : p.Good) (hwl : ∀ k ∈ p.wl, k < n) (hdep : p.dep = depB (ancs m)) (hdo : depOk (ancs m) m = true)
    (hw0 : ∀ W, Gr w W → p.P1 (fun _ => false) (fun _ => undef) W ∧ ∀ k ∈ p.wl, p.P0 k W) (hst : ∀ s ∈ specs, ∀ v W W', Gr W W' → s.ok v W → s.ok v W')
    (hgd : ∀ k ∈ p.wl, ∀ o, m[k]? = some o → o.guard = none) (hge : ∀ (k : Nat) o, k ∉ p.wl → m[k]? = some o → o.guard ≠ none → ∀ env v, p.E k env v)
    (hst2 : ∀ k ∈ p.wl, ∀ (i : Nat) s, i ≠ k → p.keep k i = true → p.dep i k = false → specs[i]? = some s → ∀ L env v u W W', L k = false → p.P1 L env W → p.P0 k W → p.A k env v W W' → s.ok u W → s.ok u W')
    (h : ∀ L env W, p.P1 L env W → OblsKG p P m.toArray specs env W (dagEndG p n P Q specs L env W) 0 m specs a) :
    (Code.region id m.toArray true).wpIn F k P Q a w := by
  simp only [dagFit, Bool.and_eq_true, decide_eq_true_eq] at hB
  obtain ⟨⟨⟨h1, h2⟩, h3⟩, h4⟩ := hB
  have hl : (m.take n).length = n := by simp; omega
  refine wpIn_region_dagG hF hm (m.take n) (m.drop n) (by simp) (by simp; omega) h1 specs (by omega) hp (by rw [hl]; exact hwl) (fun Ls hc k i hk hd hL => depOk_at hdo hc k k i (Nat.le_refl _) (by omega) (by rw [← hdep]; exact hd) hL) hw0 hst (fun k hk o ho => hgd k hk o (by simpa using ho)) (fun k o hk ho => hge k o hk (by simpa using ho)) hst2 (fun L env W hG => ?_) (fun L env W hall hG hok => ?_)
  · have := (obls_of_KG 0 m specs a (by omega) (h L env W hG)).1
    rwa [hlen] at this
  · have hx := (obls_of_KG 0 m specs a (by omega) (h L env W hG)).2
    rw [hlen] at hx
    have hx := hx (by rw [hl] at hall; exact hall) hok
    split
    · rename_i hnil
      rw [hnil] at hx
      exact hx
    · rename_i hne
      cases hd : m.drop n with
      | nil => exact absurd hd hne
      | cons o t =>
        cases t with
        | cons o' t' =>
          have h5 : (m.drop n).length ≤ 1 := by simp; omega
          rw [hd] at h5
          simp at h5
        | nil =>
          rw [hd] at hx h4
          have hg : o.guard = none := by simpa using h4
          have ho : m.toArray[(m.take n).length]? = some o := by
            rw [hl, List.getElem?_toArray]
            have : m[n]? = (m.drop n)[0]? := by simp
            rw [this, hd]; rfl
          unfold wpOpIn
          simp only [ho, Region.wanted, hg, if_true]
          exact wpIn_of_does hF (dagOk_at h1 ho).2.1 hx (fun v W' hv => hv)
theorem dagG (n : Nat) {id : Nat} {m : List Oper} (hm : P.follows .mixedOrders = true) (hB : dagFit n m = true) (specs : List Spec) (hlen : specs.length = n)
    (hp : p.Good) (hwl : ∀ k ∈ p.wl, k < n) (hdep : p.dep = depB (ancs m)) (hdo : depOk (ancs m) m = true)
    (hw0 : ∀ W, Gr w W → p.P1 (fun _ => false) (fun _ => undef) W ∧ ∀ k ∈ p.wl, p.P0 k W) (hst : ∀ s ∈ specs, ∀ v W W', Gr W W' → s.ok v W → s.ok v W')
    (hgd : ∀ k ∈ p.wl, ∀ o, m[k]? = some o → o.guard = none) (hge : ∀ (k : Nat) o, k ∉ p.wl → m[k]? = some o → o.guard ≠ none → ∀ env v, p.E k env v)
    (hst2 : ∀ k ∈ p.wl, ∀ (i : Nat) s, i ≠ k → p.keep k i = true → p.dep i k = false → specs[i]? = some s → ∀ L env v u W W', L k = false → p.P1 L env W → p.P0 k W → p.A k env v W W' → s.ok u W → s.ok u W')
    (h : ∀ L env W, p.P1 L env W → OblsKG p P m.toArray specs env W (dagEndG p n P Q specs L env W) 0 m specs a) :
    (Code.region id m.toArray true).wp P Q a w :=
  (wpIn_wide (n := 0)).1 (dagGIn n (lets_wide 0 P) hm hB specs hlen hp hwl hdep hdo hw0 hst hgd hge hst2 h)
end
/-! ### Writers of rows that are known -/
/-- Specs that stay, whoever writes. -/
def StabG (p : Gp) : Nat → List Spec → Prop
  | _, [] => True
  | i, s :: l => (∀ k ∈ p.wl, i ≠ k → p.keep k i = true → p.dep i k = false → ∀ L env v u W W', L k = false → p.P1 L env W → p.P0 k W → p.A k env v W W' → s.ok u W → s.ok u W') ∧ StabG p (i + 1) l
theorem stabG_at {p : Gp} : ∀ (l : List Spec) (j : Nat), StabG p j l → ∀ k ∈ p.wl, ∀ (i : Nat) (s : Spec), j + i ≠ k → p.keep k (j + i) = true → p.dep (j + i) k = false → l[i]? = some s → ∀ L env v u W W', L k = false → p.P1 L env W → p.P0 k W → p.A k env v W W' → s.ok u W → s.ok u W'
  | [], _, _, _, _, i, s, _, _, _, hs => by simp at hs
  | a :: l, j, h, k, hk, 0, s, h1, h2, h3, hs => by
    simp at hs
    subst hs
    exact h.1 k hk h1 h2 h3
  | a :: l, j, h, k, hk, i + 1, s, h1, h2, h3, hs => by
    have e : j + 1 + i = j + (i + 1) := by omega
    exact stabG_at l (j + 1) h.2 k hk i s (by rw [e]; exact h1) (by rw [e]; exact h2) (by rw [e]; exact h3) (by simpa using hs)
/-- Writers: their places, and the rows into which they write; each in a row of its own. -/
structure RowsOk (w : World) (rows : List (Nat × Option Nat)) : Prop where
  lt : ∀ x ∈ rows, ∀ b, x.2 = some b → b < w.heap.size
  ne : ∀ x ∈ rows, ∀ y ∈ rows, x.1 ≠ y.1 → x.2 = y.2 → x.2 = none
  inj : ∀ x ∈ rows, ∀ y ∈ rows, x.1 = y.1 → x.2 = y.2
def rowAt (rows : List (Nat × Option Nat)) (k : Nat) : Option Nat := ((rows.find? fun x => x.1 == k).map (·.2)).getD none
theorem rowAt_mem {rows : List (Nat × Option Nat)} {k : Nat} (hk : k ∈ rows.map (·.1)) : (k, rowAt rows k) ∈ rows := by
  unfold rowAt
  cases h : rows.find? (fun x => x.1 == k) with
  | none =>
    obtain ⟨x, hx, rfl⟩ := List.mem_map.1 hk
    have := List.find?_eq_none.1 h x hx
    simp at this
  | some x =>
    have h1 := List.mem_of_find?_eq_some h
    have h2 := List.find?_some h
    simp only [beq_iff_eq] at h2
    subst h2
    exact h1
/-- What has turned since. -/
structure GrX (rows : List (Nat × Option Nat)) (w W : World) : Prop where
  os : W.os = w.os
  tape : W.tape = w.tape
  output : W.output = w.output
  size : w.heap.size ≤ W.heap.size
  block : ∀ b, b < w.heap.size → (∀ x ∈ rows, x.2 ≠ some b) → W.heap[b]? = w.heap[b]?
def NewRow (w : World) (row : Option Nat) (v : Value) (W : World) : Prop := ∀ b, v.ownBlock = some b → b < W.heap.size ∧ (row = some b ∨ w.heap.size ≤ b)
/-- A store of an operation's value into a block's cell. -/
structure St where
  k : Nat
  b : Nat
  o : Nat
  j : Nat
  t : TypeId
  cs : Array Value
def Gp.rows (w : World) (rows : List (Nat × Option Nat)) (st : List St) (eqs : List (Nat × Nat)) (keep : Nat → Nat → Bool) (m : List Oper) : Gp where
  wl := rows.map (·.1)
  P1 L env W := GrX rows w W ∧ (∀ k ∈ rows.map (·.1), L k = true → NewRow w (rowAt rows k) (env k) W) ∧ (∀ k ∈ rows.map (·.1), ∀ j ∈ rows.map (·.1), k ≠ j → L k = true → L j = true → (env k).ownBlock = (env j).ownBlock → (env k).ownBlock = none) ∧
    (∀ s ∈ st, L s.k = true → L s.j = true ∧ W.heap[s.b]? = some (.cells (s.cs.setIfInBounds s.o (env s.j)) s.t (0, 0))) ∧ ∀ x ∈ eqs, L x.1 = true → L x.2 = true ∧ env x.1 = env x.2
  P0 k W := w.heap.size ≤ W.heap.size ∧ ∀ b, rowAt rows k = some b → W.heap[b]? = w.heap[b]?
  A k env v W W' := W.grownBy W' (rowAt rows k) ∧ (∀ b, v.ownBlock = some b → b < W'.heap.size ∧ (rowAt rows k = some b ∨ W.heap.size ≤ b)) ∧ ∀ s ∈ st, s.k = k → W'.heap[s.b]? = some (.cells (s.cs.setIfInBounds s.o (env s.j)) s.t (0, 0))
  keep := keep
  dep := depB (ancs m)
  E i env v := ∀ x ∈ eqs, x.1 = i → v = env x.2
structure StOk (rows : List (Nat × Option Nat)) (st : List St) (m : List Oper) : Prop where
  row : ∀ s ∈ st, s.k ∈ rows.map (·.1) ∧ rowAt rows s.k = some s.b
  dep : ∀ s ∈ st, s.j ≠ s.k ∧ depB (ancs m) s.k s.j = true
structure EqOk (rows : List (Nat × Option Nat)) (eqs : List (Nat × Nat)) (m : List Oper) : Prop where
  ne : ∀ x ∈ eqs, (rows.map (·.1)).contains x.1 = false
  dep : ∀ x ∈ eqs, x.2 ≠ x.1 ∧ depB (ancs m) x.1 x.2 = true
theorem EqOk.nil {rows : List (Nat × Option Nat)} {m : List Oper} : EqOk rows [] m := ⟨by simp, by simp⟩
theorem EqOk.cons {rows : List (Nat × Option Nat)} {eqs : List (Nat × Nat)} {m : List Oper} (h : EqOk rows eqs m) {k j : Nat} (hk : (rows.map (·.1)).contains k = false) (hjk : (j == k) = false) (hd : depB (ancs m) k j = true) : EqOk rows ((k, j) :: eqs) m := by
  refine ⟨fun x hx => ?_, fun x hx => ?_⟩
  · rcases List.mem_cons.1 hx with rfl | hx
    · exact hk
    · exact h.ne x hx
  · rcases List.mem_cons.1 hx with rfl | hx
    · exact ⟨by simpa using hjk, hd⟩
    · exact h.dep x hx
theorem StOk.nil {rows : List (Nat × Option Nat)} {m : List Oper} : StOk rows [] m := ⟨by simp, by simp⟩
section
variable {w : World} {rows : List (Nat × Option Nat)} {st : List St} {eqs : List (Nat × Nat)} {keep : Nat → Nat → Bool} {m : List Oper}
theorem Gp.rows_good (h : RowsOk w rows) (hs : StOk rows st m) (hq : EqOk rows eqs m) : (Gp.rows w rows st eqs keep m).Good where
  g1 L env W W' i v hi hLi hcl h1 hg hE := by
    obtain ⟨hx, hn, hd, hst, heq⟩ := h1
    have hne : ∀ k ∈ rows.map (·.1), k ≠ i := fun k hk e => hi (by rw [← e]; exact hk)
    refine ⟨⟨hg.os.trans hx.os, hg.tape.trans hx.tape, hg.output.trans hx.output, Nat.le_trans hx.size hg.size, fun b hb hr => (hg.block b (Nat.lt_of_lt_of_le hb hx.size)).trans (hx.block b hb hr)⟩, fun k hk hL b hb => ?_, fun k hk j hj hkj hLk hLj he => ?_, fun s hsm hL => ?_, fun x hxm hL => ?_⟩
    · simp only [ins, Bool.or_eq_true, beq_iff_eq, hne k hk, or_false] at hL
      simp only [envS, hne k hk, if_false] at hb
      have := hn k hk hL b hb
      exact ⟨Nat.lt_of_lt_of_le this.1 hg.size, this.2⟩
    · simp only [ins, Bool.or_eq_true, beq_iff_eq, hne k hk, or_false] at hLk
      simp only [ins, Bool.or_eq_true, beq_iff_eq, hne j hj, or_false] at hLj
      simp only [envS, hne k hk, hne j hj, if_false] at he ⊢
      exact hd k hk j hj hkj hLk hLj he
    · have hk := (hs.row s hsm).1
      simp only [ins, Bool.or_eq_true, beq_iff_eq, hne s.k hk, or_false] at hL
      obtain ⟨h2, h3⟩ := hst s hsm hL
      have hji : s.j ≠ i := fun e => by rw [e, hLi] at h2; cases h2
      refine ⟨by simp [ins, h2], ?_⟩
      simp only [envS, hji, if_false]
      exact (hg.block s.b (Array.getElem?_eq_some_iff.1 h3).1).trans h3
    · obtain ⟨hxx, hxd⟩ := hq.dep x hxm
      by_cases e : x.1 = i
      · have h2 : L x.2 = true := by
          have := hcl x.2 (by rw [← e]; exact hxd)
          rw [← e] at this
          simpa [ins, hxx] using this
        have hji : x.2 ≠ i := by rw [← e]; exact hxx
        refine ⟨by simp [ins, h2], ?_⟩
        simp only [envS, e, hji, if_true, if_false]
        exact hE x hxm e
      · have hL' : L x.1 = true := by simpa [ins, e] using hL
        obtain ⟨h2, h3⟩ := heq x hxm hL'
        have hji : x.2 ≠ i := fun e => by rw [e, hLi] at h2; cases h2
        refine ⟨by simp [ins, h2], ?_⟩
        simp only [envS, e, hji, if_false]
        exact h3
  g0 k W W' hk h0 hg := ⟨Nat.le_trans h0.1 hg.size, fun b hb => (hg.block b (Nat.lt_of_lt_of_le (h.lt _ (rowAt_mem hk) b hb) h0.1)).trans (h0.2 b hb)⟩
  a1 L env W W' k v hk hLk hcl h1 h0 ha := by
    obtain ⟨hx, hn, hd, hst, heq⟩ := h1
    obtain ⟨hg, hv, hsk⟩ := ha
    have hold : ∀ j ∈ rows.map (·.1), j ≠ k → ins L k j = true → L j = true := fun j hj hjk hL => by simpa [ins, hjk] using hL
    have hapart : ∀ j ∈ rows.map (·.1), j ≠ k → L j = true → (env j).ownBlock = v.ownBlock → v.ownBlock = none := fun j hj hjk hL he => by
      cases hb : v.ownBlock with
      | none => rfl
      | some b =>
        exfalso
        have h2 := hn j hj hL b (by rw [he, hb])
        have h3 := hv b hb
        have h4 := h.lt _ (rowAt_mem hk)
        have h5 := h.lt _ (rowAt_mem hj)
        have h6 := hx.size
        rcases h3.2 with h7 | h7
        · rcases h2.2 with h8 | h8
          · have := h.ne _ (rowAt_mem hk) _ (rowAt_mem hj) (Ne.symm hjk) (h7.trans h8.symm)
            rw [h7] at this; cases this
          · have := h4 b h7; omega
        · have := h2.1; omega
    refine ⟨⟨hg.os.trans hx.os, hg.tape.trans hx.tape, hg.output.trans hx.output, Nat.le_trans hx.size hg.size, fun b hb hr => (hg.block b (Nat.lt_of_lt_of_le hb hx.size) (fun e => hr _ (rowAt_mem hk) e.symm)).trans (hx.block b hb hr)⟩, fun j hj hL b hb => ?_, fun i hi j hj hij hLi hLj he => ?_, fun s hsm hL => ?_, fun x hxm hL => ?_⟩
    · by_cases e : j = k
      · subst e
        simp only [envS, if_true] at hb
        have := hv b hb
        exact ⟨this.1, this.2.imp id (fun h => Nat.le_trans hx.size h)⟩
      · simp only [envS, e, if_false] at hb
        have := hn j hj (hold j hj e hL) b hb
        exact ⟨Nat.lt_of_lt_of_le this.1 hg.size, this.2⟩
    · by_cases e : i = k
      · subst e
        simp only [envS, if_true, Ne.symm hij, if_false] at he ⊢
        exact hapart j hj (Ne.symm hij) (hold j hj (Ne.symm hij) hLj) he.symm
      · by_cases e2 : j = k
        · subst e2
          simp only [envS, if_true, e, if_false] at he ⊢
          rw [he]
          exact hapart i hi e (hold i hi e hLi) he
        · simp only [envS, e, e2, if_false] at he ⊢
          exact hd i hi j hj hij (hold i hi e hLi) (hold j hj e2 hLj) he
    · obtain ⟨hsr, hsb⟩ := hs.row s hsm
      obtain ⟨hsj, hsd⟩ := hs.dep s hsm
      by_cases e : s.k = k
      · have h2 : L s.j = true := by
          have := hcl s.j (by rw [← e]; exact hsd)
          rw [← e] at this
          simpa [ins, hsj] using this
        have hjk : s.j ≠ k := by rw [← e]; exact hsj
        refine ⟨by simp [ins, h2], ?_⟩
        simp only [envS, hjk, if_false]
        exact hsk s hsm e
      · obtain ⟨h2, h3⟩ := hst s hsm (hold s.k hsr e hL)
        have hjk : s.j ≠ k := fun e => by rw [e, hLk] at h2; cases h2
        refine ⟨by simp [ins, h2], ?_⟩
        simp only [envS, hjk, if_false]
        refine (hg.block s.b (Array.getElem?_eq_some_iff.1 h3).1 (fun e3 => ?_)).trans h3
        have := h.ne _ (rowAt_mem hsr) _ (rowAt_mem hk) e (hsb.trans e3)
        rw [show (s.k, rowAt rows s.k).2 = some s.b from hsb] at this; cases this
    · have hxk : x.1 ≠ k := fun e => by
        have h2 := hq.ne x hxm
        rw [e] at h2
        have h3 : (rows.map (·.1)).contains k = true := List.elem_eq_true_of_mem hk
        rw [h2] at h3; cases h3
      have hL' : L x.1 = true := by simpa [ins, hxk] using hL
      obtain ⟨h2, h3⟩ := heq x hxm hL'
      have hjk : x.2 ≠ k := fun e => by rw [e, hLk] at h2; cases h2
      refine ⟨by simp [ins, h2], ?_⟩
      simp only [envS, hxk, hjk, if_false]
      exact h3
  a0 L env W W' k j v hk hj hkj _ _ h1 h0k h0j ha := by
    obtain ⟨hg, hv, _⟩ := ha
    refine ⟨Nat.le_trans h0j.1 hg.size, fun b hb => (hg.block b (Nat.lt_of_lt_of_le (h.lt _ (rowAt_mem hj) b hb) h0j.1) (fun e => ?_)).trans (h0j.2 b hb)⟩
    have := h.ne _ (rowAt_mem hj) _ (rowAt_mem hk) (Ne.symm hkj) (hb.trans e)
    rw [hb] at this; cases this
theorem Gp.rows_start (hok : RowsOk w rows) : ∀ W, Gr w W → (Gp.rows w rows st eqs keep m).P1 (fun _ => false) (fun _ => undef) W ∧ ∀ k ∈ (Gp.rows w rows st eqs keep m).wl, (Gp.rows w rows st eqs keep m).P0 k W :=
  fun _ h => ⟨⟨⟨h.os, h.tape, h.output, h.size, fun b hb _ => h.block b hb⟩, (fun _ _ hL => by cases hL), (fun _ _ _ _ _ hL => by cases hL), (fun _ _ hL => by cases hL), fun _ _ hL => by cases hL⟩, fun _ hk => ⟨h.size, fun b hb => h.block b (hok.lt _ (rowAt_mem hk) b hb)⟩⟩
/-- What lies in new blocks alone stays. -/
theorem rows_new {R : Value → World → Prop} {i : Nat} (hok : RowsOk w rows) (hR : ∀ u W W' row, W.grownBy W' row → (∀ b, row = some b → b < w.heap.size) → R u W → R u W') :
    ∀ k ∈ (Gp.rows w rows st eqs keep m).wl, i ≠ k → (Gp.rows w rows st eqs keep m).keep k i = true → (Gp.rows w rows st eqs keep m).dep i k = false → ∀ L env v u W W', L k = false → (Gp.rows w rows st eqs keep m).P1 L env W → (Gp.rows w rows st eqs keep m).P0 k W → (Gp.rows w rows st eqs keep m).A k env v W W' → (Spec.like R).ok u W → (Spec.like R).ok u W' :=
  fun _ hk _ _ _ _ _ _ u W W' _ _ _ ha hr => hR u W W' _ ha.1 (hok.lt _ (rowAt_mem hk)) hr
theorem rows_is {c : Value} {i : Nat} :
    ∀ k ∈ (Gp.rows w rows st eqs keep m).wl, i ≠ k → (Gp.rows w rows st eqs keep m).keep k i = true → (Gp.rows w rows st eqs keep m).dep i k = false → ∀ L env v u W W', L k = false → (Gp.rows w rows st eqs keep m).P1 L env W → (Gp.rows w rows st eqs keep m).P0 k W → (Gp.rows w rows st eqs keep m).A k env v W W' → (Spec.is c).ok u W → (Spec.is c).ok u W' :=
  fun _ _ _ _ _ _ _ _ _ _ _ _ _ _ _ h => h
theorem ownG_same {W W' : World} {base size n : Nat} {e : TypeId} {v : Value} {xs : List Value} (h : W.ownsRow base e size v n xs) (hb : ∀ g, v.ownBlock = some g → W'.heap[g]? = W.heap[g]?) : W'.ownsRow base e size v n xs := by
  refine ⟨h.1, ?_⟩
  rcases h.2 with hn | ⟨g, cap, cur, rfl, h1, hg, h2⟩
  · exact .inl hn
  · exact .inr ⟨g, cap, cur, rfl, h1, (hb g rfl).trans hg, h2⟩
theorem ownG_lt {W : World} {base size n : Nat} {e : TypeId} {v : Value} {xs : List Value} (h : W.ownsRow base e size v n xs) {b : Nat} (hb : v.ownBlock = some b) : b < W.heap.size := by
  rcases h.2 with ⟨rfl, _⟩ | ⟨g, cap, cur, rfl, h1, hg, h2⟩
  · cases hb
  · simp only [Value.ownBlock, Option.some.injEq] at hb
    subst hb
    exact (Array.getElem?_eq_some_iff.1 hg).1
/-- A slice that an append has given: it owns its elements, in the row of the writer or in a new one. -/
def OwnR (w : World) (B : Nat) (e : TypeId) (size : Nat) (row : Option Nat) (n : Nat) (cs : List Value) (v : Value) (W : World) : Prop := W.ownsRow B e size v n cs ∧ NewRow w row v W
theorem OwnR.stab {B : Nat} {e : TypeId} {size : Nat} {row : Option Nat} {n : Nat} {cs : List Value} : ∀ v W W', Gr W W' → OwnR w B e size row n cs v W → OwnR w B e size row n cs v W' := fun _ _ _ hG ⟨h1, h2⟩ =>
  ⟨ownG_same h1 (fun g hg => hG.block g (h2 g hg).1), fun b hb => ⟨Nat.lt_of_lt_of_le (h2 b hb).1 hG.size, (h2 b hb).2⟩⟩
/-- Another writer leaves it. -/
theorem OwnR.other {B : Nat} {e : TypeId} {size : Nat} {k i : Nat} {n : Nat} {cs : List Value} {W W' : World} {env : Nat → Value} {u v : Value} (hok : RowsOk w rows) (hk : k ∈ rows.map (·.1)) (hi : i ∈ rows.map (·.1)) (hki : k ≠ i) (ha : (Gp.rows w rows st eqs keep m).A k env v W W') (h : OwnR w B e size (rowAt rows i) n cs u W) : OwnR w B e size (rowAt rows i) n cs u W' := by
  obtain ⟨h1, h2⟩ := h
  obtain ⟨hg, _, _⟩ := ha
  refine ⟨ownG_same h1 (fun g hg2 => hg.block g (h2 g hg2).1 (fun e => ?_)), fun b hb => ⟨Nat.lt_of_lt_of_le (h2 b hb).1 hg.size, (h2 b hb).2⟩⟩
  rcases (h2 g hg2).2 with h3 | h3
  · have := hok.ne _ (rowAt_mem hk) _ (rowAt_mem hi) hki (e.symm.trans h3.symm)
    rw [← e] at this; cases this
  · have := hok.lt _ (rowAt_mem hk) g e.symm
    omega
theorem rows_own {B : Nat} {e : TypeId} {size : Nat} {i : Nat} {row : Option Nat} {n : Nat} {cs : List Value} (hok : RowsOk w rows) (hi : (rows.map (·.1)).contains i = true) (hrow : rowAt rows i = row) :
    ∀ k ∈ (Gp.rows w rows st eqs keep m).wl, i ≠ k → (Gp.rows w rows st eqs keep m).keep k i = true → (Gp.rows w rows st eqs keep m).dep i k = false → ∀ L env v u W W', L k = false → (Gp.rows w rows st eqs keep m).P1 L env W → (Gp.rows w rows st eqs keep m).P0 k W → (Gp.rows w rows st eqs keep m).A k env v W W' → (Spec.like (OwnR w B e size row n cs)).ok u W → (Spec.like (OwnR w B e size row n cs)).ok u W' := by
  subst hrow
  exact fun k hk hik _ _ _ _ _ _ _ _ _ _ _ ha h => OwnR.other hok hk (List.mem_of_elem_eq_true hi) (Ne.symm hik) ha h
/-- The same, of a value that is given on. -/
theorem rows_mv {B : Nat} {e : TypeId} {size : Nat} {i j : Nat} {row : Option Nat} {n : Nat} {cs : List Value} (hok : RowsOk w rows) (hj : (rows.map (·.1)).contains j = true) (hrow : rowAt rows j = row) (hd : depB (ancs m) i j = true) :
    ∀ k ∈ (Gp.rows w rows st eqs keep m).wl, i ≠ k → (Gp.rows w rows st eqs keep m).keep k i = true → (Gp.rows w rows st eqs keep m).dep i k = false → ∀ L env v u W W', L k = false → (Gp.rows w rows st eqs keep m).P1 L env W → (Gp.rows w rows st eqs keep m).P0 k W → (Gp.rows w rows st eqs keep m).A k env v W W' → (Spec.like (OwnR w B e size row n cs)).ok u W → (Spec.like (OwnR w B e size row n cs)).ok u W' := by
  subst hrow
  exact fun k hk _ _ hdk _ _ _ _ _ _ _ _ _ ha h => OwnR.other hok hk (List.mem_of_elem_eq_true hj) (fun e => by
    rw [e] at hdk
    rw [show (Gp.rows w rows st eqs keep m).dep i j = depB (ancs m) i j from rfl, hd] at hdk
    cases hdk) ha h
/-- The append to a row that nobody has written yet. -/
theorem rows_app {P : Program} {base : Nat} {t ty e : TypeId} {i : TypeInfo} {z : Value} {size bytes : Nat} (ht : P.underlying t = some (.slice e)) (hi : P.info? e = some i) (hz : i.zero = some z)
    (hsize : i.size = size) (hby : i.bytes = bytes) (hzs : z.cells.size = size) (hsz : 0 < size) {W : World} {k : Nat} {v : Value} {n : Nat} {xs : List Value} (hrow : rowAt rows k = v.ownBlock) (hown : w.ownsRow base e size v n xs) (h0 : (Gp.rows w rows st eqs keep m).P0 k W)
    {ad : Addr} {c : Nat} {news : List Value} {len : Nat} (hl : news.length = len * size) (hnews : ∀ j u, news[j]? = some u → W.cell? (ad.add j) = some u) (h1 : ∀ u ∈ news, u.oneCell' = true)
    (h63 : n + len ≤ maxLen) (hbytes : (n + len) * bytes ≤ 140737488355328) (hbase : base ≤ w.heap.size) (hst : ∀ s ∈ st, s.k ≠ k) (env : Nat → Value) :
    ∃ v' W', (Builtin.append_ #[t, t] ty #[v, .slice (some ad) len c]).run P W = .ok v' W' ∧ ((Gp.rows w rows st eqs keep m).A k env v' W W' ∧ OwnR w base e size (rowAt rows k) (n + len) (xs ++ news) v' W') := by
  have hown' : W.ownsRow base e size v n xs := ownG_same hown (fun g hg => h0.2 g (hrow.trans hg))
  obtain ⟨v', W', hr, h2, h3, _, h5⟩ := run_append_own_at (P := P) W base t ty e i z size bytes ht hi hz hsize hby hzs hsz v n xs hown' ad len c news hl hnews h1 h63 hbytes (Nat.le_trans hbase h0.1)
  have hlt2 : ∀ b, v'.ownBlock = some b → b < W'.heap.size := fun b hb => ownG_lt h2 hb
  have hb : ∀ b, v'.ownBlock = some b → rowAt rows k = some b ∨ W.heap.size ≤ b := fun b hb => by
    rcases h5 with h5 | h5
    · exact .inl (hrow.trans (h5.symm.trans hb))
    · rw [h5] at hb; cases hb; exact .inr (Nat.le_refl _)
  exact ⟨v', W', hr, ⟨by rw [hrow]; exact h3, fun b hb' => ⟨hlt2 b hb', hb b hb'⟩, fun s hs e => absurd e (hst s hs)⟩, h2, fun b hb' => ⟨hlt2 b hb', (hb b hb').imp id (fun h => Nat.le_trans h0.1 h)⟩⟩
/-- A store into a block that nobody has written yet. -/
theorem rows_store {k b o j : Nat} {t : TypeId} {cs : Array Value} {W : World} {env : Nat → Value} (hb : w.heap[b]? = some (.cells cs t (0, 0))) (hrow : rowAt rows k = some b) (h0 : (Gp.rows w rows st eqs keep m).P0 k W) (hst : ∀ s ∈ st, s.k = k → s = ⟨k, b, o, j, t, cs⟩) :
    (Gp.rows w rows st eqs keep m).A k env undef W (W.setCell ⟨b, o, none⟩ (env j)) := by
  have h1 : W.heap[b]? = some (.cells cs t (0, 0)) := (h0.2 b hrow).trans hb
  refine ⟨⟨rfl, rfl, rfl, by simp, fun i hi hne => Below.heap_setCell W ⟨b, o, none⟩ (env j) i (fun e => hne (by rw [hrow]; exact congrArg some e))⟩, (fun b hb => by cases hb), fun s hs e => ?_⟩
  cases hst s hs e
  simp [World.setCell, Array.getElem?_modify, h1]
theorem RowsOk.nil : RowsOk w [] := ⟨by simp, by simp, by simp⟩
theorem RowsOk.cons {k : Nat} {row : Option Nat} (h : RowsOk w rows) (hlt : ∀ b, row = some b → b < w.heap.size) (hk : (rows.map (·.1)).contains k = false) (hne : ∀ x ∈ rows, row = x.2 → row = none) : RowsOk w ((k, row) :: rows) := by
  have hk' : ∀ x ∈ rows, x.1 ≠ k := fun x hx e => by
    have : (rows.map (·.1)).contains k = true := List.elem_eq_true_of_mem (by rw [← e]; exact List.mem_map.2 ⟨x, hx, rfl⟩)
    rw [hk] at this; cases this
  refine ⟨fun x hx b hb => ?_, fun x hx y hy hxy he => ?_, fun x hx y hy he => ?_⟩
  · rcases List.mem_cons.1 hx with rfl | hx
    · exact hlt b hb
    · exact h.lt x hx b hb
  · rcases List.mem_cons.1 hx with rfl | hx
    · rcases List.mem_cons.1 hy with rfl | hy
      · exact absurd rfl hxy
      · exact hne y hy he
    · rcases List.mem_cons.1 hy with rfl | hy
      · exact he.trans (hne x hx he.symm)
      · exact h.ne x hx y hy hxy he
  · rcases List.mem_cons.1 hx with rfl | hx
    · rcases List.mem_cons.1 hy with rfl | hy
      · rfl
      · exact absurd he.symm (hk' y hy)
    · rcases List.mem_cons.1 hy with rfl | hy
      · exact absurd he (hk' x hx)
      · exact h.inj x hx y hy he
theorem StOk.cons {k b o j : Nat} {t : TypeId} {cs : Array Value} (h : StOk rows st m) (hk : (rows.map (·.1)).contains k = true) (hrow : rowAt rows k = some b) (hjk : (j == k) = false) (hd : depB (ancs m) k j = true) : StOk rows (⟨k, b, o, j, t, cs⟩ :: st) m := by
  refine ⟨fun s hs => ?_, fun s hs => ?_⟩
  · rcases List.mem_cons.1 hs with rfl | hs
    · exact ⟨List.mem_of_elem_eq_true hk, hrow⟩
    · exact h.row s hs
  · rcases List.mem_cons.1 hs with rfl | hs
    · exact ⟨by simpa using hjk, hd⟩
    · exact h.dep s hs
theorem rows_ne {i : Nat} (h : (rows.map (·.1)).contains i = false) : i ∉ (Gp.rows w rows st eqs keep m).wl := fun hi => by
  have : (rows.map (·.1)).contains i = true := List.elem_eq_true_of_mem hi
  rw [h] at this; cases this
theorem rows_in {i : Nat} (h : (rows.map (·.1)).contains i = true) : i ∈ (Gp.rows w rows st eqs keep m).wl := List.mem_of_elem_eq_true h
theorem rows_safe {j i : Nat} : (Gp.rows w rows st eqs (fun _ _ => true) m).safe j i = true := by simp [Gp.safe, Gp.rows]
theorem rows_safeE {j : Nat} : (Gp.rows w rows st eqs (fun _ _ => true) m).safeE j = true := by simp [Gp.safeE, Gp.rows]
/-- What is below the writers' rows is as it was. -/
theorem GrX.below {V W : World} (h : GrX rows w W) (hb : Below V.heap.size V w) (hr : ∀ x ∈ rows, ∀ b, x.2 = some b → V.heap.size ≤ b) : Below V.heap.size V W :=
  ⟨h.os.trans hb.os, h.tape.trans hb.tape, h.output.trans hb.output, Nat.le_trans hb.size h.size, fun b hbl => (h.block b (Nat.lt_of_lt_of_le hbl hb.size) (fun x hx e => by have := hr x hx b e; omega)).trans (hb.block b hbl)⟩
theorem rows_E {i : Nat} (h : (eqs.map (·.1)).contains i = false) : ∀ env v, (Gp.rows w rows st eqs keep m).E i env v := fun env v x hx e => by
  have : (eqs.map (·.1)).contains i = true := List.elem_eq_true_of_mem (by rw [← e]; exact List.mem_map.2 ⟨x, hx, rfl⟩)
  rw [h] at this; cases this
theorem rows_Eat {i j : Nat} {env : Nat → Value} (h : (eqs.all fun x => x.1 != i || x.2 == j) = true) : (Gp.rows w rows st eqs keep m).E i env (env j) := fun x hx e => by
  have := List.all_eq_true.1 h x hx
  simp only [Bool.or_eq_true, bne_iff_ne, beq_iff_eq] at this
  rcases this with h1 | h1
  · exact absurd e h1
  · rw [h1]
/-- A region whose writers write into rows that are known. -/
theorem dagRowsE (n : Nat) (rows : List (Nat × Option Nat)) (st : List St) (eqs : List (Nat × Nat)) {P : Program} {Q : Exit → Act → World → Prop} {a : Act} {w : World} {id : Nat} {m : List Oper} (hm : P.follows .mixedOrders = true) (hB : dagFit n m = true) (specs : List Spec) (hlen : specs.length = n)
    (hok : RowsOk w rows) (hs : StOk rows st m) (hq : EqOk rows eqs m) (hwl : ((rows.map (·.1)).all fun k => decide (k < n)) = true) (hdo : depOk (ancs m) m = true)
    (hst : ∀ s ∈ specs, ∀ v W W', Gr W W' → s.ok v W → s.ok v W') (hgd : ((rows.map (·.1) ++ eqs.map (·.1)).all fun k => match m[k]? with | some o => o.guard.isNone | none => true) = true)
    (hst2 : StabG (Gp.rows w rows st eqs (fun _ _ => true) m) 0 specs)
    (h : ∀ L env W, (Gp.rows w rows st eqs (fun _ _ => true) m).P1 L env W → OblsKG (Gp.rows w rows st eqs (fun _ _ => true) m) P m.toArray specs env W (dagEndG (Gp.rows w rows st eqs (fun _ _ => true) m) n P Q specs L env W) 0 m specs a) :
    (Code.region id m.toArray true).wp P Q a w :=
  dagG n hm hB specs hlen (Gp.rows_good hok hs hq) (fun k hk => by simpa using List.all_eq_true.1 hwl k hk) rfl hdo (Gp.rows_start hok) hst (fun k hk o ho => by
    have := List.all_eq_true.1 hgd k (List.mem_append_left _ hk)
    rw [ho] at this
    simpa using this) (fun k o _ ho hne env v x hx e => by
    have := List.all_eq_true.1 hgd k (List.mem_append_right _ (by rw [← e]; exact List.mem_map.2 ⟨x, hx, rfl⟩))
    rw [ho] at this
    exact absurd (by simpa using this) hne) (fun k hk i s hik h1 h2 hs => stabG_at specs 0 hst2 k hk i s (by rw [Nat.zero_add]; exact hik) (by rw [Nat.zero_add]; exact h1) (by rw [Nat.zero_add]; exact h2) hs) h
theorem dagRows (n : Nat) (rows : List (Nat × Option Nat)) (st : List St) {P : Program} {Q : Exit → Act → World → Prop} {a : Act} {w : World} {id : Nat} {m : List Oper} (hm : P.follows .mixedOrders = true) (hB : dagFit n m = true) (specs : List Spec) (hlen : specs.length = n)
    (hok : RowsOk w rows) (hs : StOk rows st m) (hwl : ((rows.map (·.1)).all fun k => decide (k < n)) = true) (hdo : depOk (ancs m) m = true)
    (hst : ∀ s ∈ specs, ∀ v W W', Gr W W' → s.ok v W → s.ok v W') (hgd : ((rows.map (·.1)).all fun k => match m[k]? with | some o => o.guard.isNone | none => true) = true)
    (hst2 : StabG (Gp.rows w rows st [] (fun _ _ => true) m) 0 specs)
    (h : ∀ L env W, (Gp.rows w rows st [] (fun _ _ => true) m).P1 L env W → OblsKG (Gp.rows w rows st [] (fun _ _ => true) m) P m.toArray specs env W (dagEndG (Gp.rows w rows st [] (fun _ _ => true) m) n P Q specs L env W) 0 m specs a) :
    (Code.region id m.toArray true).wp P Q a w :=
  dagRowsE n rows st [] hm hB specs hlen hok hs EqOk.nil hwl hdo hst (by rw [List.map_nil, List.append_nil]; exact hgd) hst2 h
end

/-! ### The plain law -/
theorem askI_append (O X : List Od) (g : Int) : askI (O ++ X) g = askI O g + askI X g := by
  unfold askI
  rw [List.map_append, List.sum_append]
theorem askI_cons (o : Od) (X : List Od) (g : Int) : askI (o :: X) g = askI [o] g + askI X g := askI_append [o] X g
theorem askI_rev (g : Int) : ∀ O : List Od, askI O.reverse g = askI O g
  | [] => rfl
  | o :: O => by
    rw [List.reverse_cons, askI_append, askI_rev g O, askI_cons o O]
    omega
theorem aO_rev (O : List Od) : aO O.reverse = aO O := funext fun _ => askI_rev _ O
theorem spV_ask {n : Nat} {O X : List Od} {M : Nat → Int} (h : aO X = aO O) : spV n X M = spV n O M := by unfold spV; rw [h]
theorem leV_ask {n : Nat} {P : List Int} {O X : List Od} {M : Nat → Int} (h : aO X = aO O) : leV n P X M = leV n P O M := by unfold leV; rw [h]
/-- Two orders of one grade are put together. -/
theorem askI_join (A B : List Od) (a c : Od) (h : a.g = c.g) (g : Int) : askI (A ++ ⟨a.g, a.m + c.m⟩ :: B) g = askI (A ++ a :: B ++ [c]) g := by
  rw [askI_append, askI_append, askI_append, askI_cons, askI_cons a B]
  unfold askI
  simp only [List.map_cons, List.map_nil, List.sum_cons, List.sum_nil, ← h]
  split <;> omega
/-- Without its last order no more is asked for. -/
theorem askI_less (O : List Od) (c : Od) (hc : 0 ≤ c.m) (g : Int) : askI O g ≤ askI (O ++ [c]) g := by
  rw [askI_append]
  have : 0 ≤ askI [c] g := by
    unfold askI
    simp only [List.map_cons, List.map_nil, List.sum_cons, List.sum_nil]
    split <;> omega
  omega
theorem short_less {O : List Od} {c : Od} {M : Nat → Int} (hc : 0 ≤ c.m) (g : Nat) : shortI O M g ≤ shortI (O ++ [c]) M g := by
  have := askI_less O c hc g
  unfold shortI
  omega
theorem can_less {n : Nat} {O : List Od} {c : Od} {M : Nat → Int} (hc : 0 ≤ c.m) (h : canB n (O ++ [c]) M = true) : canB n O M = true := by
  rw [canB_iff] at h ⊢
  intro g hg
  have h1 := h g hg
  have h2 := short_less (M := M) (O := O) hc g
  omega
theorem leV_less {n : Nat} {P : List Int} {O : List Od} {c : Od} {M : Nat → Int} {b : Int} (hk : ShOk n P O M b) (hc : 0 ≤ c.m) : leV n P O M ≤ leV n P (O ++ [c]) M := Gr9.leastT_mono hk.pr0 hk.prf (fun _ _ => Int.le_refl _) (fun k _ => askI_less O c hc k)
theorem short_ask {O X : List Od} {M : Nat → Int} (h : ∀ g : Int, askI X g = askI O g) (g : Nat) : shortI X M g = shortI O M g := by unfold shortI; rw [h]
theorem can_ask {n : Nat} {O X : List Od} {M : Nat → Int} (h : ∀ g : Int, askI X g = askI O g) : canB n X M = canB n O M := by
  unfold canB
  simp only [short_ask h]
/-! ### The walk -/
/-- What Spent returns, of a fine shop. -/
def spT (S : List Int) (O : List Od) : List Int := if canB S.length O (stockM S) then spL S.length O (stockM S) else []
theorem spent_both (SA : Option Addr) (sn sc : Nat) (PA : Option Addr) (pn pc : Nat) (OA : Option Addr) (on oc : Nat) (S P : List Int) (O : List Od) (w : World) (hs : ShopIn w w.heap.size SA sn sc PA pn pc OA on oc S P O) (he : shopE S P O = 0) : Calls Try.prog 27 #[.agg #[.slice SA sn sc, .slice PA pn pc, .slice OA on oc]] w fun e w' => ∃ A n c, e = .returned (.tuple #[.slice A n c, .int .i64 (filE S P O)]) ∧ Below w.heap.size w w' ∧ Sl 1 encI w' w'.heap.size A n c (spT S O) := by
  cases hc : canB S.length O (stockM S) with
  | true =>
    have hf := filE_ok he hc
    refine (spentA_ok SA sn sc PA pn pc OA on oc S P O w hs hf).mono ?_
    rintro e w' ⟨b, rfl, hb, hx⟩
    refine ⟨_, _, _, by rw [hf], hb, ?_⟩
    unfold spT
    rw [hc]
    exact hx
  | false =>
    have hf := filE_no he hc
    refine (spentA_bad SA sn sc PA pn pc OA on oc S P O w hs (by rw [hf]; decide)).mono ?_
    rintro e w' ⟨rfl, hb⟩
    refine ⟨_, _, _, rfl, hb, ?_⟩
    unfold spT
    rw [hc]
    exact Sl.nil_
/-- What is the same for orders that ask for as much. -/
theorem spT_ask {S : List Int} {O X : List Od} (h : ∀ g : Int, askI X g = askI O g) : spT S X = spT S O := by
  unfold spT
  rw [can_ask h]
  unfold spL
  rw [spV_ask (funext fun k => h k)]
theorem leastN_ask {S P : List Int} {O X : List Od} (h : ∀ g : Int, askI X g = askI O g) : leastN S P X = leastN S P O := by
  unfold leastN
  rw [can_ask h, leV_ask (funext fun k => h k)]
theorem fine_orders {S P : List Int} {O X : List Od} (hF : Fine S P O) (h8 : X.length ≤ 8) (h : ∀ o ∈ X, o ∈ O) : Fine S P X :=
  ⟨hF.n1, hF.n5, h8, hF.len, hF.stk, hF.prc, fun o ho => hF.ord o (h o ho), hF.fall⟩
theorem chShort_in {S P : List Int} {O : List Od} (he : shopE S P O = 0) {g : Nat} (hg : g < S.length) : chShortR S P O (g : Int) = (shortI O (stockM S) g, 0) := by
  unfold chShortR
  rw [if_neg (fun h => h he), show inR 0 ((S.length : Int) - 1) (g : Int) = true by unfold inR; simp; omega]
  rfl
/-- Orders in a row of the call's own: one is changed. -/
theorem flat_set : ∀ (Y : List Od) (i : Nat) (a : Od) (mm : Int), Y[i]? = some a → (Y.flatMap encO).set (i * 2 + 1) (.int .i64 mm) = (Y.set i ⟨a.g, mm⟩).flatMap encO
  | [], i, a, mm, h => by simp at h
  | y :: Y, 0, a, mm, h => by
    simp at h
    subst h
    rfl
  | y :: Y, i + 1, a, mm, h => by
    rw [List.set_cons_succ, List.flatMap_cons, List.flatMap_cons, ← flat_set Y i a mm (by simpa using h), show (i + 1) * 2 + 1 = (i * 2 + 1) + 1 + 1 by omega]
    rfl
theorem rowO_set {W : World} {B jb jc i n : Nat} {Y : List Od} {a : Od} (h : RowO B Y (.slice (some ⟨jb, 0, none⟩) n jc) W) (hi : Y[i]? = some a) (mm : Int) : ∃ cur, Blk W jb 66 cur ∧ ∀ W', Blk W' jb 66 (cur.setIfInBounds (i * 2 + 1) (.int .i64 mm)) → RowO B (Y.set i ⟨a.g, mm⟩) (.slice (some ⟨jb, 0, none⟩) n jc) W' := by
  unfold RowO at h
  rcases h.2 with ⟨h0, _⟩ | ⟨g, cap, cur, he, hb, hg, hnc, hcm, hcs, htake⟩
  · cases h0
  · cases he
    refine ⟨cur, hg, fun W' hW' => ?_⟩
    unfold RowO
    rw [List.length_set]
    refine ⟨by rw [← flat_set Y i a mm hi, List.length_set]; exact h.1, .inr ⟨jb, jc, _, rfl, hb, hW', hnc, hcm, by simpa using hcs, ?_⟩⟩
    rw [← flat_set Y i a mm hi, ← htake, Array.toList_setIfInBounds, List.take_set]
theorem rowO_sl {W : World} {B n c : Nat} {A : Option Addr} {Y : List Od} (h : RowO B Y (.slice A n c) W) : Sl 2 encO W W.heap.size A n c Y := by
  have hn : Y.length = n := by
    rcases h.2 with ⟨h0, h1⟩ | ⟨g, cap, cur, he, _⟩
    · cases h0; exact h1
    · cases he; rfl
  unfold RowO at h
  obtain ⟨A', c', he, hs⟩ := own_slG (enc := encO) (fun _ => rfl) h rfl
  rw [hn] at he
  cases he
  rw [hn] at hs
  exact hs
theorem rowO_is {W : World} {B : Nat} {v : Value} {Y : List Od} (h : RowO B Y v W) : ∃ A c, v = .slice A Y.length c := by
  unfold RowO at h
  obtain ⟨A', c', he, _⟩ := own_slG (enc := encO) (fun _ => rfl) h rfl
  exact ⟨A', c', he⟩
theorem rowO_zero {W : World} {B n c b o : Nat} {Y : List Od} (h : RowO B Y (.slice (some ⟨b, o, none⟩) n c) W) : o = 0 := by
  rcases h.2 with ⟨h0, h1⟩ | ⟨g, cap, cur, he, _⟩
  · cases h0
  · cases he; rfl
/-- What the second list of orders is, when one of them has been looked for. -/
def JOk (D : List Od) (c : Od) (fd : Bool) (Y : List Od) : Prop := Y.length = D.length ∧ (fd = false → Y = D) ∧ (fd = true → ∃ A a B, D = A ++ a :: B ∧ a.g = c.g ∧ Y = A ++ ⟨a.g, a.m + c.m⟩ :: B)
/-- While lists of orders grow. -/
structure OX (V W : World) (v0 v1 v2 : Value) (X Y Z : List Od) : Prop where
  be : Below V.heap.size V W
  o0 : RowO V.heap.size X v0 W
  o1 : RowO V.heap.size Y v1 W
  o2 : RowO V.heap.size Z v2 W
  n01 : v0.ownBlock = v1.ownBlock → v0.ownBlock = none
  n02 : v0.ownBlock = v2.ownBlock → v0.ownBlock = none
  n12 : v1.ownBlock = v2.ownBlock → v1.ownBlock = none
theorem row_from {W : World} {B n size : Nat} {e : TypeId} {v : Value} {xs : List Value} (h : W.ownsRow B e size v n xs) {b : Nat} (hb : v.ownBlock = some b) : B ≤ b := by
  rcases h.2 with ⟨rfl, _⟩ | ⟨g, cap, cur, rfl, h1, _⟩
  · cases hb
  · simp only [Value.ownBlock, Option.some.injEq] at hb
    omega
section
variable {V W W' : World} {v0 v1 v2 v' : Value} {X Y Z : List Od}
theorem OX.later (h : OX V W v0 v1 v2 X Y Z) (hb : Below W.heap.size W W') : OX V W' v0 v1 v2 X Y Z := ⟨Below.later h.be hb, own_later h.o0 hb, own_later h.o1 hb, own_later h.o2 hb, h.n01, h.n02, h.n12⟩
/-- The first list grows. -/
theorem OX.app0 (h : OX V W v0 v1 v2 X Y Z) {x : Od} (hg : W.grownBy W' v0.ownBlock) (ho : W'.ownsRow V.heap.size 66 2 v' (X.length + 1) (X.flatMap encO ++ encO x)) (hat : v'.ownBlock = v0.ownBlock ∨ v'.ownBlock = some W.heap.size) : OX V W' v' v1 v2 (X ++ [x]) Y Z := by
  have hne : ∀ u : Value, ∀ {n : Nat} {xs : List Value}, W.ownsRow V.heap.size 66 2 u n xs → (v0.ownBlock = u.ownBlock → v0.ownBlock = none) → v'.ownBlock = u.ownBlock → v'.ownBlock = none := fun u n xs hu hn he => by
    rcases hat with h1 | h1
    · rw [h1] at he ⊢; exact hn he
    · exfalso
      have := ownG_lt hu (he.symm.trans h1)
      omega
  have hkeep : ∀ u : Value, ∀ {n : Nat} {xs : List Value}, W.ownsRow V.heap.size 66 2 u n xs → (v0.ownBlock = u.ownBlock → v0.ownBlock = none) → W'.ownsRow V.heap.size 66 2 u n xs := fun u n xs hu hn => ownG_same hu fun g hgu => hg.block g (ownG_lt hu hgu) (fun e => by
    have := hn (e.symm.trans hgu.symm)
    rw [← e] at this; cases this)
  refine ⟨below_row h.be hg (fun r hr => row_from h.o0 hr) h.be.size, ?_, hkeep v1 h.o1 h.n01, hkeep v2 h.o2 h.n02, hne v1 h.o1 h.n01, hne v2 h.o2 h.n02, h.n12⟩
  unfold RowO
  rw [List.flatMap_append, List.length_append]
  simpa using ho
theorem OX.below (h : OX V W v0 v1 v2 X Y Z) (hg : GrX [(7, v1.ownBlock), (15, v2.ownBlock)] W W') : Below V.heap.size V W' := by
  refine hg.below h.be fun x hm b hb => ?_
  simp only [List.mem_cons, List.not_mem_nil, or_false] at hm
  rcases hm with rfl | rfl
  · exact row_from h.o1 hb
  · exact row_from h.o2 hb
/-- The first list stays. -/
theorem OX.keep0 (h : OX V W v0 v1 v2 X Y Z) (hg : GrX [(7, v1.ownBlock), (15, v2.ownBlock)] W W') : RowO V.heap.size X v0 W' := by
  unfold RowO
  refine ownG_same h.o0 fun g hgu => hg.block g (ownG_lt h.o0 hgu) fun x hm e => ?_
  simp only [List.mem_cons, List.not_mem_nil, or_false] at hm
  rcases hm with rfl | rfl
  · have := h.n01 (hgu.trans e.symm)
    rw [hgu] at this; cases this
  · have := h.n02 (hgu.trans e.symm)
    rw [hgu] at this; cases this
/-- A new row is another one than the first list's. -/
theorem OX.apart (h : OX V W v0 v1 v2 X Y Z) {row : Option Nat} (hr : row = v1.ownBlock ∨ row = v2.ownBlock) (hn : NewRow W row v' W') : v0.ownBlock = v'.ownBlock → v0.ownBlock = none := fun he => by
  cases hb : v0.ownBlock with
  | none => rfl
  | some b =>
    exfalso
    have h1 := hn b (by rw [← he, hb])
    have h2 := ownG_lt h.o0 hb
    rcases h1.2 with h3 | h3
    · rcases hr with hr | hr
      · have := h.n01 (by rw [hb, ← h3, hr])
        rw [hb] at this; cases this
      · have := h.n02 (by rw [hb, ← h3, hr])
        rw [hb] at this; cases this
    · omega
theorem OX.rows (h : OX V W v0 v1 v2 X Y Z) : RowsOk W [(7, v1.ownBlock), (15, v2.ownBlock)] := by
  refine (RowsOk.nil.cons ?_ rfl (by simp)).cons ?_ rfl ?_
  · intro b hb; exact ownG_lt h.o2 hb
  · intro b hb; exact ownG_lt h.o1 hb
  · intro x hm he
    rcases List.mem_singleton.1 hm with rfl
    exact h.n12 he
end
/-- A shop's cell is written. -/
theorem OX.setX {V W : World} {v0 v1 v2 : Value} {X Y Z : List Od} (h : OX V W v0 v1 v2 X Y Z) {XB : Nat} {cs : Array Value} (hb : Blk W XB 25 cs) (hV : V.heap.size ≤ XB) (o : Nat) (u : Value) : OX V (W.setCell ⟨XB, o, none⟩ u) v0 v1 v2 X Y Z :=
  ⟨bset h.be (p := ⟨XB, o, none⟩) hV u, own_other h.o0 _ (hb.notRow h.o0 (by decide)) u, own_other h.o1 _ (hb.notRow h.o1 (by decide)) u, own_other h.o2 _ (hb.notRow h.o2 (by decide)) u, h.n01, h.n02, h.n12⟩
theorem split_at {Y : List Od} {i : Nat} {x : Od} (hx : Y[i]? = some x) : Y = Y.take i ++ x :: Y.drop (i + 1) := by
  obtain ⟨hl, rfl⟩ := List.getElem?_eq_some_iff.1 hx
  rw [← List.drop_eq_getElem_cons hl, List.take_append_drop]
/-- One order of the second list is changed. -/
theorem OX.set1 {V W W' : World} {v0 v2 : Value} {X Y Y' Z : List Od} {jb n c : Nat} (h : OX V W v0 (.slice (some ⟨jb, 0, none⟩) n c) v2 X Y Z) (hg : GrX [(12, some jb)] W W') (hY : RowO V.heap.size Y' (.slice (some ⟨jb, 0, none⟩) n c) W') : OX V W' v0 (.slice (some ⟨jb, 0, none⟩) n c) v2 X Y' Z := by
  have hother : ∀ u : Value, ∀ {n : Nat} {xs : List Value}, W.ownsRow V.heap.size 66 2 u n xs → (u.ownBlock = some jb → False) → W'.ownsRow V.heap.size 66 2 u n xs := fun u n xs hu hn => ownG_same hu fun g hgu => hg.block g (ownG_lt hu hgu) fun x hm e => by
    rcases List.mem_singleton.1 hm with rfl
    exact hn (hgu.trans e.symm)
  refine ⟨hg.below h.be fun x hm b hb => ?_, hother v0 h.o0 (fun e => ?_), hY, hother v2 h.o2 (fun e => ?_), h.n01, h.n02, h.n12⟩
  · rcases List.mem_singleton.1 hm with rfl
    cases hb
    exact row_from h.o1 rfl
  · have := h.n01 e
    rw [e] at this; cases this
  · have := h.n12 e.symm
    cases this
set_option maxRecDepth 100000 in
set_option maxHeartbeats 8000000 in
theorem orders_law (SA : Option Addr) (sn sc : Nat) (PA : Option Addr) (pn pc : Nat) (OA : Option Addr) (on oc : Nat) (S P : List Int) (O : List Od) (u1 : Int) (w : World) (hs : ShopIn w w.heap.size SA sn sc PA pn pc OA on oc S P O) (hu1 : 0 ≤ u1 ∧ u1 ≤ 255) : Calls Try.prog 12 #[.agg #[.slice SA sn sc, .slice PA pn pc, .slice OA on oc], .int .u8 u1] w fun e w' => e = .returned (.bool true) ∧ Below w.heap.size w w' := by
  have Hs := Lib.hid hs
  obtain rfl := hs.stk.len
  obtain rfl := hs.prc.len
  obtain rfl := hs.ord.len
  have HG0 := Lib.hid (GW.start hs)
  obtain ⟨g0, g1, g2, g3⟩ := HG0.out.cells
  have Hf := Lib.hid (fun W (h : ShopIn W W.heap.size SA S.length sc PA P.length pc OA O.length oc S P O) => fine_any SA S.length sc PA P.length pc OA O.length oc S P O W h)
  by_cases he : shopE S P O = 0
  case neg =>
    rw [decide_eq_false he] at Hf
    clear hs he hu1 Hs
    go_enter Try.func12, Try.ntmps12
    go_wp2_with fail
    refine (Hf.out _ HG0.out.sh).mono ?_
    rintro e w1 ⟨rfl, hb⟩
    have HG1 := Lib.hid (HG0.out.later hb)
    clear hb HG0 g0 g1 g2 g3
    obtain ⟨g0, g1, g2, g3⟩ := HG1.out.cells
    go_wp2_with fail
    refine (works_any _).mono ?_
    rintro e we ⟨rfl, hbe⟩
    have HBE := Lib.hid (Below.later HG1.out.bel hbe)
    clear hbe
    go_wp2
    go_ret
    exact ⟨rfl, HBE.out⟩
  case pos =>
  rw [decide_eq_true he] at Hf
  have hF := fine_of he
  have n5 := hF.n5
  have n1 := hF.n1
  have o8 := hF.o8
  have HF := Lib.hid hF
  have He := Lib.hid he
  by_cases hO0 : O.length = 0
  · have c1 : (O.length : Int) = 0 := by omega
    have c2 : decide ((O.length : Int) = 0) = true := decide_eq_true c1
    clear hs he hF hu1 hO0
    go_enter Try.func12, Try.ntmps12
    go_wp2_with fail
    refine (Hf.out _ HG0.out.sh).mono ?_
    rintro e w2 ⟨rfl, hb⟩
    have HG1 := Lib.hid (HG0.out.later hb)
    clear hb HG0 g0 g1 g2 g3
    obtain ⟨g0, g1, g2, g3⟩ := HG1.out.cells
    go_wp2_with fail
    refine (works_any _).mono ?_
    rintro e we ⟨rfl, hbe⟩
    have HBE := Lib.hid (Below.later HG1.out.bel hbe)
    clear hbe
    go_wp2
    go_ret
    exact ⟨rfl, HBE.out⟩
  have c1 : ¬ (O.length : Int) = 0 := by omega
  have c3 : ¬ O.length = 0 := hO0
  have c4 : ¬ O = [] := fun e => by rw [e] at c3; exact c3 rfl
  have c5 : IntKind.i64.wrap ((O.length : Int) - 1) = (O.length : Int) - 1 := by rw [IntKind.wrap_i64]; omega
  obtain ⟨N, hN⟩ : ∃ N, O.length = N + 1 := ⟨O.length - 1, by omega⟩
  have c6 : (O.length : Int) - 1 = (N : Int) := by omega
  have c7 : (N : Int) < (O.length : Int) := by omega
  have c8 : (0 : Int) ≤ (N : Int) := by omega
  have HN := Lib.hid hN
  have Hl := Lib.hid (fun W (h : ShopIn W W.heap.size SA S.length sc PA P.length pc OA O.length oc S P O) => least_both SA S.length sc PA P.length pc OA O.length oc S P O W h he)
  have Hsp := Lib.hid (fun W (h : ShopIn W W.heap.size SA S.length sc PA P.length pc OA O.length oc S P O) => spent_both SA S.length sc PA P.length pc OA O.length oc S P O W h he)
  generalize filE S P O = ef at *
  have Hu := Lib.hid hu1
  clear hs he hF hu1 hO0 hN
  go_enter Try.func12, Try.ntmps12
  go_wp2_with fail
  refine (Hf.out _ HG0.out.sh).mono ?_
  rintro e w3 ⟨rfl, hb⟩
  have HG1 := Lib.hid (HG0.out.later hb)
  clear hb HG0 g0 g1 g2 g3
  obtain ⟨g0, g1, g2, g3⟩ := HG1.out.cells
  go_wp2_with fail
  refine (Hl.out _ HG1.out.sh).mono ?_
  rintro e w4 ⟨rfl, hb, hX⟩
  have HG2 := Lib.hid (HG1.out.later hb)
  clear hb HG1 g0 g1 g2 g3
  obtain ⟨g0, g1, g2, g3⟩ := HG2.out.cells
  clear hX
  go_wp2_with fail
  refine (Hsp.out _ HG2.out.sh).mono ?_
  rintro e w5 ⟨TA, tn, tc, rfl, hb, hsl⟩
  have HG3 := Lib.hid (HG2.out.later hb)
  clear hb HG2 g0 g1 g2 g3
  obtain ⟨g0, g1, g2, g3⟩ := HG3.out.cells
  have HT3 := Lib.hid hsl
  clear hsl
  obtain ⟨ob, oo, c, rfl, hob, hcx, l0, l1⟩ := HG3.out.sh.ord.ltO (i := N) (by have := HN.out; omega)
  have Hc := Lib.hid hcx
  clear hcx
  go_wp2_with fail
  clear l0 l1 g0 g1 g2 g3
  obtain ⟨D, hD⟩ : ∃ D, O = D ++ [c] := ⟨O.take N, by
    have h1 := List.take_append_drop N O
    rw [← h1]
    congr 1
    · rw [List.take_append_drop]
    · rw [List.drop_eq_getElem_cons (by have := HN.out; omega), List.drop_of_length_le (by have := HN.out; omega)]
      have h2 := Hc.out
      rw [List.getElem?_eq_getElem (by have := HN.out; omega)] at h2
      simpa using h2⟩
  have hDN : D.length = N := by have := HN.out; rw [hD] at this; simpa using this
  have HD := Lib.hid (And.intro hD hDN)
  clear hD hDN
  have hA := balloc (brefl w5) (.cells #[.int .i64 c.g, .int .i64 c.m] 66)
  have HGV := Lib.hid (HG3.out.later hA)
  have HTV := Lib.hid (Sl.later HT3.out hA)
  have HLV := Lib.hid (Blk.new w5 66 #[.int .i64 c.g, .int .i64 c.m])
  clear hA
  generalize w5.alloc (.cells #[.int .i64 c.g, .int .i64 c.m] 66) = V at *
  generalize w5.heap.size = LB at *
  obtain ⟨nS, hnS⟩ : ∃ nS, leastN S P O = nS := ⟨_, rfl⟩
  rw [hnS]
  have HnS := Lib.hid hnS
  clear hnS
  generalize hcb : canB S.length O (stockM S) = cb at *
  have Hcb := Lib.hid hcb
  clear hcb HG3 HT3 Hl Hsp Hf
  have HX0 := Lib.hid (show OX V V (.slice none 0 0) (.slice none 0 0) (.slice none 0 0) [] [] [] from ⟨brefl V, World.ownsRow_nil _ _ _ _, World.ownsRow_nil _ _ _ _, World.ownsRow_nil _ _ _ _, fun _ => rfl, fun _ => rfl, fun _ => rfl⟩)
  refine loop_n (fun m b W => b.defers = [] ∧ ∃ (i : Nat) (v0 v1 v2 : Value), i + m = O.length ∧ Hid (OX V W v0 v1 v2 (O.reverse.take i) (D.take i) (D.take i)) ∧ Fits (none :: some (.int .u8 u1) :: some (.pointer (some ⟨w.heap.size, 0, none⟩)) :: none :: none :: some (.int .i64 nS) :: some (.bool cb) :: none :: some (.slice TA tn tc) :: none :: some (v0) :: some (v1) :: some (v2) :: some (.pointer (some ⟨LB, 0, none⟩)) :: some (.int .i64 (i : Nat)) :: none :: none :: none :: none :: none :: none :: none :: none :: none :: none :: none :: none :: none :: none :: none :: none :: none :: none :: none :: none :: none :: none :: none :: none :: none :: none :: none :: none :: none :: none :: none :: none :: none :: none :: none :: none :: none :: none :: none :: none :: none :: none :: none :: none :: none :: none :: none :: none :: none :: none :: none :: none :: none :: none :: none :: none :: none :: none :: none :: none :: none :: none :: none :: none :: none :: none :: none :: none :: none :: none :: none :: none :: none :: none :: none :: none :: none :: none :: none :: none :: none :: none :: none :: none :: none :: none :: none :: none :: none :: none :: none :: none :: none :: none :: none :: none :: none :: none :: none :: none :: none :: none :: none :: none :: none :: none :: none :: none :: none :: none :: none :: none :: none :: none :: none :: none :: none :: none :: none :: none :: none :: none :: none :: none :: none :: none :: none :: none :: none :: none :: none :: none :: none :: none :: none :: none :: none :: none :: none :: none :: none :: none :: none :: none :: none :: none :: none :: none :: none :: none :: none :: none :: none :: none :: none :: none :: none :: none :: none :: none :: none :: none :: none :: none :: none :: none :: none :: none :: none :: none :: none :: none :: none :: none :: none :: none :: none :: none :: none :: none :: none :: none :: none :: none :: none :: none :: none :: none :: none :: none :: none :: none :: none :: none :: none :: none :: none :: none :: none :: none :: none :: none :: none :: none :: none :: none :: none :: none :: none :: none :: none :: none :: none :: none :: none :: none :: none :: none :: none :: none :: none :: none :: none :: none :: none :: none :: none :: none :: none :: none :: none :: none :: none :: none :: none :: none :: none :: none :: none :: none :: none :: none :: none :: none :: none :: none :: []) b.tmps.toList) O.length ?_ ?_
  · refine ⟨rfl, 0, _, _, _, by omega, HX0, ?_⟩
    repeat (first | exact fits_nil | refine fits_none ?_ | refine fits_some ?_)
  clear HX0
  intro m b W hI K hK
  obtain ⟨hds, i, v0, v1, v2, him, HX, hfit⟩ := hI
  obtain ⟨f, hf⟩ := fits_act hfit
  rw [hds] at hf
  subst hf
  clear hfit hds
  simp only [fillP, Nat.reduceAdd]
  have HGl := Lib.hid (HGV.out.later HX.out.be)
  obtain ⟨g0, g1, g2, g3⟩ := HGl.out.cells
  by_cases hlt : i < O.length
  · have i1 : (i : Int) < (O.length : Int) := by omega
    have i2 : (0 : Int) ≤ (i : Int) := by omega
    have i3 : IntKind.i64.wrap ((i : Int) + 1) = (i : Int) + 1 := by rw [IntKind.wrap_i64]; omega
    obtain ⟨k, hk⟩ : ∃ k, k + i = N := ⟨N - i, by have := HN.out; omega⟩
    have i4 : IntKind.i64.wrap ((N : Int) - (i : Int)) = (k : Int) := by rw [IntKind.wrap_i64]; have := HN.out; omega
    have i5 : (k : Int) < (O.length : Int) := by omega
    have i6 : (0 : Int) ≤ (k : Int) := by omega
    obtain ⟨ob2, oo2, x, hA, -, hx, q0, q1⟩ := HGl.out.sh.ord.ltO (i := k) (by omega)
    cases hA
    have HT1 := Lib.hid (show O.reverse.take (i + 1) = O.reverse.take i ++ [x] by
      rw [List.take_add_one, List.getElem?_reverse (by omega), show O.length - 1 - i = k by have := HN.out; omega, hx]
      rfl)
    have Him := Lib.hid (show i + m = O.length ∧ i < O.length ∧ k + i = N from ⟨him, hlt, hk⟩)
    have hxl : (O.reverse.take i).length ≤ 8 := by simp; omega
    have hyl : (D.take i).length ≤ 8 := by simp; omega
    generalize O.reverse.take i = X at *
    obtain ⟨Y, hY⟩ : ∃ Y, D.take i = Y := ⟨_, rfl⟩
    rw [hY] at HX hyl
    have HY := Lib.hid hY
    have HXa := Lib.hid (HX.out.later (balloc (brefl W) (.cells #[.int .i64 x.g, .int .i64 x.m] 66)))
    obtain ⟨i0, hi0, hz0, hz1, hz2⟩ := info_parts info_ord
    have hsz := HX.out.be.size
    clear him hx hk hY
    by_cases hl2 : i + 1 < O.length
    · have j1 : (i : Int) + 1 < (O.length : Int) := by omega
      have Hl2 := Lib.hid hl2
      clear hlt hl2
      obtain ⟨ob3, oo3, y, hA, hob3, hy, q2, q3⟩ := HGV.out.sh.ord.ltO (i := i) (by have := Him.out; omega)
      cases hA
      have HYn := Lib.hid (show D.take (i + 1) = Y ++ [y] by
        rw [List.take_add_one, HY.out]
        have h1 := HD.out
        have h2 := HN.out
        have h3 := hy
        rw [h1.1, List.getElem?_append_left (by have := Hl2.out; omega)] at h3
        rw [h3]
        rfl)
      clear hy
      go_wp2_with (at_builtin; refine wpList_append_own_at _ rfl _ _ 23 rfl V.heap.size 66 i0 (.agg #[.int .i64 0, .int .i64 0]) 2 16 und_ords hi0 hz0 hz1 hz2 rfl (by decide) v0 X.length _ rfl HXa.out.o0 ⟨W.heap.size, 0, none⟩ 1 1 (encO x) rfl rfl (two_new _ _ _ _) (by simp [encO, Value.oneCell']) (by simp only [maxLen]; omega) (by omega) (by simp; omega) ?_; intro v' W3 hown' hgr _ hat; have HX1 := Lib.hid (HXa.out.app0 hgr hown' hat); clear hown' hgr hat; have HG1 := Lib.hid (HGV.out.later HX1.out.be); obtain ⟨r0, r1, r2, r3⟩ := HG1.out.cells)
      clear q0 q1 g0 g1 g2 g3 i4 i5 i6
      have HRk := Lib.hid HX1.out.rows
      refine dagRowsE 18 [(7, v1.ownBlock), (15, v2.ownBlock)] [] [(16, 7), (17, 15)] (by kernel_rfl) (by kernel_rfl) (.is ?_ :: .is ?_ :: .is ?_ :: .is ?_ :: .is ?_ :: .is ?_ :: .like (OneO W3.heap.size y) :: .like (OwnR W3 V.heap.size 66 2 v1.ownBlock (Y.length + 1) (Y.flatMap encO ++ encO y)) :: .is ?_ :: .is ?_ :: .is ?_ :: .is ?_ :: .is ?_ :: .is ?_ :: .like (OneO W3.heap.size y) :: .like (OwnR W3 V.heap.size 66 2 v2.ownBlock (Y.length + 1) (Y.flatMap encO ++ encO y)) :: .like (OwnR W3 V.heap.size 66 2 v1.ownBlock (Y.length + 1) (Y.flatMap encO ++ encO y)) :: .like (OwnR W3 V.heap.size 66 2 v2.ownBlock (Y.length + 1) (Y.flatMap encO ++ encO y)) :: []) rfl HRk.out StOk.nil ((EqOk.nil.cons rfl rfl (by kernel_rfl)).cons rfl rfl (by kernel_rfl)) rfl (by kernel_rfl) ?st1 (by kernel_rfl) ?sg1 ?ob1
      case st1 => repeat (first | exact stab_nil | refine stab_is ?_ | refine stab_like OneO.stab ?_ | refine stab_like OwnR.stab ?_)
      case sg1 => exact ⟨rows_is, rows_is, rows_is, rows_is, rows_is, rows_is, rows_new HRk.out (fun u W W' row hg hr h => h.grown hg hr), rows_own HRk.out rfl rfl, rows_is, rows_is, rows_is, rows_is, rows_is, rows_is, rows_new HRk.out (fun u W W' row hg hr h => h.grown hg hr), rows_own HRk.out rfl rfl, rows_mv (j := 7) HRk.out rfl rfl (by kernel_rfl), rows_mv (j := 15) HRk.out rfl rfl (by kernel_rfl), trivial⟩
      case ob1 =>
      intro L env1 W2 hP
      have hb2 := HX1.out.below hP.1
      have HP := Lib.hid hP
      have HGw := Lib.hid (HGV.out.later hb2)
      obtain ⟨g0, g1, g2, g3⟩ := HGw.out.cells
      have q4 := (hb2.cell (p := ⟨ob, oo + i * 2, none⟩) hob3).trans q2
      have q5 := (hb2.cell (p := ⟨ob, oo + i * 2 + 1, none⟩) hob3).trans q3
      have q6 := Nat.lt_of_lt_of_le hob3 hb2.size
      have HW2 := Lib.hid (show V.heap.size ≤ W3.heap.size ∧ W3.heap.size ≤ W2.heap.size from ⟨HX1.out.be.size, hP.1.size⟩)
      clear hP hb2
      iterate 6 (refine oblsG_is (rows_ne rfl) (rows_E rfl) (fun _ => ?_) ?_; unfold doesAt; go_simp; (try go_bits); (first | (refine ⟨brefl _, ?_⟩; rfl) | rfl); intro K hK; go_simp; refine hK _ ?_; clear hK K)
      refine oblsG_like (rows_ne rfl) (rows_E rfl) (fun _ _ => ?_) ?_
      · unfold doesAt
        go_simp
        have hbn := Blk.new W2 66 #[.int .i64 y.g, .int .i64 y.m]
        exact ⟨balloc (brefl W2) _, W2.heap.size, rfl, HW2.out.2, hbn.lt, hbn.cell 0, hbn.cell 1⟩
      intro K hK
      go_simp
      refine hK _ ?_
      clear hK K
      refine oblsG_wr (rows_in rfl) (fun hl hp => ?_) ?_
      · obtain ⟨gb, hE, hg1, hg2, hg3, hg4⟩ := hl ⟨6, .data⟩ (by simp) rfl rows_safe
        refine app_of_run rfl (.tmp 89) (.tmp 95) 23 rfl rfl rfl ?_
        rw [show env1 6 = _ from hE]
        exact rows_app und_ords hi0 hz0 hz1 hz2 rfl (by decide) rfl HX1.out.o1 (hp 7 (rows_in rfl) (.inl rfl)) (len := 1) rfl (one_newsO hg3 hg4) (by simp [encO, Value.oneCell']) (by simp only [maxLen]; omega) (by omega) HW2.out.1 (by simp) env1
      intro K hK
      go_simp
      refine hK _ ?_
      clear hK K
      iterate 6 (refine oblsG_is (rows_ne rfl) (rows_E rfl) (fun _ => ?_) ?_; unfold doesAt; go_simp; (try go_bits); (first | (refine ⟨brefl _, ?_⟩; rfl) | rfl); intro K hK; go_simp; refine hK _ ?_; clear hK K)
      refine oblsG_like (rows_ne rfl) (rows_E rfl) (fun _ _ => ?_) ?_
      · unfold doesAt
        go_simp
        have hbn := Blk.new W2 66 #[.int .i64 y.g, .int .i64 y.m]
        exact ⟨balloc (brefl W2) _, W2.heap.size, rfl, HW2.out.2, hbn.lt, hbn.cell 0, hbn.cell 1⟩
      intro K hK
      go_simp
      refine hK _ ?_
      clear hK K
      refine oblsG_wr (rows_in rfl) (fun hl hp => ?_) ?_
      · obtain ⟨gb, hE, hg1, hg2, hg3, hg4⟩ := hl ⟨14, .data⟩ (by simp) rfl rows_safe
        refine app_of_run rfl (.tmp 97) (.tmp 103) 23 rfl rfl rfl ?_
        rw [show env1 14 = _ from hE]
        exact rows_app und_ords hi0 hz0 hz1 hz2 rfl (by decide) rfl HX1.out.o2 (hp 15 (rows_in rfl) (.inl rfl)) (len := 1) rfl (one_newsO hg3 hg4) (by simp [encO, Value.oneCell']) (by simp only [maxLen]; omega) (by omega) HW2.out.1 (by simp) env1
      intro K hK
      go_simp
      refine hK _ ?_
      clear hK K
      refine oblsG_mv (rows_ne rfl) (fun hl => ?_) ?_
      · have h0 := hl ⟨7, .data⟩ (by simp) rfl rows_safe
        unfold doesAt
        go_simp
        exact ⟨⟨brefl _, rows_Eat rfl⟩, h0⟩
      intro K hK
      go_simp
      refine hK _ ?_
      clear hK K
      refine oblsG_mv (rows_ne rfl) (fun hl => ?_) ?_
      · have h0 := hl ⟨15, .data⟩ (by simp) rfl rows_safe
        unfold doesAt
        go_simp
        exact ⟨⟨brefl _, rows_Eat rfl⟩, h0⟩
      intro K hK
      go_simp
      refine hK _ ?_
      clear hK K
      refine oblsG_nil (fun hall hok => ?_)
      have h16 : OwnR W3 V.heap.size 66 2 v1.ownBlock (Y.length + 1) (Y.flatMap encO ++ encO y) (env1 16) W2 := hok 16 _ rfl rows_safeE
      have h17 : OwnR W3 V.heap.size 66 2 v2.ownBlock (Y.length + 1) (Y.flatMap encO ++ encO y) (env1 17) W2 := hok 17 _ rfl rows_safeE
      have hlink := HP.out.2.2.1 7 (by simp) 15 (by simp) (by decide) (hall 7 (by decide)) (hall 15 (by decide))
      have he1 := (HP.out.2.2.2.2 (16, 7) (.head _) (hall 16 (by decide))).2
      have he2 := (HP.out.2.2.2.2 (17, 15) (.tail _ (.head _)) (hall 17 (by decide))).2
      rw [← he1, ← he2] at hlink
      have HXn := Lib.hid (show OX V W2 v' (env1 16) (env1 17) (X ++ [x]) (Y ++ [y]) (Y ++ [y]) from ⟨HX1.out.below HP.out.1, HX1.out.keep0 HP.out.1, by unfold RowO; rw [List.flatMap_append, List.length_append]; simpa using h16.1, by unfold RowO; rw [List.flatMap_append, List.length_append]; simpa using h17.1, HX1.out.apart (.inl rfl) h16.2, HX1.out.apart (.inr rfl) h17.2, hlink⟩)
      clear h16 h17 hlink he1 he2 hok hall q2 q3 q4 q5 q6 HP HGw r0 r1 r2 r3
      go_wp2_with fail
      refine hK _ _ (m - 1) (by have := Him.out; omega) ⟨rfl, i + 1, _, _, _, by have := Him.out; omega, by rw [HT1.out, HYn.out]; exact HXn, ?_⟩
      repeat (first | exact fits_nil | refine fits_none ?_ | refine fits_some ?_)
    · have j1 : ¬ (i : Int) + 1 < (O.length : Int) := by omega
      have Hl2 := Lib.hid hl2
      have HYn := Lib.hid (show D.take (i + 1) = Y by
        have := HD.out.2
        have := HN.out
        rw [← HY.out, List.take_of_length_le (by omega), List.take_of_length_le (by omega)])
      clear hlt hl2
      go_wp2_with (at_builtin; refine wpList_append_own_at _ rfl _ _ 23 rfl V.heap.size 66 i0 (.agg #[.int .i64 0, .int .i64 0]) 2 16 und_ords hi0 hz0 hz1 hz2 rfl (by decide) v0 X.length _ rfl HXa.out.o0 ⟨W.heap.size, 0, none⟩ 1 1 (encO x) rfl rfl (two_new _ _ _ _) (by simp [encO, Value.oneCell']) (by simp only [maxLen]; omega) (by omega) (by simp; omega) ?_; intro v' W3 hown' hgr _ hat; have HX1 := Lib.hid (HXa.out.app0 hgr hown' hat); clear hown' hgr hat; have HG1 := Lib.hid (HGV.out.later HX1.out.be); obtain ⟨r0, r1, r2, r3⟩ := HG1.out.cells)
      refine hK _ _ (m - 1) (by have := Him.out; omega) ⟨rfl, i + 1, _, _, _, by have := Him.out; omega, by rw [HT1.out, HYn.out]; exact HX1, ?_⟩
      repeat (first | exact fits_nil | refine fits_none ?_ | refine fits_some ?_)
  · obtain rfl : i = O.length := by omega
    have i1 : ¬ (O.length : Int) < (O.length : Int) := by omega
    clear him hlt hK
    have hdl := HD.out.2
    have hnl := HN.out
    rw [List.take_of_length_le (by simp), List.take_of_length_le (by omega)] at HX
    generalize hRv : O.reverse = R at *
    have HRv := Lib.hid hRv
    have hRl : R.length = O.length := by rw [← hRv]; simp
    have HRl := Lib.hid hRl
    clear hRv hRl hdl hnl
    obtain ⟨A0, c0, rfl⟩ := rowO_is HX.out.o0
    obtain ⟨A1, c1, rfl⟩ := rowO_is HX.out.o1
    obtain ⟨A2, c2, rfl⟩ := rowO_is HX.out.o2
    go_wp2_with fail
    refine loop_n (fun m b W => b.defers = [] ∧ ∃ (i : Nat) (fd : Bool) (Y : List Od), i + m = D.length ∧ Hid (OX V W (.slice A0 R.length c0) (.slice A1 D.length c1) (.slice A2 D.length c2) R Y D) ∧ Hid (JOk D c fd Y) ∧ Fits (none :: some (.int .u8 u1) :: some (.pointer (some ⟨w.heap.size, 0, none⟩)) :: none :: none :: some (.int .i64 nS) :: some (.bool cb) :: none :: some (.slice TA tn tc) :: none :: some (.slice A0 R.length c0) :: some (.slice A1 D.length c1) :: some (.slice A2 D.length c2) :: some (.pointer (some ⟨LB, 0, none⟩)) :: none :: some (.bool fd) :: some (.int .i64 (i : Nat)) :: none :: none :: none :: none :: none :: none :: none :: none :: none :: none :: none :: none :: none :: none :: none :: none :: none :: none :: none :: none :: none :: none :: none :: none :: none :: none :: none :: none :: none :: none :: none :: none :: none :: none :: none :: none :: none :: none :: none :: none :: none :: none :: none :: none :: none :: none :: none :: none :: none :: none :: none :: none :: none :: none :: none :: none :: none :: none :: none :: none :: none :: none :: none :: none :: none :: none :: none :: none :: none :: none :: none :: none :: none :: none :: none :: none :: none :: none :: none :: none :: none :: none :: none :: none :: none :: none :: none :: none :: none :: none :: none :: none :: none :: none :: none :: none :: none :: none :: none :: none :: none :: none :: none :: none :: none :: none :: none :: none :: none :: none :: none :: none :: none :: none :: none :: none :: none :: none :: none :: none :: none :: none :: none :: none :: none :: none :: none :: none :: none :: none :: none :: none :: none :: none :: none :: none :: none :: none :: none :: none :: none :: none :: none :: none :: none :: none :: none :: none :: none :: none :: none :: none :: none :: none :: none :: none :: none :: none :: none :: none :: none :: none :: none :: none :: none :: none :: none :: none :: none :: none :: none :: none :: none :: none :: none :: none :: none :: none :: none :: none :: none :: none :: none :: none :: none :: none :: none :: none :: none :: none :: none :: none :: none :: none :: none :: none :: none :: none :: none :: none :: none :: none :: none :: none :: none :: none :: none :: none :: none :: none :: none :: none :: none :: none :: none :: none :: none :: none :: none :: none :: none :: none :: none :: none :: none :: none :: none :: none :: none :: none :: none :: none :: none :: none :: none :: none :: none :: none :: none :: none :: none :: none :: none :: none :: []) b.tmps.toList) D.length ?_ ?_
    · refine ⟨rfl, 0, false, D, by omega, HX, Lib.hid ⟨rfl, fun _ => rfl, fun h => by cases h⟩, ?_⟩
      repeat (first | exact fits_nil | refine fits_none ?_ | refine fits_some ?_)
    clear HX g0 g1 g2 g3 HGl
    clear W
    intro m b W hI K hK
    obtain ⟨hds, i, fd, Y, him, HX, HJ, hfit⟩ := hI
    obtain ⟨f, hf⟩ := fits_act hfit
    rw [hds] at hf
    subst hf
    clear hfit hds
    simp only [fillP, Nat.reduceAdd]
    have HGl := Lib.hid (HGV.out.later HX.out.be)
    cases fd with
    | true =>
      by_cases hlt : i < D.length
      · have i1 : (i : Int) < (D.length : Int) := by omega
        clear him hlt hK
        have hYa : ∀ g : Int, askI Y g = askI O g := fun g => by
          obtain ⟨A, a, B, h1, h2, h3⟩ := HJ.out.2.2 rfl
          rw [h3, HD.out.1, h1]
          exact askI_join A B a c h2 g
        have HfY := Lib.hid (fun W (h : ShopIn W W.heap.size SA S.length sc PA P.length pc A1 D.length c1 S P Y) => fine_any SA S.length sc PA P.length pc A1 D.length c1 S P Y W h)
        have HspY := Lib.hid (fun he W (h : ShopIn W W.heap.size SA S.length sc PA P.length pc A1 D.length c1 S P Y) => spent_both SA S.length sc PA P.length pc A1 D.length c1 S P Y W h he)
        have HlY := Lib.hid (fun he W (h : ShopIn W W.heap.size SA S.length sc PA P.length pc A1 D.length c1 S P Y) => least_both SA S.length sc PA P.length pc A1 D.length c1 S P Y W h he)
        rw [spT_ask hYa] at HspY
        rw [leastN_ask hYa, can_ask hYa, HnS.out, Hcb.out] at HlY
        generalize filE S P Y = eY at *
        clear hYa
        have hA := balloc (brefl W) (.cells #[.slice SA S.length sc, .slice PA P.length pc, .slice A0 R.length c0] 25)
        have HQ0 := Lib.hid (HX.out.later hA)
        have HG0 := Lib.hid (HGV.out.later HQ0.out.be)
        have HT0 := Lib.hid (Sl.later HTV.out HQ0.out.be)
        have HO0 := Lib.hid (show GW w _ W.heap.size SA S.length sc PA P.length pc A0 R.length c0 S P R from ⟨HG0.out.bel, Blk.new W _ _, ⟨HG0.out.sh.stk, HG0.out.sh.prc, rowO_sl HQ0.out.o0⟩⟩)
        have HXB := Lib.hid (show V.heap.size ≤ W.heap.size from HX.out.be.size)
        have hFR := fine_orders HF.out (X := R) (by have := HRl.out; omega) (fun o ho => by rw [← HRv.out] at ho; exact List.mem_reverse.1 ho)
        have hFD := fine_orders HF.out (X := D) (by have := HD.out.2; have := HN.out; omega) (fun o ho => by rw [HD.out.1]; exact List.mem_append_left _ ho)
        have hRa : ∀ g : Int, askI R g = askI O g := fun g => by rw [← HRv.out]; exact askI_rev g O
        have HspR := Lib.hid (fun W (h : ShopIn W W.heap.size SA S.length sc PA P.length pc A0 R.length c0 S P R) => spent_both SA S.length sc PA P.length pc A0 R.length c0 S P R W h (fine_iff hFR))
        have HlR := Lib.hid (fun W (h : ShopIn W W.heap.size SA S.length sc PA P.length pc A0 R.length c0 S P R) => least_both SA S.length sc PA P.length pc A0 R.length c0 S P R W h (fine_iff hFR))
        have HlD := Lib.hid (fun W (h : ShopIn W W.heap.size SA S.length sc PA P.length pc A2 D.length c2 S P D) => least_both SA S.length sc PA P.length pc A2 D.length c2 S P D W h (fine_iff hFD))
        rw [spT_ask hRa] at HspR
        rw [leastN_ask hRa, can_ask hRa, HnS.out, Hcb.out] at HlR
        generalize filE S P R = eR at *
        have hu := Hu.out
        obtain ⟨g, hg⟩ : ∃ g : Nat, u1.tmod (S.length : Int) = (g : Int) := ⟨(u1.tmod (S.length : Int)).toNat, by
          rw [Int.tmod_eq_emod_of_nonneg hu.1]
          have := Int.emod_nonneg u1 (show (S.length : Int) ≠ 0 by omega)
          omega⟩
        have gl : g < S.length := by
          have h1 := Int.emod_lt_of_pos u1 (show (0 : Int) < (S.length : Int) by omega)
          rw [Int.tmod_eq_emod_of_nonneg hu.1] at hg
          omega
        have e4 : IntKind.i64.wrap u1 = u1 := by rw [IntKind.wrap_i64]; omega
        have e5 : IntKind.i64.wrap (g : Int) = (g : Int) := by rw [IntKind.wrap_i64]; omega
        have e6 : ¬ (S.length : Int) = 0 := by omega
        have e7 : ¬ S = [] := fun e => by rw [e] at n1; simp at n1
        have HcO := Lib.hid (fun W (h : ShopIn W W.heap.size SA S.length sc PA P.length pc (some ⟨ob, oo, none⟩) O.length oc S P O) => checkShort_any SA S.length sc PA P.length pc (some ⟨ob, oo, none⟩) O.length oc S P O W h (g : Int))
        have HcD := Lib.hid (fun W (h : ShopIn W W.heap.size SA S.length sc PA P.length pc A2 D.length c2 S P D) => checkShort_any SA S.length sc PA P.length pc A2 D.length c2 S P D W h (g : Int))
        rw [chShort_in He.out gl] at HcO
        rw [chShort_in (fine_iff hFD) gl] at HcD
        have hcm : 0 ≤ c.m := (HF.out.ord c (by rw [HD.out.1]; simp)).2.1
        have k1 : shortI D (stockM S) g ≤ shortI O (stockM S) g := by rw [HD.out.1]; exact short_less hcm g
        have k2 : cb = true → canB S.length D (stockM S) = true ∧ leastN S P D ≤ nS := fun h => by
          have h1 := Hcb.out
          rw [h] at h1
          have h2 : canB S.length D (stockM S) = true := can_less hcm (by rw [← HD.out.1]; exact h1)
          refine ⟨h2, ?_⟩
          rw [leastN_can h2, ← HnS.out, leastN_can h1]
          have h3 := leV_less (c := c) hFD.ok hcm
          rw [← HD.out.1] at h3
          exact h3
        generalize shortI D (stockM S) g = sD at *
        generalize shortI O (stockM S) g = sO at *
        generalize canB S.length D (stockM S) = cD at *
        generalize leastN S P D = nD at *
        obtain ⟨g0, g1, g2, g3⟩ := HGl.out.cells
        obtain ⟨o0, o1, o2, o3⟩ := HO0.out.cells
        clear hA hu hcm gl hFR hFD hRa HX
        go_wp2_with fail
        refine (HspR.out _ HO0.out.sh).mono ?_
        rintro e w6 ⟨UA, un, uc, rfl, hb, hsl⟩
        have HG1 := Lib.hid (HG0.out.later hb)
        have HO1 := Lib.hid (HO0.out.later hb)
        have HQ1 := Lib.hid (HQ0.out.later hb)
        have HT1 := Lib.hid (HT0.out.later hb)
        clear hb HG0 HO0 HQ0 HT0 g0 g1 g2 g3 o0 o1 o2 o3
        obtain ⟨g0, g1, g2, g3⟩ := HG1.out.cells
        obtain ⟨o0, o1, o2, o3⟩ := HO1.out.cells
        have HU1 := Lib.hid hsl
        clear hsl
        go_wp2_with fail
        refine (HlR.out _ HO1.out.sh).mono ?_
        rintro e w7 ⟨rfl, hb, hX⟩
        have HG2 := Lib.hid (HG1.out.later hb)
        have HO2 := Lib.hid (HO1.out.later hb)
        have HQ2 := Lib.hid (HQ1.out.later hb)
        have HT2 := Lib.hid (HT1.out.later hb)
        have HU2 := Lib.hid (HU1.out.later hb)
        clear hb HG1 HO1 HQ1 HT1 HU1 g0 g1 g2 g3 o0 o1 o2 o3
        obtain ⟨g0, g1, g2, g3⟩ := HG2.out.cells
        obtain ⟨o0, o1, o2, o3⟩ := HO2.out.cells
        clear hX
        go_wp2_with fail
        refine (eqL HU2.out HT2.out).mono ?_
        rintro e w8 ⟨rfl, hb⟩
        have HG3 := Lib.hid (HG2.out.later hb)
        have HO3 := Lib.hid (HO2.out.later hb)
        have HQ3 := Lib.hid (HQ2.out.later hb)
        have HT3 := Lib.hid (HT2.out.later hb)
        have HU3 := Lib.hid (HU2.out.later hb)
        clear hb HG2 HO2 HQ2 HT2 HU2 g0 g1 g2 g3 o0 o1 o2 o3
        obtain ⟨g0, g1, g2, g3⟩ := HG3.out.cells
        obtain ⟨o0, o1, o2, o3⟩ := HO3.out.cells
        have y1 := HO3.out.b0.frozen 2
        have HQs := Lib.hid (HQ3.out.setX HO3.out.b0 HXB.out 2 (.slice A1 D.length c1))
        have HGs := Lib.hid (HGV.out.later HQs.out.be)
        have HTs := Lib.hid (Sl.later HTV.out HQs.out.be)
        have HOs := Lib.hid (show GW w _ W.heap.size SA S.length sc PA P.length pc A1 D.length c1 S P Y from ⟨HGs.out.bel, HO3.out.b0.set 2 _, ⟨HGs.out.sh.stk, HGs.out.sh.prc, rowO_sl HQs.out.o1⟩⟩)
        have HG0 := HGs
        have HO0 := HOs
        have HQ0 := HQs
        have HT0 := HTs
        clear HGs HOs HQs HTs
        obtain ⟨g0, g1, g2, g3⟩ := HG0.out.cells
        obtain ⟨o0, o1, o2, o3⟩ := HO0.out.cells
        cases hy : decide (shopE S P Y = 0) with
        | false =>
          rw [hy] at HfY
          clear hy
          go_wp2_with fail
          refine (HfY.out _ HO0.out.sh).mono ?_
          rintro e w9 ⟨rfl, hb⟩
          have HG1 := Lib.hid (HG0.out.later hb)
          have HO1 := Lib.hid (HO0.out.later hb)
          have HQ1 := Lib.hid (HQ0.out.later hb)
          have HT1 := Lib.hid (HT0.out.later hb)
          clear hb HG0 HO0 HQ0 HT0 g0 g1 g2 g3 o0 o1 o2 o3
          obtain ⟨g0, g1, g2, g3⟩ := HG1.out.cells
          obtain ⟨o0, o1, o2, o3⟩ := HO1.out.cells
          have y2 := HO1.out.b0.frozen 2
          have HQs := Lib.hid (HQ1.out.setX HO1.out.b0 HXB.out 2 (.slice A2 D.length c2))
          have HGs := Lib.hid (HGV.out.later HQs.out.be)
          have HTs := Lib.hid (Sl.later HTV.out HQs.out.be)
          have HOs := Lib.hid (show GW w _ W.heap.size SA S.length sc PA P.length pc A2 D.length c2 S P D from ⟨HGs.out.bel, HO1.out.b0.set 2 _, ⟨HGs.out.sh.stk, HGs.out.sh.prc, rowO_sl HQs.out.o2⟩⟩)
          have HG0 := HGs
          have HO0 := HOs
          have HQ0 := HQs
          have HT0 := HTs
          clear HGs HOs HQs HTs
          obtain ⟨g0, g1, g2, g3⟩ := HG0.out.cells
          obtain ⟨o0, o1, o2, o3⟩ := HO0.out.cells
          go_wp2_with fail
          refine (HcO.out _ HG0.out.sh).mono ?_
          rintro e w10 ⟨rfl, hb⟩
          have HG1 := Lib.hid (HG0.out.later hb)
          have HO1 := Lib.hid (HO0.out.later hb)
          have HQ1 := Lib.hid (HQ0.out.later hb)
          have HT1 := Lib.hid (HT0.out.later hb)
          clear hb HG0 HO0 HQ0 HT0 g0 g1 g2 g3 o0 o1 o2 o3
          obtain ⟨g0, g1, g2, g3⟩ := HG1.out.cells
          obtain ⟨o0, o1, o2, o3⟩ := HO1.out.cells
          go_wp2_with fail
          refine (HcD.out _ HO1.out.sh).mono ?_
          rintro e w11 ⟨rfl, hb⟩
          have HG2 := Lib.hid (HG1.out.later hb)
          have HO2 := Lib.hid (HO1.out.later hb)
          have HQ2 := Lib.hid (HQ1.out.later hb)
          have HT2 := Lib.hid (HT1.out.later hb)
          clear hb HG1 HO1 HQ1 HT1 g0 g1 g2 g3 o0 o1 o2 o3
          obtain ⟨g0, g1, g2, g3⟩ := HG2.out.cells
          obtain ⟨o0, o1, o2, o3⟩ := HO2.out.cells
          go_wp2_with fail
          refine (HlD.out _ HO2.out.sh).mono ?_
          rintro e w12 ⟨rfl, hb, hX⟩
          have HG3 := Lib.hid (HG2.out.later hb)
          have HO3 := Lib.hid (HO2.out.later hb)
          have HQ3 := Lib.hid (HQ2.out.later hb)
          have HT3 := Lib.hid (HT2.out.later hb)
          clear hb HG2 HO2 HQ2 HT2 g0 g1 g2 g3 o0 o1 o2 o3
          obtain ⟨g0, g1, g2, g3⟩ := HG3.out.cells
          obtain ⟨o0, o1, o2, o3⟩ := HO3.out.cells
          clear hX
          have k3 : decide (sD ≤ sO) = true := decide_eq_true k1
          cases cb with
          | false =>
            clear k2
            go_wp2_with fail
            refine (works_any _).mono ?_
            rintro e we ⟨rfl, hbe⟩
            have HBE := Lib.hid (Below.later HG3.out.bel hbe)
            clear hbe
            go_wp2
            go_ret
            exact ⟨rfl, HBE.out⟩
          | true =>
            obtain ⟨k4, k5⟩ := k2 rfl
            subst k4
            have k6 : decide (nD ≤ nS) = true := decide_eq_true k5
            go_wp2_with fail
            refine (works_any _).mono ?_
            rintro e we ⟨rfl, hbe⟩
            have HBE := Lib.hid (Below.later HG3.out.bel hbe)
            clear hbe
            go_wp2
            go_ret
            exact ⟨rfl, HBE.out⟩
        | true =>
          rw [hy] at HfY
          have hye := of_decide_eq_true hy
          have HspY' := Lib.hid (HspY.out hye)
          have HlY' := Lib.hid (HlY.out hye)
          clear hy hye HspY HlY
          go_wp2_with fail
          refine (HfY.out _ HO0.out.sh).mono ?_
          rintro e w13 ⟨rfl, hb⟩
          have HG1 := Lib.hid (HG0.out.later hb)
          have HO1 := Lib.hid (HO0.out.later hb)
          have HQ1 := Lib.hid (HQ0.out.later hb)
          have HT1 := Lib.hid (HT0.out.later hb)
          clear hb HG0 HO0 HQ0 HT0 g0 g1 g2 g3 o0 o1 o2 o3
          obtain ⟨g0, g1, g2, g3⟩ := HG1.out.cells
          obtain ⟨o0, o1, o2, o3⟩ := HO1.out.cells
          go_wp2_with fail
          refine (HspY'.out _ HO1.out.sh).mono ?_
          rintro e w14 ⟨UA, un, uc, rfl, hb, hsl⟩
          have HG2 := Lib.hid (HG1.out.later hb)
          have HO2 := Lib.hid (HO1.out.later hb)
          have HQ2 := Lib.hid (HQ1.out.later hb)
          have HT2 := Lib.hid (HT1.out.later hb)
          clear hb HG1 HO1 HQ1 HT1 g0 g1 g2 g3 o0 o1 o2 o3
          obtain ⟨g0, g1, g2, g3⟩ := HG2.out.cells
          obtain ⟨o0, o1, o2, o3⟩ := HO2.out.cells
          have HU2 := Lib.hid hsl
          clear hsl
          go_wp2_with fail
          refine (HlY'.out _ HO2.out.sh).mono ?_
          rintro e w15 ⟨rfl, hb, hX⟩
          have HG3 := Lib.hid (HG2.out.later hb)
          have HO3 := Lib.hid (HO2.out.later hb)
          have HQ3 := Lib.hid (HQ2.out.later hb)
          have HT3 := Lib.hid (HT2.out.later hb)
          have HU3 := Lib.hid (HU2.out.later hb)
          clear hb HG2 HO2 HQ2 HT2 HU2 g0 g1 g2 g3 o0 o1 o2 o3
          obtain ⟨g0, g1, g2, g3⟩ := HG3.out.cells
          obtain ⟨o0, o1, o2, o3⟩ := HO3.out.cells
          clear hX
          go_wp2_with fail
          refine (eqL HU3.out HT3.out).mono ?_
          rintro e w16 ⟨rfl, hb⟩
          have HG4 := Lib.hid (HG3.out.later hb)
          have HO4 := Lib.hid (HO3.out.later hb)
          have HQ4 := Lib.hid (HQ3.out.later hb)
          have HT4 := Lib.hid (HT3.out.later hb)
          have HU4 := Lib.hid (HU3.out.later hb)
          clear hb HG3 HO3 HQ3 HT3 HU3 g0 g1 g2 g3 o0 o1 o2 o3
          obtain ⟨g0, g1, g2, g3⟩ := HG4.out.cells
          obtain ⟨o0, o1, o2, o3⟩ := HO4.out.cells
          have y2 := HO4.out.b0.frozen 2
          have HQs := Lib.hid (HQ4.out.setX HO4.out.b0 HXB.out 2 (.slice A2 D.length c2))
          have HGs := Lib.hid (HGV.out.later HQs.out.be)
          have HTs := Lib.hid (Sl.later HTV.out HQs.out.be)
          have HOs := Lib.hid (show GW w _ W.heap.size SA S.length sc PA P.length pc A2 D.length c2 S P D from ⟨HGs.out.bel, HO4.out.b0.set 2 _, ⟨HGs.out.sh.stk, HGs.out.sh.prc, rowO_sl HQs.out.o2⟩⟩)
          have HG0 := HGs
          have HO0 := HOs
          have HQ0 := HQs
          have HT0 := HTs
          clear HGs HOs HQs HTs
          obtain ⟨g0, g1, g2, g3⟩ := HG0.out.cells
          obtain ⟨o0, o1, o2, o3⟩ := HO0.out.cells
          go_wp2_with fail
          refine (HcO.out _ HG0.out.sh).mono ?_
          rintro e w17 ⟨rfl, hb⟩
          have HG1 := Lib.hid (HG0.out.later hb)
          have HO1 := Lib.hid (HO0.out.later hb)
          have HQ1 := Lib.hid (HQ0.out.later hb)
          have HT1 := Lib.hid (HT0.out.later hb)
          clear hb HG0 HO0 HQ0 HT0 g0 g1 g2 g3 o0 o1 o2 o3
          obtain ⟨g0, g1, g2, g3⟩ := HG1.out.cells
          obtain ⟨o0, o1, o2, o3⟩ := HO1.out.cells
          go_wp2_with fail
          refine (HcD.out _ HO1.out.sh).mono ?_
          rintro e w18 ⟨rfl, hb⟩
          have HG2 := Lib.hid (HG1.out.later hb)
          have HO2 := Lib.hid (HO1.out.later hb)
          have HQ2 := Lib.hid (HQ1.out.later hb)
          have HT2 := Lib.hid (HT1.out.later hb)
          clear hb HG1 HO1 HQ1 HT1 g0 g1 g2 g3 o0 o1 o2 o3
          obtain ⟨g0, g1, g2, g3⟩ := HG2.out.cells
          obtain ⟨o0, o1, o2, o3⟩ := HO2.out.cells
          go_wp2_with fail
          refine (HlD.out _ HO2.out.sh).mono ?_
          rintro e w19 ⟨rfl, hb, hX⟩
          have HG3 := Lib.hid (HG2.out.later hb)
          have HO3 := Lib.hid (HO2.out.later hb)
          have HQ3 := Lib.hid (HQ2.out.later hb)
          have HT3 := Lib.hid (HT2.out.later hb)
          clear hb HG2 HO2 HQ2 HT2 g0 g1 g2 g3 o0 o1 o2 o3
          obtain ⟨g0, g1, g2, g3⟩ := HG3.out.cells
          obtain ⟨o0, o1, o2, o3⟩ := HO3.out.cells
          clear hX
          have k3 : decide (sD ≤ sO) = true := decide_eq_true k1
          cases cb with
          | false =>
            clear k2
            go_wp2_with fail
            refine (works_any _).mono ?_
            rintro e we ⟨rfl, hbe⟩
            have HBE := Lib.hid (Below.later HG3.out.bel hbe)
            clear hbe
            go_wp2
            go_ret
            exact ⟨rfl, HBE.out⟩
          | true =>
            obtain ⟨k4, k5⟩ := k2 rfl
            subst k4
            have k6 : decide (nD ≤ nS) = true := decide_eq_true k5
            go_wp2_with fail
            refine (works_any _).mono ?_
            rintro e we ⟨rfl, hbe⟩
            have HBE := Lib.hid (Below.later HG3.out.bel hbe)
            clear hbe
            go_wp2
            go_ret
            exact ⟨rfl, HBE.out⟩
      · have i1 : ¬ (i : Int) < (D.length : Int) := by omega
        clear him hlt hK
        have hYa : ∀ g : Int, askI Y g = askI O g := fun g => by
          obtain ⟨A, a, B, h1, h2, h3⟩ := HJ.out.2.2 rfl
          rw [h3, HD.out.1, h1]
          exact askI_join A B a c h2 g
        have HfY := Lib.hid (fun W (h : ShopIn W W.heap.size SA S.length sc PA P.length pc A1 D.length c1 S P Y) => fine_any SA S.length sc PA P.length pc A1 D.length c1 S P Y W h)
        have HspY := Lib.hid (fun he W (h : ShopIn W W.heap.size SA S.length sc PA P.length pc A1 D.length c1 S P Y) => spent_both SA S.length sc PA P.length pc A1 D.length c1 S P Y W h he)
        have HlY := Lib.hid (fun he W (h : ShopIn W W.heap.size SA S.length sc PA P.length pc A1 D.length c1 S P Y) => least_both SA S.length sc PA P.length pc A1 D.length c1 S P Y W h he)
        rw [spT_ask hYa] at HspY
        rw [leastN_ask hYa, can_ask hYa, HnS.out, Hcb.out] at HlY
        generalize filE S P Y = eY at *
        clear hYa
        have hA := balloc (brefl W) (.cells #[.slice SA S.length sc, .slice PA P.length pc, .slice A0 R.length c0] 25)
        have HQ0 := Lib.hid (HX.out.later hA)
        have HG0 := Lib.hid (HGV.out.later HQ0.out.be)
        have HT0 := Lib.hid (Sl.later HTV.out HQ0.out.be)
        have HO0 := Lib.hid (show GW w _ W.heap.size SA S.length sc PA P.length pc A0 R.length c0 S P R from ⟨HG0.out.bel, Blk.new W _ _, ⟨HG0.out.sh.stk, HG0.out.sh.prc, rowO_sl HQ0.out.o0⟩⟩)
        have HXB := Lib.hid (show V.heap.size ≤ W.heap.size from HX.out.be.size)
        have hFR := fine_orders HF.out (X := R) (by have := HRl.out; omega) (fun o ho => by rw [← HRv.out] at ho; exact List.mem_reverse.1 ho)
        have hFD := fine_orders HF.out (X := D) (by have := HD.out.2; have := HN.out; omega) (fun o ho => by rw [HD.out.1]; exact List.mem_append_left _ ho)
        have hRa : ∀ g : Int, askI R g = askI O g := fun g => by rw [← HRv.out]; exact askI_rev g O
        have HspR := Lib.hid (fun W (h : ShopIn W W.heap.size SA S.length sc PA P.length pc A0 R.length c0 S P R) => spent_both SA S.length sc PA P.length pc A0 R.length c0 S P R W h (fine_iff hFR))
        have HlR := Lib.hid (fun W (h : ShopIn W W.heap.size SA S.length sc PA P.length pc A0 R.length c0 S P R) => least_both SA S.length sc PA P.length pc A0 R.length c0 S P R W h (fine_iff hFR))
        have HlD := Lib.hid (fun W (h : ShopIn W W.heap.size SA S.length sc PA P.length pc A2 D.length c2 S P D) => least_both SA S.length sc PA P.length pc A2 D.length c2 S P D W h (fine_iff hFD))
        rw [spT_ask hRa] at HspR
        rw [leastN_ask hRa, can_ask hRa, HnS.out, Hcb.out] at HlR
        generalize filE S P R = eR at *
        have hu := Hu.out
        obtain ⟨g, hg⟩ : ∃ g : Nat, u1.tmod (S.length : Int) = (g : Int) := ⟨(u1.tmod (S.length : Int)).toNat, by
          rw [Int.tmod_eq_emod_of_nonneg hu.1]
          have := Int.emod_nonneg u1 (show (S.length : Int) ≠ 0 by omega)
          omega⟩
        have gl : g < S.length := by
          have h1 := Int.emod_lt_of_pos u1 (show (0 : Int) < (S.length : Int) by omega)
          rw [Int.tmod_eq_emod_of_nonneg hu.1] at hg
          omega
        have e4 : IntKind.i64.wrap u1 = u1 := by rw [IntKind.wrap_i64]; omega
        have e5 : IntKind.i64.wrap (g : Int) = (g : Int) := by rw [IntKind.wrap_i64]; omega
        have e6 : ¬ (S.length : Int) = 0 := by omega
        have e7 : ¬ S = [] := fun e => by rw [e] at n1; simp at n1
        have HcO := Lib.hid (fun W (h : ShopIn W W.heap.size SA S.length sc PA P.length pc (some ⟨ob, oo, none⟩) O.length oc S P O) => checkShort_any SA S.length sc PA P.length pc (some ⟨ob, oo, none⟩) O.length oc S P O W h (g : Int))
        have HcD := Lib.hid (fun W (h : ShopIn W W.heap.size SA S.length sc PA P.length pc A2 D.length c2 S P D) => checkShort_any SA S.length sc PA P.length pc A2 D.length c2 S P D W h (g : Int))
        rw [chShort_in He.out gl] at HcO
        rw [chShort_in (fine_iff hFD) gl] at HcD
        have hcm : 0 ≤ c.m := (HF.out.ord c (by rw [HD.out.1]; simp)).2.1
        have k1 : shortI D (stockM S) g ≤ shortI O (stockM S) g := by rw [HD.out.1]; exact short_less hcm g
        have k2 : cb = true → canB S.length D (stockM S) = true ∧ leastN S P D ≤ nS := fun h => by
          have h1 := Hcb.out
          rw [h] at h1
          have h2 : canB S.length D (stockM S) = true := can_less hcm (by rw [← HD.out.1]; exact h1)
          refine ⟨h2, ?_⟩
          rw [leastN_can h2, ← HnS.out, leastN_can h1]
          have h3 := leV_less (c := c) hFD.ok hcm
          rw [← HD.out.1] at h3
          exact h3
        generalize shortI D (stockM S) g = sD at *
        generalize shortI O (stockM S) g = sO at *
        generalize canB S.length D (stockM S) = cD at *
        generalize leastN S P D = nD at *
        obtain ⟨g0, g1, g2, g3⟩ := HGl.out.cells
        obtain ⟨o0, o1, o2, o3⟩ := HO0.out.cells
        clear hA hu hcm gl hFR hFD hRa HX
        go_wp2_with fail
        refine (HspR.out _ HO0.out.sh).mono ?_
        rintro e w20 ⟨UA, un, uc, rfl, hb, hsl⟩
        have HG1 := Lib.hid (HG0.out.later hb)
        have HO1 := Lib.hid (HO0.out.later hb)
        have HQ1 := Lib.hid (HQ0.out.later hb)
        have HT1 := Lib.hid (HT0.out.later hb)
        clear hb HG0 HO0 HQ0 HT0 g0 g1 g2 g3 o0 o1 o2 o3
        obtain ⟨g0, g1, g2, g3⟩ := HG1.out.cells
        obtain ⟨o0, o1, o2, o3⟩ := HO1.out.cells
        have HU1 := Lib.hid hsl
        clear hsl
        go_wp2_with fail
        refine (HlR.out _ HO1.out.sh).mono ?_
        rintro e w21 ⟨rfl, hb, hX⟩
        have HG2 := Lib.hid (HG1.out.later hb)
        have HO2 := Lib.hid (HO1.out.later hb)
        have HQ2 := Lib.hid (HQ1.out.later hb)
        have HT2 := Lib.hid (HT1.out.later hb)
        have HU2 := Lib.hid (HU1.out.later hb)
        clear hb HG1 HO1 HQ1 HT1 HU1 g0 g1 g2 g3 o0 o1 o2 o3
        obtain ⟨g0, g1, g2, g3⟩ := HG2.out.cells
        obtain ⟨o0, o1, o2, o3⟩ := HO2.out.cells
        clear hX
        go_wp2_with fail
        refine (eqL HU2.out HT2.out).mono ?_
        rintro e w22 ⟨rfl, hb⟩
        have HG3 := Lib.hid (HG2.out.later hb)
        have HO3 := Lib.hid (HO2.out.later hb)
        have HQ3 := Lib.hid (HQ2.out.later hb)
        have HT3 := Lib.hid (HT2.out.later hb)
        have HU3 := Lib.hid (HU2.out.later hb)
        clear hb HG2 HO2 HQ2 HT2 HU2 g0 g1 g2 g3 o0 o1 o2 o3
        obtain ⟨g0, g1, g2, g3⟩ := HG3.out.cells
        obtain ⟨o0, o1, o2, o3⟩ := HO3.out.cells
        have y1 := HO3.out.b0.frozen 2
        have HQs := Lib.hid (HQ3.out.setX HO3.out.b0 HXB.out 2 (.slice A1 D.length c1))
        have HGs := Lib.hid (HGV.out.later HQs.out.be)
        have HTs := Lib.hid (Sl.later HTV.out HQs.out.be)
        have HOs := Lib.hid (show GW w _ W.heap.size SA S.length sc PA P.length pc A1 D.length c1 S P Y from ⟨HGs.out.bel, HO3.out.b0.set 2 _, ⟨HGs.out.sh.stk, HGs.out.sh.prc, rowO_sl HQs.out.o1⟩⟩)
        have HG0 := HGs
        have HO0 := HOs
        have HQ0 := HQs
        have HT0 := HTs
        clear HGs HOs HQs HTs
        obtain ⟨g0, g1, g2, g3⟩ := HG0.out.cells
        obtain ⟨o0, o1, o2, o3⟩ := HO0.out.cells
        cases hy : decide (shopE S P Y = 0) with
        | false =>
          rw [hy] at HfY
          clear hy
          go_wp2_with fail
          refine (HfY.out _ HO0.out.sh).mono ?_
          rintro e w23 ⟨rfl, hb⟩
          have HG1 := Lib.hid (HG0.out.later hb)
          have HO1 := Lib.hid (HO0.out.later hb)
          have HQ1 := Lib.hid (HQ0.out.later hb)
          have HT1 := Lib.hid (HT0.out.later hb)
          clear hb HG0 HO0 HQ0 HT0 g0 g1 g2 g3 o0 o1 o2 o3
          obtain ⟨g0, g1, g2, g3⟩ := HG1.out.cells
          obtain ⟨o0, o1, o2, o3⟩ := HO1.out.cells
          have y2 := HO1.out.b0.frozen 2
          have HQs := Lib.hid (HQ1.out.setX HO1.out.b0 HXB.out 2 (.slice A2 D.length c2))
          have HGs := Lib.hid (HGV.out.later HQs.out.be)
          have HTs := Lib.hid (Sl.later HTV.out HQs.out.be)
          have HOs := Lib.hid (show GW w _ W.heap.size SA S.length sc PA P.length pc A2 D.length c2 S P D from ⟨HGs.out.bel, HO1.out.b0.set 2 _, ⟨HGs.out.sh.stk, HGs.out.sh.prc, rowO_sl HQs.out.o2⟩⟩)
          have HG0 := HGs
          have HO0 := HOs
          have HQ0 := HQs
          have HT0 := HTs
          clear HGs HOs HQs HTs
          obtain ⟨g0, g1, g2, g3⟩ := HG0.out.cells
          obtain ⟨o0, o1, o2, o3⟩ := HO0.out.cells
          go_wp2_with fail
          refine (HcO.out _ HG0.out.sh).mono ?_
          rintro e w24 ⟨rfl, hb⟩
          have HG1 := Lib.hid (HG0.out.later hb)
          have HO1 := Lib.hid (HO0.out.later hb)
          have HQ1 := Lib.hid (HQ0.out.later hb)
          have HT1 := Lib.hid (HT0.out.later hb)
          clear hb HG0 HO0 HQ0 HT0 g0 g1 g2 g3 o0 o1 o2 o3
          obtain ⟨g0, g1, g2, g3⟩ := HG1.out.cells
          obtain ⟨o0, o1, o2, o3⟩ := HO1.out.cells
          go_wp2_with fail
          refine (HcD.out _ HO1.out.sh).mono ?_
          rintro e w25 ⟨rfl, hb⟩
          have HG2 := Lib.hid (HG1.out.later hb)
          have HO2 := Lib.hid (HO1.out.later hb)
          have HQ2 := Lib.hid (HQ1.out.later hb)
          have HT2 := Lib.hid (HT1.out.later hb)
          clear hb HG1 HO1 HQ1 HT1 g0 g1 g2 g3 o0 o1 o2 o3
          obtain ⟨g0, g1, g2, g3⟩ := HG2.out.cells
          obtain ⟨o0, o1, o2, o3⟩ := HO2.out.cells
          go_wp2_with fail
          refine (HlD.out _ HO2.out.sh).mono ?_
          rintro e w26 ⟨rfl, hb, hX⟩
          have HG3 := Lib.hid (HG2.out.later hb)
          have HO3 := Lib.hid (HO2.out.later hb)
          have HQ3 := Lib.hid (HQ2.out.later hb)
          have HT3 := Lib.hid (HT2.out.later hb)
          clear hb HG2 HO2 HQ2 HT2 g0 g1 g2 g3 o0 o1 o2 o3
          obtain ⟨g0, g1, g2, g3⟩ := HG3.out.cells
          obtain ⟨o0, o1, o2, o3⟩ := HO3.out.cells
          clear hX
          have k3 : decide (sD ≤ sO) = true := decide_eq_true k1
          cases cb with
          | false =>
            clear k2
            go_wp2_with fail
            refine (works_any _).mono ?_
            rintro e we ⟨rfl, hbe⟩
            have HBE := Lib.hid (Below.later HG3.out.bel hbe)
            clear hbe
            go_wp2
            go_ret
            exact ⟨rfl, HBE.out⟩
          | true =>
            obtain ⟨k4, k5⟩ := k2 rfl
            subst k4
            have k6 : decide (nD ≤ nS) = true := decide_eq_true k5
            go_wp2_with fail
            refine (works_any _).mono ?_
            rintro e we ⟨rfl, hbe⟩
            have HBE := Lib.hid (Below.later HG3.out.bel hbe)
            clear hbe
            go_wp2
            go_ret
            exact ⟨rfl, HBE.out⟩
        | true =>
          rw [hy] at HfY
          have hye := of_decide_eq_true hy
          have HspY' := Lib.hid (HspY.out hye)
          have HlY' := Lib.hid (HlY.out hye)
          clear hy hye HspY HlY
          go_wp2_with fail
          refine (HfY.out _ HO0.out.sh).mono ?_
          rintro e w27 ⟨rfl, hb⟩
          have HG1 := Lib.hid (HG0.out.later hb)
          have HO1 := Lib.hid (HO0.out.later hb)
          have HQ1 := Lib.hid (HQ0.out.later hb)
          have HT1 := Lib.hid (HT0.out.later hb)
          clear hb HG0 HO0 HQ0 HT0 g0 g1 g2 g3 o0 o1 o2 o3
          obtain ⟨g0, g1, g2, g3⟩ := HG1.out.cells
          obtain ⟨o0, o1, o2, o3⟩ := HO1.out.cells
          go_wp2_with fail
          refine (HspY'.out _ HO1.out.sh).mono ?_
          rintro e w28 ⟨UA, un, uc, rfl, hb, hsl⟩
          have HG2 := Lib.hid (HG1.out.later hb)
          have HO2 := Lib.hid (HO1.out.later hb)
          have HQ2 := Lib.hid (HQ1.out.later hb)
          have HT2 := Lib.hid (HT1.out.later hb)
          clear hb HG1 HO1 HQ1 HT1 g0 g1 g2 g3 o0 o1 o2 o3
          obtain ⟨g0, g1, g2, g3⟩ := HG2.out.cells
          obtain ⟨o0, o1, o2, o3⟩ := HO2.out.cells
          have HU2 := Lib.hid hsl
          clear hsl
          go_wp2_with fail
          refine (HlY'.out _ HO2.out.sh).mono ?_
          rintro e w29 ⟨rfl, hb, hX⟩
          have HG3 := Lib.hid (HG2.out.later hb)
          have HO3 := Lib.hid (HO2.out.later hb)
          have HQ3 := Lib.hid (HQ2.out.later hb)
          have HT3 := Lib.hid (HT2.out.later hb)
          have HU3 := Lib.hid (HU2.out.later hb)
          clear hb HG2 HO2 HQ2 HT2 HU2 g0 g1 g2 g3 o0 o1 o2 o3
          obtain ⟨g0, g1, g2, g3⟩ := HG3.out.cells
          obtain ⟨o0, o1, o2, o3⟩ := HO3.out.cells
          clear hX
          go_wp2_with fail
          refine (eqL HU3.out HT3.out).mono ?_
          rintro e w30 ⟨rfl, hb⟩
          have HG4 := Lib.hid (HG3.out.later hb)
          have HO4 := Lib.hid (HO3.out.later hb)
          have HQ4 := Lib.hid (HQ3.out.later hb)
          have HT4 := Lib.hid (HT3.out.later hb)
          have HU4 := Lib.hid (HU3.out.later hb)
          clear hb HG3 HO3 HQ3 HT3 HU3 g0 g1 g2 g3 o0 o1 o2 o3
          obtain ⟨g0, g1, g2, g3⟩ := HG4.out.cells
          obtain ⟨o0, o1, o2, o3⟩ := HO4.out.cells
          have y2 := HO4.out.b0.frozen 2
          have HQs := Lib.hid (HQ4.out.setX HO4.out.b0 HXB.out 2 (.slice A2 D.length c2))
          have HGs := Lib.hid (HGV.out.later HQs.out.be)
          have HTs := Lib.hid (Sl.later HTV.out HQs.out.be)
          have HOs := Lib.hid (show GW w _ W.heap.size SA S.length sc PA P.length pc A2 D.length c2 S P D from ⟨HGs.out.bel, HO4.out.b0.set 2 _, ⟨HGs.out.sh.stk, HGs.out.sh.prc, rowO_sl HQs.out.o2⟩⟩)
          have HG0 := HGs
          have HO0 := HOs
          have HQ0 := HQs
          have HT0 := HTs
          clear HGs HOs HQs HTs
          obtain ⟨g0, g1, g2, g3⟩ := HG0.out.cells
          obtain ⟨o0, o1, o2, o3⟩ := HO0.out.cells
          go_wp2_with fail
          refine (HcO.out _ HG0.out.sh).mono ?_
          rintro e w31 ⟨rfl, hb⟩
          have HG1 := Lib.hid (HG0.out.later hb)
          have HO1 := Lib.hid (HO0.out.later hb)
          have HQ1 := Lib.hid (HQ0.out.later hb)
          have HT1 := Lib.hid (HT0.out.later hb)
          clear hb HG0 HO0 HQ0 HT0 g0 g1 g2 g3 o0 o1 o2 o3
          obtain ⟨g0, g1, g2, g3⟩ := HG1.out.cells
          obtain ⟨o0, o1, o2, o3⟩ := HO1.out.cells
          go_wp2_with fail
          refine (HcD.out _ HO1.out.sh).mono ?_
          rintro e w32 ⟨rfl, hb⟩
          have HG2 := Lib.hid (HG1.out.later hb)
          have HO2 := Lib.hid (HO1.out.later hb)
          have HQ2 := Lib.hid (HQ1.out.later hb)
          have HT2 := Lib.hid (HT1.out.later hb)
          clear hb HG1 HO1 HQ1 HT1 g0 g1 g2 g3 o0 o1 o2 o3
          obtain ⟨g0, g1, g2, g3⟩ := HG2.out.cells
          obtain ⟨o0, o1, o2, o3⟩ := HO2.out.cells
          go_wp2_with fail
          refine (HlD.out _ HO2.out.sh).mono ?_
          rintro e w33 ⟨rfl, hb, hX⟩
          have HG3 := Lib.hid (HG2.out.later hb)
          have HO3 := Lib.hid (HO2.out.later hb)
          have HQ3 := Lib.hid (HQ2.out.later hb)
          have HT3 := Lib.hid (HT2.out.later hb)
          clear hb HG2 HO2 HQ2 HT2 g0 g1 g2 g3 o0 o1 o2 o3
          obtain ⟨g0, g1, g2, g3⟩ := HG3.out.cells
          obtain ⟨o0, o1, o2, o3⟩ := HO3.out.cells
          clear hX
          have k3 : decide (sD ≤ sO) = true := decide_eq_true k1
          cases cb with
          | false =>
            clear k2
            go_wp2_with fail
            refine (works_any _).mono ?_
            rintro e we ⟨rfl, hbe⟩
            have HBE := Lib.hid (Below.later HG3.out.bel hbe)
            clear hbe
            go_wp2
            go_ret
            exact ⟨rfl, HBE.out⟩
          | true =>
            obtain ⟨k4, k5⟩ := k2 rfl
            subst k4
            have k6 : decide (nD ≤ nS) = true := decide_eq_true k5
            go_wp2_with fail
            refine (works_any _).mono ?_
            rintro e we ⟨rfl, hbe⟩
            have HBE := Lib.hid (Below.later HG3.out.bel hbe)
            clear hbe
            go_wp2
            go_ret
            exact ⟨rfl, HBE.out⟩
    | false =>
      obtain rfl := (HJ.out.2.1 rfl).symm
      by_cases hlt : i < D.length
      · have i1 : (i : Int) < (D.length : Int) := by omega
        have i2 : (0 : Int) ≤ (i : Int) := by omega
        have i3 : IntKind.i64.wrap ((i : Int) + 1) = (i : Int) + 1 := by rw [IntKind.wrap_i64]; have := HD.out.2; have := HN.out; omega
        have Him := Lib.hid (show i + m = D.length ∧ i < D.length from ⟨him, hlt⟩)
        have hl0 := HLV.out.below HX.out.be HLV.out.lt
        have l0 := hl0.cell 0
        have l1 := hl0.cell 1
        have l2 := hl0.lt
        obtain ⟨jb, jo, x, rfl, hjb, hx, q0, q1⟩ := (rowO_sl HX.out.o1).ltO (i := i) hlt
        obtain rfl := rowO_zero HX.out.o1
        rw [Nat.zero_add] at q0 q1
        have Hx := Lib.hid hx
        clear him hlt hx hl0
        go_wp2_with fail
        refine dag 8 (by kernel_rfl) (by kernel_rfl) (.is ?_ :: .is ?_ :: .is ?_ :: .is ?_ :: .is ?_ :: .is ?_ :: .is ?_ :: .is ?_ :: []) rfl ?st2 ?ob2
        case st2 => simp [Spec.ok]
        case ob2 =>
        intro env V2 hG
        obtain ⟨hc, hf⟩ := bcell hG
        repeat (refine obls_is ?_ ?_; unfold doesAt; go_simp; (try go_bits); (first | (refine ⟨brefl _, ?_⟩; rfl) | rfl); intro K hK; go_simp; refine hK _ ?_; clear hK K)
        refine obls_nil (fun _ => ?_)
        have HXv := Lib.hid (HX.out.later hG)
        have HLv := Lib.hid (HLV.out.below HXv.out.be HLV.out.lt)
        have Hxm := Lib.hid ((hc jb (i * 2 + 1) hjb).trans q1)
        clear hc hf hG q0 q1 l0 l1 l2 hjb HX
        by_cases heq : x.g = c.g
        · have j1 : (x.g == c.g) = true := by simpa using heq
          have j2 : decide (x.g = c.g) = true := by simpa using heq
          have hO := HF.out.ord
          have hxm : 0 ≤ x.m ∧ x.m ≤ 20 := (hO x (by rw [HD.out.1]; exact List.mem_append_left _ (List.mem_of_getElem? Hx.out))).2
          have hcm : 0 ≤ c.m ∧ c.m ≤ 20 := (hO c (by rw [HD.out.1]; simp)).2
          obtain ⟨mm, hmm⟩ : ∃ mm, x.m + c.m = mm := ⟨_, rfl⟩
          have j3 : IntKind.i64.wrap (x.m + c.m) = mm := by rw [IntKind.wrap_i64]; omega
          obtain ⟨cur, hcur, hnew⟩ := rowO_set HXv.out.o1 Hx.out mm
          have HCur := Lib.hid (And.intro hcur hnew)
          have HRk := Lib.hid (show RowsOk V2 [(12, some jb)] from RowsOk.nil.cons (fun b hb => by cases hb; exact hcur.lt) rfl (by simp))
          have HJn := Lib.hid (show JOk D c true (D.set i (⟨x.g, mm⟩ : Od)) from ⟨List.length_set .., (fun h => Bool.noConfusion h), fun _ => ⟨D.take i, x, D.drop (i + 1), split_at Hx.out, heq, by rw [List.set_eq_take_append_cons_drop, if_pos Him.out.2, ← hmm]⟩⟩)
          clear hO hxm hcm hmm hcur hnew heq
          go_wp2_with fail
          refine dagRows 14 [(12, some jb)] [⟨12, jb, i * 2 + 1, 9, 66, cur⟩] (by kernel_rfl) (by kernel_rfl) (.is ?_ :: .is ?_ :: .is ?_ :: .is ?_ :: .is ?_ :: .is ?_ :: .is ?_ :: .is ?_ :: .is ?_ :: .like (fun v _ => v = .int .i64 mm) :: .is ?_ :: .is ?_ :: .like (fun _ _ => True) :: .is ?_ :: []) rfl HRk.out (StOk.nil.cons rfl rfl rfl (by kernel_rfl)) rfl (by kernel_rfl) ?st3 (by kernel_rfl) ?sg3 ?ob3
          case st3 => repeat (first | exact stab_nil | refine stab_is ?_ | refine stab_like (fun _ _ _ _ h => h) ?_)
          case sg3 => exact ⟨rows_is, rows_is, rows_is, rows_is, rows_is, rows_is, rows_is, rows_is, rows_is, (fun _ _ _ _ _ _ _ _ _ _ _ _ _ _ _ h => h), rows_is, rows_is, (fun _ _ _ _ _ _ _ _ _ _ _ _ _ _ _ h => h), rows_is, trivial⟩
          case ob3 =>
          intro L env1 W2 hP
          have HP := Lib.hid hP
          have hgx := hP.1
          have hb2 : Below V.heap.size V W2 := hgx.below HXv.out.be (fun y hm b hb => by
            rcases List.mem_singleton.1 hm with rfl
            cases hb
            exact row_from HXv.out.o1 rfl)
          have hl0 := HLV.out.below hb2 HLV.out.lt
          have l0 := hl0.cell 0
          have l1 := hl0.cell 1
          have l2 := hl0.lt
          clear hP hl0
          iterate 6 (refine oblsG_is (rows_ne rfl) (rows_E rfl) (fun _ => ?_) ?_; unfold doesAt; go_simp; (try go_bits); (first | (refine ⟨brefl _, ?_⟩; rfl) | rfl); intro K hK; go_simp; refine hK _ ?_; clear hK K)
          refine oblsG_is (rows_ne rfl) (rows_E rfl) (fun hp => ?_) ?_
          · have hb : Blk W2 jb _ _ := ((hp 12 (rows_in rfl) (.inr (by kernel_rfl))).2 jb rfl).trans HCur.out.1
            have y0 : W2.cell? ⟨jb, i * 2 + 1, none⟩ = some (.int .i64 x.m) := (hb.cell _).trans ((HCur.out.1.cell _).symm.trans Hxm.out)
            have y1 := hb.lt
            unfold doesAt
            go_simp
            refine ⟨brefl _, ?_⟩
            rfl
          intro K hK
          go_simp
          refine hK _ ?_
          clear hK K
          iterate 2 (refine oblsG_is (rows_ne rfl) (rows_E rfl) (fun _ => ?_) ?_; unfold doesAt; go_simp; (try go_bits); (first | (refine ⟨brefl _, ?_⟩; rfl) | rfl); intro K hK; go_simp; refine hK _ ?_; clear hK K)
          refine oblsG_like (rows_ne rfl) (rows_E rfl) (fun _ _ => ?_) ?_
          · unfold doesAt
            go_simp
            exact brefl _
          intro K hK
          go_simp
          refine hK _ ?_
          clear hK K
          iterate 2 (refine oblsG_is (rows_ne rfl) (rows_E rfl) (fun _ => ?_) ?_; unfold doesAt; go_simp; (try go_bits); (first | (refine ⟨brefl _, ?_⟩; rfl) | rfl); intro K hK; go_simp; refine hK _ ?_; clear hK K)
          refine oblsG_wr (rows_in rfl) (fun hl hp => ?_) ?_
          · have hp0 := hp 12 (rows_in rfl) (.inl rfl)
            have hb : Blk W2 jb _ _ := (hp0.2 jb rfl).trans HCur.out.1
            have hE : env1 9 = .int .i64 mm := hl ⟨9, .data⟩ (by simp) rfl rows_safe
            have hst := rows_store (o := i * 2 + 1) (j := 9) (env := env1) HCur.out.1 rfl hp0 (by simp)
            have y0 : W2.cell? ⟨jb, i * 2 + 1, none⟩ = some (.int .i64 x.m) := (hb.cell _).trans ((HCur.out.1.cell _).symm.trans Hxm.out)
            have y1 := hb.lt
            have y2 := hb.frozen (i * 2 + 1)
            rw [hE] at hst
            clear hp hl hb
            unfold doesAt
            simp only [hE]
            go_simp
          intro K hK
          go_simp
          refine hK _ ?_
          clear hK K
          (refine oblsG_is (rows_ne rfl) (rows_E rfl) (fun _ => ?_) ?_; unfold doesAt; go_simp; (try go_bits); (first | (refine ⟨brefl _, ?_⟩; rfl) | rfl); intro K hK; go_simp; refine hK _ ?_; clear hK K)
          refine oblsG_nil (fun hall hok => ?_)
          have h9 : env1 9 = .int .i64 mm := hok 9 _ rfl rows_safeE
          have hst := (HP.out.2.2.2.1 _ (.head _) (hall 12 (by decide))).2
          have HXn := Lib.hid (HXv.out.set1 HP.out.1 (HCur.out.2 W2 (by rw [← h9]; exact hst)))
          clear h9 hst hok hall l0 l1 l2 HP
          go_wp2_with fail
          refine hK _ _ (m - 1) (by have := Him.out; omega) ⟨rfl, i + 1, true, _, by have := Him.out; omega, HXn, HJn, ?_⟩
          repeat (first | exact fits_nil | refine fits_none ?_ | refine fits_some ?_)
        · have j1 : (x.g == c.g) = false := by simpa using heq
          have j2 : decide (x.g = c.g) = false := by simpa using heq
          clear heq
          go_wp2_with fail
          refine hK _ _ (m - 1) (by have := Him.out; omega) ⟨rfl, i + 1, false, D, by have := Him.out; omega, HXv, HJ, ?_⟩
          repeat (first | exact fits_nil | refine fits_none ?_ | refine fits_some ?_)
      · have i1 : ¬ (i : Int) < (D.length : Int) := by omega
        clear him hlt hK
        have hA := balloc (brefl W) (.cells #[.slice SA S.length sc, .slice PA P.length pc, .slice A0 R.length c0] 25)
        have HQ0 := Lib.hid (HX.out.later hA)
        have HG0 := Lib.hid (HGV.out.later HQ0.out.be)
        have HT0 := Lib.hid (Sl.later HTV.out HQ0.out.be)
        have HO0 := Lib.hid (show GW w _ W.heap.size SA S.length sc PA P.length pc A0 R.length c0 S P R from ⟨HG0.out.bel, Blk.new W _ _, ⟨HG0.out.sh.stk, HG0.out.sh.prc, rowO_sl HQ0.out.o0⟩⟩)
        have HXB := Lib.hid (show V.heap.size ≤ W.heap.size from HX.out.be.size)
        have hFR := fine_orders HF.out (X := R) (by have := HRl.out; omega) (fun o ho => by rw [← HRv.out] at ho; exact List.mem_reverse.1 ho)
        have hFD := fine_orders HF.out (X := D) (by have := HD.out.2; have := HN.out; omega) (fun o ho => by rw [HD.out.1]; exact List.mem_append_left _ ho)
        have hRa : ∀ g : Int, askI R g = askI O g := fun g => by rw [← HRv.out]; exact askI_rev g O
        have HspR := Lib.hid (fun W (h : ShopIn W W.heap.size SA S.length sc PA P.length pc A0 R.length c0 S P R) => spent_both SA S.length sc PA P.length pc A0 R.length c0 S P R W h (fine_iff hFR))
        have HlR := Lib.hid (fun W (h : ShopIn W W.heap.size SA S.length sc PA P.length pc A0 R.length c0 S P R) => least_both SA S.length sc PA P.length pc A0 R.length c0 S P R W h (fine_iff hFR))
        have HlD := Lib.hid (fun W (h : ShopIn W W.heap.size SA S.length sc PA P.length pc A2 D.length c2 S P D) => least_both SA S.length sc PA P.length pc A2 D.length c2 S P D W h (fine_iff hFD))
        rw [spT_ask hRa] at HspR
        rw [leastN_ask hRa, can_ask hRa, HnS.out, Hcb.out] at HlR
        generalize filE S P R = eR at *
        have hu := Hu.out
        obtain ⟨g, hg⟩ : ∃ g : Nat, u1.tmod (S.length : Int) = (g : Int) := ⟨(u1.tmod (S.length : Int)).toNat, by
          rw [Int.tmod_eq_emod_of_nonneg hu.1]
          have := Int.emod_nonneg u1 (show (S.length : Int) ≠ 0 by omega)
          omega⟩
        have gl : g < S.length := by
          have h1 := Int.emod_lt_of_pos u1 (show (0 : Int) < (S.length : Int) by omega)
          rw [Int.tmod_eq_emod_of_nonneg hu.1] at hg
          omega
        have e4 : IntKind.i64.wrap u1 = u1 := by rw [IntKind.wrap_i64]; omega
        have e5 : IntKind.i64.wrap (g : Int) = (g : Int) := by rw [IntKind.wrap_i64]; omega
        have e6 : ¬ (S.length : Int) = 0 := by omega
        have e7 : ¬ S = [] := fun e => by rw [e] at n1; simp at n1
        have HcO := Lib.hid (fun W (h : ShopIn W W.heap.size SA S.length sc PA P.length pc (some ⟨ob, oo, none⟩) O.length oc S P O) => checkShort_any SA S.length sc PA P.length pc (some ⟨ob, oo, none⟩) O.length oc S P O W h (g : Int))
        have HcD := Lib.hid (fun W (h : ShopIn W W.heap.size SA S.length sc PA P.length pc A2 D.length c2 S P D) => checkShort_any SA S.length sc PA P.length pc A2 D.length c2 S P D W h (g : Int))
        rw [chShort_in He.out gl] at HcO
        rw [chShort_in (fine_iff hFD) gl] at HcD
        have hcm : 0 ≤ c.m := (HF.out.ord c (by rw [HD.out.1]; simp)).2.1
        have k1 : shortI D (stockM S) g ≤ shortI O (stockM S) g := by rw [HD.out.1]; exact short_less hcm g
        have k2 : cb = true → canB S.length D (stockM S) = true ∧ leastN S P D ≤ nS := fun h => by
          have h1 := Hcb.out
          rw [h] at h1
          have h2 : canB S.length D (stockM S) = true := can_less hcm (by rw [← HD.out.1]; exact h1)
          refine ⟨h2, ?_⟩
          rw [leastN_can h2, ← HnS.out, leastN_can h1]
          have h3 := leV_less (c := c) hFD.ok hcm
          rw [← HD.out.1] at h3
          exact h3
        generalize shortI D (stockM S) g = sD at *
        generalize shortI O (stockM S) g = sO at *
        generalize canB S.length D (stockM S) = cD at *
        generalize leastN S P D = nD at *
        obtain ⟨g0, g1, g2, g3⟩ := HGl.out.cells
        obtain ⟨o0, o1, o2, o3⟩ := HO0.out.cells
        clear hA hu hcm gl hFR hFD hRa HX
        go_wp2_with fail
        refine (HspR.out _ HO0.out.sh).mono ?_
        rintro e w34 ⟨UA, un, uc, rfl, hb, hsl⟩
        have HG1 := Lib.hid (HG0.out.later hb)
        have HO1 := Lib.hid (HO0.out.later hb)
        have HQ1 := Lib.hid (HQ0.out.later hb)
        have HT1 := Lib.hid (HT0.out.later hb)
        clear hb HG0 HO0 HQ0 HT0 g0 g1 g2 g3 o0 o1 o2 o3
        obtain ⟨g0, g1, g2, g3⟩ := HG1.out.cells
        obtain ⟨o0, o1, o2, o3⟩ := HO1.out.cells
        have HU1 := Lib.hid hsl
        clear hsl
        go_wp2_with fail
        refine (HlR.out _ HO1.out.sh).mono ?_
        rintro e w35 ⟨rfl, hb, hX⟩
        have HG2 := Lib.hid (HG1.out.later hb)
        have HO2 := Lib.hid (HO1.out.later hb)
        have HQ2 := Lib.hid (HQ1.out.later hb)
        have HT2 := Lib.hid (HT1.out.later hb)
        have HU2 := Lib.hid (HU1.out.later hb)
        clear hb HG1 HO1 HQ1 HT1 HU1 g0 g1 g2 g3 o0 o1 o2 o3
        obtain ⟨g0, g1, g2, g3⟩ := HG2.out.cells
        obtain ⟨o0, o1, o2, o3⟩ := HO2.out.cells
        clear hX
        go_wp2_with fail
        refine (eqL HU2.out HT2.out).mono ?_
        rintro e w36 ⟨rfl, hb⟩
        have HG3 := Lib.hid (HG2.out.later hb)
        have HO3 := Lib.hid (HO2.out.later hb)
        have HQ3 := Lib.hid (HQ2.out.later hb)
        have HT3 := Lib.hid (HT2.out.later hb)
        have HU3 := Lib.hid (HU2.out.later hb)
        clear hb HG2 HO2 HQ2 HT2 HU2 g0 g1 g2 g3 o0 o1 o2 o3
        obtain ⟨g0, g1, g2, g3⟩ := HG3.out.cells
        obtain ⟨o0, o1, o2, o3⟩ := HO3.out.cells
        have y1 := HO3.out.b0.frozen 2
        have HQs := Lib.hid (HQ3.out.setX HO3.out.b0 HXB.out 2 (.slice A1 D.length c1))
        have HGs := Lib.hid (HGV.out.later HQs.out.be)
        have HTs := Lib.hid (Sl.later HTV.out HQs.out.be)
        have HOs := Lib.hid (show GW w _ W.heap.size SA S.length sc PA P.length pc A1 D.length c1 S P D from ⟨HGs.out.bel, HO3.out.b0.set 2 _, ⟨HGs.out.sh.stk, HGs.out.sh.prc, rowO_sl HQs.out.o1⟩⟩)
        have HG0 := HGs
        have HO0 := HOs
        have HQ0 := HQs
        have HT0 := HTs
        clear HGs HOs HQs HTs
        obtain ⟨g0, g1, g2, g3⟩ := HG0.out.cells
        obtain ⟨o0, o1, o2, o3⟩ := HO0.out.cells
        have y2 := HO0.out.b0.frozen 2
        have HQs := Lib.hid (HQ0.out.setX HO0.out.b0 HXB.out 2 (.slice A2 D.length c2))
        have HGs := Lib.hid (HGV.out.later HQs.out.be)
        have HTs := Lib.hid (Sl.later HTV.out HQs.out.be)
        have HOs := Lib.hid (show GW w _ W.heap.size SA S.length sc PA P.length pc A2 D.length c2 S P D from ⟨HGs.out.bel, HO0.out.b0.set 2 _, ⟨HGs.out.sh.stk, HGs.out.sh.prc, rowO_sl HQs.out.o2⟩⟩)
        have HG0 := HGs
        have HO0 := HOs
        have HQ0 := HQs
        have HT0 := HTs
        clear HGs HOs HQs HTs
        obtain ⟨g0, g1, g2, g3⟩ := HG0.out.cells
        obtain ⟨o0, o1, o2, o3⟩ := HO0.out.cells
        go_wp2_with fail
        refine (HcO.out _ HG0.out.sh).mono ?_
        rintro e w37 ⟨rfl, hb⟩
        have HG1 := Lib.hid (HG0.out.later hb)
        have HO1 := Lib.hid (HO0.out.later hb)
        have HQ1 := Lib.hid (HQ0.out.later hb)
        have HT1 := Lib.hid (HT0.out.later hb)
        clear hb HG0 HO0 HQ0 HT0 g0 g1 g2 g3 o0 o1 o2 o3
        obtain ⟨g0, g1, g2, g3⟩ := HG1.out.cells
        obtain ⟨o0, o1, o2, o3⟩ := HO1.out.cells
        go_wp2_with fail
        refine (HcD.out _ HO1.out.sh).mono ?_
        rintro e w38 ⟨rfl, hb⟩
        have HG2 := Lib.hid (HG1.out.later hb)
        have HO2 := Lib.hid (HO1.out.later hb)
        have HQ2 := Lib.hid (HQ1.out.later hb)
        have HT2 := Lib.hid (HT1.out.later hb)
        clear hb HG1 HO1 HQ1 HT1 g0 g1 g2 g3 o0 o1 o2 o3
        obtain ⟨g0, g1, g2, g3⟩ := HG2.out.cells
        obtain ⟨o0, o1, o2, o3⟩ := HO2.out.cells
        go_wp2_with fail
        refine (HlD.out _ HO2.out.sh).mono ?_
        rintro e w39 ⟨rfl, hb, hX⟩
        have HG3 := Lib.hid (HG2.out.later hb)
        have HO3 := Lib.hid (HO2.out.later hb)
        have HQ3 := Lib.hid (HQ2.out.later hb)
        have HT3 := Lib.hid (HT2.out.later hb)
        clear hb HG2 HO2 HQ2 HT2 g0 g1 g2 g3 o0 o1 o2 o3
        obtain ⟨g0, g1, g2, g3⟩ := HG3.out.cells
        obtain ⟨o0, o1, o2, o3⟩ := HO3.out.cells
        clear hX
        have k3 : decide (sD ≤ sO) = true := decide_eq_true k1
        cases cb with
        | false =>
          clear k2
          go_wp2_with fail
          refine (works_any _).mono ?_
          rintro e we ⟨rfl, hbe⟩
          have HBE := Lib.hid (Below.later HG3.out.bel hbe)
          clear hbe
          go_wp2
          go_ret
          exact ⟨rfl, HBE.out⟩
        | true =>
          obtain ⟨k4, k5⟩ := k2 rfl
          subst k4
          have k6 : decide (nD ≤ nS) = true := decide_eq_true k5
          go_wp2_with fail
          refine (works_any _).mono ?_
          rintro e we ⟨rfl, hbe⟩
          have HBE := Lib.hid (Below.later HG3.out.bel hbe)
          clear hbe
          go_wp2
          go_ret
          exact ⟨rfl, HBE.out⟩
end Go.Proofs.Ytmfiggbobaihcaa
