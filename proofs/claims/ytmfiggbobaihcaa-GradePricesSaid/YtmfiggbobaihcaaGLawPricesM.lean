/- The walk of GradePrices. -/
import Derived.Test.YtmfiggbobaihcaaDagA
import Derived.Maps.AppendAt
import Derived.Test.YtmfiggbobaihcaaGFilled
namespace Go.Proofs.Ytmfiggbobaihcaa
open Go.RowKit Go.Shelf

/-- Some operations are done: one more. -/
def ins (L : Nat → Bool) (i : Nat) : Nat → Bool := fun j => L j || j == i
def envS (env : Nat → Value) (i : Nat) (v : Value) : Nat → Value := fun j => if j = i then v else env j
/-- The operations that write, what holds of the worlds, what holds as long as one has not written, what one does, which values it leaves, and which operation waits for which. -/
structure Gp where
  wl : List Nat
  P1 : (Nat → Bool) → (Nat → Value) → World → Prop
  P0 : Nat → World → Prop
  A : Nat → (Nat → Value) → Value → World → World → Prop
  keep : Nat → Nat → Bool
  dep : Nat → Nat → Bool
def Gp.step (p : Gp) (i : Nat) (env : Nat → Value) (v : Value) (W W' : World) : Prop := if i ∈ p.wl then p.A i env v W W' else Gr W W'
theorem Gp.step_ne {p : Gp} {i : Nat} (h : i ∉ p.wl) : p.step i = fun _ _ W W' => Gr W W' := by funext env v W W'; unfold Gp.step; rw [if_neg h]
theorem Gp.step_eq {p : Gp} {i : Nat} (h : i ∈ p.wl) : p.step i = p.A i := by funext env v W W'; unfold Gp.step; rw [if_pos h]
structure Gp.Good (p : Gp) : Prop where
  g1 : ∀ L env W W' i v, i ∉ p.wl → L i = false → p.P1 L env W → Gr W W' → p.P1 (ins L i) (envS env i v) W'
  g0 : ∀ k W W', k ∈ p.wl → p.P0 k W → Gr W W' → p.P0 k W'
  a1 : ∀ L env W W' k v, k ∈ p.wl → L k = false → (∀ j, p.dep k j = true → ins L k j = true) → p.P1 L env W → p.P0 k W → p.A k env v W W' → p.P1 (ins L k) (envS env k v) W'
  a0 : ∀ L env W W' k j v, k ∈ p.wl → j ∈ p.wl → k ≠ j → L k = false → L j = false → p.P1 L env W → p.P0 k W → p.P0 j W → p.A k env v W W' → p.P0 j W'
/-- What is known of value j holds still when operation i comes. -/
def Gp.safe (p : Gp) (j i : Nat) : Bool := p.wl.all fun k => k == j || k == i || p.dep k i || p.keep k j
def Gp.safeE (p : Gp) (j : Nat) : Bool := p.wl.all fun k => k == j || p.dep j k || p.keep k j
def OblsG (p : Gp) (P : Program) (ops : Array Oper) (specs : List Spec) (env : Nat → Value) (W : World) : Nat → List Oper → List Spec → Act → Prop
  | i, o :: os, s :: ss, a =>
    ((∀ e ∈ o.after.toList, Region.binds .any e = true → p.safe e.on i = true → looseOf specs env W e) → (∀ k ∈ p.wl, (k = i ∨ p.dep k i = true) → p.P0 k W) →
      if Region.wanted o (yielded ops a.tmps) then doesAt P o a W (fun v W' => p.step i env v W W' ∧ s.ok v W') else s.ok undef W) ∧
    OblsG p P ops specs env W (i + 1) os ss (a.put o.dst (s.val (env i)))
  | _, _, _, _ => True

/-- Which operations wait for which: a bit for each. -/
def ancs (m : List Oper) : List Nat := m.foldl (fun acc o => acc ++ [o.after.foldl (fun b e => if Region.binds .any e then b ||| (1 <<< e.on) ||| acc.getD e.on 0 else b) 0]) []
def depB (A : List Nat) (k i : Nat) : Bool := decide (i < A.length) && (A.getD k 0).testBit i
def depOk (A : List Nat) (m : List Oper) : Bool := A.length == m.length && (List.range m.length).all fun k => match m[k]? with
  | none => false
  | some o => (List.range m.length).all fun i => !depB A k i || decide (i < k) && o.after.any fun e => Region.binds .any e && decide (e.on < k) && (e.on == i || depB A e.on i)
theorem depOk_lt {A : List Nat} {m : List Oper} (h : depOk A m = true) {k i : Nat} (hk : k < m.length) (hd : depB A k i = true) : i < k ∧ ∃ e ∈ (m[k]).after, Region.binds .any e = true ∧ e.on < k ∧ (e.on = i ∨ depB A e.on i = true) := by
  unfold depOk at h
  simp only [Bool.and_eq_true, beq_iff_eq] at h
  have hx := List.all_eq_true.1 h.2 k (List.mem_range.2 hk)
  rw [List.getElem?_eq_getElem hk] at hx
  have hi : i < m.length := by
    unfold depB at hd
    simp only [Bool.and_eq_true, decide_eq_true_eq] at hd
    omega
  have hy := List.all_eq_true.1 hx i (List.mem_range.2 hi)
  rw [hd] at hy
  simp only [Bool.not_true, Bool.false_or, Bool.and_eq_true, decide_eq_true_eq] at hy
  obtain ⟨e, he, hb⟩ := Array.any_eq_true'.1 hy.2
  simp only [Bool.and_eq_true, Bool.or_eq_true, beq_iff_eq, decide_eq_true_eq] at hb
  exact ⟨hy.1, e, he, hb.1.1, hb.1.2, hb.2⟩
theorem depOk_at {A : List Nat} {m : List Oper} (h : depOk A m = true) {Ls : Nat → Bool} (hc : ∀ (j : Nat) (oj : Oper), Ls j = true → m.toArray[j]? = some oj → ∀ e ∈ oj.after, Region.binds .any e = true → Ls e.on = true) :
    ∀ (d k i : Nat), k ≤ d → k < m.length → depB A k i = true → Ls k = true → Ls i = true := by
  intro d
  induction d with
  | zero =>
    intro k i hd hk hdp hL
    have := (depOk_lt h hk hdp).1
    omega
  | succ d ih =>
    intro k i hd hk hdp hL
    obtain ⟨_, e, he, hb, hlt, h5⟩ := depOk_lt h hk hdp
    have h4 := hc k _ hL (by rw [List.getElem?_toArray]; exact List.getElem?_eq_getElem hk) e he hb
    rcases h5 with h5 | h5
    · rw [h5] at h4; exact h4
    · exact ih e.on i (by omega) (by omega) h5 h4

section
variable {p : Gp} {P : Program} {l : List Oper} {specs : List Spec} {a : Act} {env : Nat → Value}
theorem oblsG_at {ops : Array Oper} {W : World} : ∀ (k : Nat) (ol : List Oper) (sl : List Spec) (b : Act), OblsG p P ops specs env W k ol sl b → ∀ i o s, ol[i]? = some o → sl[i]? = some s →
    (∀ e ∈ o.after.toList, Region.binds .any e = true → p.safe e.on (k + i) = true → looseOf specs env W e) → (∀ j ∈ p.wl, (j = k + i ∨ p.dep j (k + i) = true) → p.P0 j W) →
      if Region.wanted o (yielded ops (lexAct env k (ol.take i) (sl.take i) b).tmps) then doesAt P o (lexAct env k (ol.take i) (sl.take i) b) W (fun v W' => p.step (k + i) env v W W' ∧ s.ok v W') else s.ok undef W := by
  intro k ol
  induction ol generalizing k with
  | nil => intro sl b _ i o s h; simp at h
  | cons o' os ih =>
    intro sl b hO i o s ho hs hloose hp0
    cases sl with
    | nil => simp at hs
    | cons s' ss =>
      simp only [OblsG] at hO
      cases i with
      | zero =>
        simp at ho hs; subst ho; subst hs
        simpa [lexAct] using hO.1 hloose hp0
      | succ i =>
        simp only [List.take_succ_cons, lexAct]
        have e : k + 1 + i = k + (i + 1) := by omega
        have h := ih (k + 1) ss _ hO.2 i o s (by simpa using ho) (by simpa using hs) (by rw [e]; exact hloose) (by rw [e]; exact hp0)
        rw [e] at h
        exact h
end
section
variable {p : Gp} {F : Fence} {n : Nat} {P : Program} {ops : Array Oper} {l r : List Oper} {specs : List Spec} {a : Act} {Q : Exit → Act → World → Prop}
theorem wpAnyIn_dagG (hF : Lets F n P) (hops : ops = (l ++ r).toArray) (hr : r.length ≤ 1) (hB : dagOk l ops = true) (hlen : specs.length = l.length)
    (hp : p.Good) (hwl : ∀ k ∈ p.wl, k < l.length) (hdp : ∀ (Ls : Nat → Bool), (∀ (j : Nat) (oj : Oper), Ls j = true → ops[j]? = some oj → ∀ e ∈ oj.after, Region.binds .any e = true → Ls e.on = true) → ∀ k i, k < l.length → p.dep k i = true → Ls k = true → Ls i = true)
    (hst : ∀ s ∈ specs, ∀ v W W', Gr W W' → s.ok v W → s.ok v W')
    (hgd : ∀ k ∈ p.wl, ∀ o, ops[k]? = some o → o.guard = none)
    (hst2 : ∀ k ∈ p.wl, ∀ (i : Nat) s, i ≠ k → p.keep k i = true → p.dep i k = false → specs[i]? = some s → ∀ L env v u W W', L k = false → p.P1 L env W → p.P0 k W → p.A k env v W W' → s.ok u W → s.ok u W')
    (hobl : ∀ L env W, p.P1 L env W → OblsG p P ops specs env W 0 l specs a)
    (hend : ∀ L env W, (∀ i, i < l.length → L i = true) → p.P1 L env W → (∀ (i : Nat) s, specs[i]? = some s → p.safeE i = true → s.ok (s.val (env i)) W) →
      if r = [] then Q .normal (lexAct env 0 l specs a) W else wpOpIn F n P ops Q l.length (fun a W => Q .normal a W) (lexAct env 0 l specs a) W) :
    ∀ (fuel : Nat) (listed : Array Bool) (a' : Act) (W : World) (env : Nat → Value), listed.size = ops.size → unl ops.size listed ≤ fuel → (r ≠ [] → listed.getD l.length true = false) → p.P1 (fun i => listed.getD i false) env W → (∀ k ∈ p.wl, listed.getD k false = false → p.P0 k W) →
      FrameIs l specs a (fun i => listed.getD i false = true) env a' → (∀ (i : Nat) s, listed.getD i false = true → specs[i]? = some s → (∀ k ∈ p.wl, listed.getD k false = true → k = i ∨ p.dep i k = true ∨ p.keep k i = true) → s.ok (s.val (env i)) W) →
      (∀ (i : Nat) o, listed.getD i false = true → ops[i]? = some o → ∀ e ∈ o.after, Region.binds .any e = true → listed.getD e.on false = true) →
      wpAnyIn F n P .any ops Q fuel listed a' W := by
  have hd := dag_distinct hops hB
  have hosz : ops.size = l.length + r.length := by rw [hops]; simp
  have hol : ∀ (i : Nat) (o : Oper), i < l.length → ops[i]? = some o → l[i]? = some o := by
    intro i o hi ho; rw [hops] at ho; simpa [List.getElem?_append_left hi] using ho
  have hlo : ∀ (i : Nat) (o : Oper), l[i]? = some o → ops[i]? = some o := by
    intro i o hi
    have hl : i < l.length := (List.getElem?_eq_some_iff.1 hi).1
    rw [hops]; simp [List.getElem?_append_left hl, hi]
  have hlex : ∀ (env : Nat → Value) (i : Nat), i ≤ l.length → FrameIs l specs a (· < i) env (lexAct env 0 (l.take i) (specs.take i) a) := by
    intro env i hi
    have h0 : FrameIs l specs a (· < 0) env a := ⟨rfl, rfl, fun _ _ => rfl, fun i _ _ _ hi => absurd hi (by omega)⟩
    have hti : (l.take i).length = i := by simp; omega
    have htl : (specs.take i).length = i := by simp; omega
    have := lex_frame (env := env) (specs := specs) (a := a) hd hlen 0 (l.take i) (specs.take i) a (by omega)
      (fun j hj => by rw [List.getElem?_take, if_pos (by omega)]; simp) (fun j hj => by rw [List.getElem?_take, if_pos (by omega)]; simp) (by omega) h0
    simpa [hti] using this
  have hfull : ∀ (env : Nat → Value) (listed : Array Bool) (a' : Act), FrameIs l specs a (fun i => listed.getD i false = true) env a' → (∀ i, i < l.length → listed.getD i false = true) → a' = lexAct env 0 l specs a := by
    intro env listed a' hf hall
    have h2 := hlex env l.length (Nat.le_refl _)
    rw [List.take_of_length_le (by omega), List.take_of_length_le (by omega)] at h2
    exact hf.eq hlen h2 (fun i hi => ⟨fun _ => hi, fun _ => hall i hi⟩)
  have htf : ∀ (listed : Array Bool) (i : Nat), listed.size = ops.size → i < ops.size → (listed.getD i true = true ↔ listed.getD i false = true) := by
    intro listed i h1 h2
    have h3 : i < listed.size := by omega
    simp [h3]
  have hsafeE : ∀ (i : Nat) (listed : Array Bool), p.safeE i = true → ∀ k ∈ p.wl, listed.getD k false = true → k = i ∨ p.dep i k = true ∨ p.keep k i = true := by
    intro i listed hs k hk _
    have := List.all_eq_true.1 hs k hk
    simp only [Bool.or_eq_true, beq_iff_eq] at this
    rcases this with (h | h) | h
    · exact .inl h
    · exact .inr (.inl h)
    · exact .inr (.inr h)
  have hdone : ∀ (env : Nat → Value) (listed : Array Bool) (a' : Act) (W : World), listed.size = ops.size → (r ≠ [] → listed.getD l.length true = false) → p.P1 (fun i => listed.getD i false) env W →
      FrameIs l specs a (fun i => listed.getD i false = true) env a' → (∀ (i : Nat) s, listed.getD i false = true → specs[i]? = some s → (∀ k ∈ p.wl, listed.getD k false = true → k = i ∨ p.dep i k = true ∨ p.keep k i = true) → s.ok (s.val (env i)) W) →
      (∀ i, i < ops.size → listed.getD i true = true) → Q .normal a' W := by
    intro env listed a' W hsz hlast hG hf hok hall
    have hre : r = [] := by
      by_cases e : r = []
      · exact e
      · have h1 := hlast e
        have h2 : 0 < r.length := List.length_pos_iff.2 e
        rw [hall l.length (by omega)] at h1; cases h1
    have hall' : ∀ i, i < l.length → listed.getD i false = true := fun i hi => (htf listed i hsz (by omega)).1 (hall i (by omega))
    rw [hfull env listed a' hf hall']
    have h3 := hend _ env W hall' hG (fun i s hs hsf => hok i s (hall' i (by have := (List.getElem?_eq_some_iff.1 hs).1; omega)) hs (hsafeE i listed hsf))
    rwa [if_pos hre] at h3
  intro fuel
  induction fuel with
  | zero =>
    intro listed a' W env hsz hun hlast hG hG0 hf hok hcl
    have hall : ∀ i, i < ops.size → listed.getD i true = true := by
      intro i hi
      cases hx : listed.getD i true with
      | true => rfl
      | false => have := unl_pos hi hx; omega
    exact ⟨ready_nil_of hall, hdone env listed a' W hsz hlast hG hf hok hall⟩
  | succ fuel ih =>
    intro listed a' W env hsz hun hlast hG hG0 hf hok hcl
    refine ⟨fun hnil => hdone env listed a' W hsz hlast hG hf hok (all_of_ready_nil hB hsz hnil), fun i hi => ?_⟩
    obtain ⟨hiu, o, ho, hdeps⟩ := mem_ready.1 hi
    have hio : i < ops.size := (Array.getElem?_eq_some_iff.1 ho).1
    obtain ⟨hsel, hdef, hback, hcf, hsink⟩ := dagOk_at hB ho
    have hil : i < listed.size := by omega
    have hiF : listed.getD i false = false := by
      cases hx : listed.getD i false with
      | false => rfl
      | true => rw [(htf listed i hsz hio).2 hx] at hiu; cases hiu
    have hset : ∀ j, (listed.setIfInBounds i true).getD j false = true ↔ (listed.getD j false = true ∨ j = i) := by
      intro j
      by_cases e : i = j
      · subst e; simp [hil]
      · rw [getD_set_ne false e]; constructor
        · exact fun h => .inl h
        · exact fun h => h.resolve_right (fun h' => e h'.symm)
    have hins : (fun j => (listed.setIfInBounds i true).getD j false) = ins (fun j => listed.getD j false) i := by
      funext j
      unfold ins
      rw [Bool.eq_iff_iff, hset j, Bool.or_eq_true, beq_iff_eq]
    have hclose : ∀ (j : Nat) oj, (listed.setIfInBounds i true).getD j false = true → ops[j]? = some oj → ∀ e ∈ oj.after, Region.binds .any e = true → (listed.setIfInBounds i true).getD e.on false = true := by
      intro j oj hj hoj e he hb
      rw [hset] at hj ⊢
      rcases hj with hj | rfl
      · exact .inl (hcl j oj hj hoj e he hb)
      · rw [ho] at hoj; cases hoj; exact .inl (hdeps e he hb)
    by_cases hil2 : i < l.length
    · -- an ordinary operation
      have hlo' := hol i o hil2 ho
      obtain ⟨s, hs⟩ : ∃ s, specs[i]? = some s := ⟨_, List.getElem?_eq_getElem (by omega)⟩
      have hnot : ∀ k ∈ p.wl, (k = i ∨ p.dep k i = true) → listed.getD k false = false := by
        intro k hk h
        rcases h with rfl | h
        · exact hiF
        · cases hx : listed.getD k false with
          | false => rfl
          | true =>
            have := hdp (fun j => listed.getD j false) hcl k i (hwl k hk) h hx
            rw [hiF] at this; cases this
      have hloose : ∀ e ∈ o.after.toList, Region.binds .any e = true → p.safe e.on i = true → looseOf specs env W e := by
        intro e he hb hsf
        have h1 := hdeps e (by simpa using he) hb
        have h2 := hback e (by simpa using he) hb
        obtain ⟨s', hs'⟩ : ∃ s', specs[e.on]? = some s' := ⟨_, List.getElem?_eq_getElem (by omega)⟩
        have h3 := hok e.on s' h1 hs' (fun k hk hlk => by
          have h5 := List.all_eq_true.1 hsf k hk
          simp only [Bool.or_eq_true, beq_iff_eq] at h5
          rcases h5 with ((h5 | h5) | h5) | h5
          · exact .inl h5
          · rw [hnot k hk (.inl h5)] at hlk; cases hlk
          · rw [hnot k hk (.inr h5)] at hlk; cases hlk
          · exact .inr (.inr h5))
        unfold looseOf
        simp only [List.getD, hs', Option.getD_some]
        cases s' with
        | is c => trivial
        | like R => exact h3
      have hO := oblsG_at 0 l specs a (hobl _ env W hG) i o s hlo' hs (by rw [Nat.zero_add]; exact hloose) (by rw [Nat.zero_add]; exact fun k hk h => hG0 k hk (hnot k hk h))
      rw [Nat.zero_add] at hO
      have hfl := hlex env i (by omega)
      have hag : ∀ t, t ∈ o.looksAt ops → a'.tmps[t]? = (lexAct env 0 (l.take i) (specs.take i) a).tmps[t]? := by
        intro t ht
        refine hf.agree hlen hfl t (fun j oj hoj hdst => ?_)
        by_cases e : j = i
        · subst e; simp [hiF]
        · obtain ⟨_, h2⟩ := hcf j oj t e hoj hdst
          obtain ⟨h3, h4⟩ := h2 ht
          constructor
          · intro hj
            by_cases hlt : j < i
            · exact hlt
            · obtain ⟨e', he', hb', hon⟩ := h4 hlt
              have := hcl j oj hj (hlo j oj hoj) e' he' hb'
              rw [hon, hiF] at this; cases this
          · intro hlt
            obtain ⟨e', he', hb', hon⟩ := h3 hlt
            have := hdeps e' he' hb'
            rwa [hon] at this
      have hev : ∀ x ∈ o.op.operands, a'.eval x = (lexAct env 0 (l.take i) (specs.take i) a).eval x := by
        intro x hx
        cases x with
        | tmp t =>
          have := hag t (List.mem_append_left _ (List.mem_filterMap.2 ⟨.tmp t, by simpa using hx, rfl⟩))
          simp [Act.eval, this]
        | _ => rfl
      have hex : execOp a'.eval o = execOp (lexAct env 0 (l.take i) (specs.take i) a).eval o := execOp_congr o hsel hev
      have hwant : Region.wanted o (yielded ops a'.tmps) = Region.wanted o (yielded ops (lexAct env 0 (l.take i) (specs.take i) a).tmps) := by
        unfold Region.wanted
        cases hg : o.guard with
        | none => rfl
        | some gw =>
          obtain ⟨g, want⟩ := gw
          have hy : yielded ops a'.tmps g = yielded ops (lexAct env 0 (l.take i) (specs.take i) a).tmps g := by
            unfold yielded
            cases ht : (ops[g]?).bind (·.dst) with
            | none => rfl
            | some t =>
              have := hag t (List.mem_append_right _ (by simp [hg, ht]))
              simp [this]
          simp only [hy]
      have hnext : ∀ v W', p.step i env v W W' → s.ok v W' → wpAnyIn F n P .any ops Q fuel (listed.setIfInBounds i true) (a'.put o.dst v) W' := by
        intro v W' hg hv
        have hL : ¬ (listed.getD i false = true) := by simp [hiF]
        have hf2 := hf.put hd hlo' hs hL (Spec.val_of_ok hv)
        have hG1 : p.P1 (ins (fun j => listed.getD j false) i) (envS env i v) W' := by
          by_cases e : i ∈ p.wl
          · rw [Gp.step_eq e] at hg
            exact hp.a1 _ _ W W' i v e hiF (fun j hj => by rw [← hins]; exact hdp (fun j => (listed.setIfInBounds i true).getD j false) hclose i j hil2 hj ((hset i).2 (.inr rfl))) hG (hG0 i e hiF) hg
          · rw [Gp.step_ne e] at hg
            exact hp.g1 _ _ W W' i v e hiF hG hg
        refine ih _ _ _ (envS env i v) (by simpa using hsz) ?_ ?_ (by rw [hins]; exact hG1) ?_ ?_ ?_ hclose
        · have := unl_set hio hiu; omega
        · intro hre
          have h1 := hlast hre
          rw [getD_set_ne true (by omega)]; exact h1
        · intro k hk hlk
          have hki : k ≠ i := fun e => by rw [(hset k).2 (.inr e)] at hlk; cases hlk
          have hlk0 : listed.getD k false = false := by
            cases hx : listed.getD k false with
            | false => rfl
            | true => rw [(hset k).2 (.inl hx)] at hlk; cases hlk
          by_cases e : i ∈ p.wl
          · rw [Gp.step_eq e] at hg
            exact hp.a0 _ _ W W' i k v e hk (Ne.symm hki) hiF hlk0 hG (hG0 i e hiF) (hG0 k hk hlk0) hg
          · rw [Gp.step_ne e] at hg
            exact hp.g0 k W W' hk (hG0 k hk hlk0) hg
        · refine ⟨hf2.defers, hf2.size, fun t ht => hf2.old t (fun j oj hj => ht j oj ((hset j).2 hj)), fun j oj sj t hj => hf2.new j oj sj t ((hset j).1 hj)⟩
        · intro j sj hj hsj hkp
          unfold envS
          by_cases e : j = i
          · subst e
            rw [hs] at hsj; cases hsj
            simp only [if_true]
            rw [Spec.val_of_ok hv]; exact hv
          · simp only [e, if_false]
            have hj' := ((hset j).1 hj).resolve_right e
            have hjl : j < l.length := by have := (List.getElem?_eq_some_iff.1 hsj).1; omega
            have h1 := hok j sj hj' hsj (fun k hk hlk => hkp k hk ((hset k).2 (.inl hlk)))
            by_cases e2 : i ∈ p.wl
            · rw [Gp.step_eq e2] at hg
              have hnd : p.dep j i = false := by
                cases hx : p.dep j i with
                | false => rfl
                | true =>
                  have := hdp (fun j => listed.getD j false) hcl j i hjl hx hj'
                  rw [hiF] at this; cases this
              have hkj : p.keep i j = true := by
                rcases hkp i e2 ((hset i).2 (.inr rfl)) with h | h | h
                · exact absurd h.symm e
                · rw [hnd] at h; cases h
                · exact h
              exact hst2 i e2 j sj e hkj hnd hsj _ env v _ _ _ hiF hG (hG0 i e2 hiF) hg h1
            · rw [Gp.step_ne e2] at hg
              exact hst sj (List.mem_of_getElem? hsj) _ _ _ hg h1
      have hskip : ¬ (Region.wanted o (yielded ops a'.tmps) = true) → p.step i env undef W W := by
        intro hw
        by_cases e : i ∈ p.wl
        · exact absurd (by simp [Region.wanted, hgd i e o ho]) hw
        · rw [Gp.step_ne e]; exact brefl W
      unfold wpOpIn
      simp only [ho]
      rw [← hwant] at hO
      split
      · rename_i hw
        rw [if_pos hw] at hO
        refine wpIn_of_does (R := fun v W' => p.step i env v W W' ∧ s.ok v W') hF hdef ?_ (fun v W' hv => hnext v W' hv.1 hv.2)
        unfold doesAt at hO ⊢
        rwa [hex]
      · rename_i hw
        rw [if_neg hw] at hO
        exact ⟨fun f _ => hF.fn f, hnext undef W (hskip hw) hO⟩
    · -- the last one
      have hre : r ≠ [] := by intro e; rw [e] at hosz; simp at hosz; omega
      have hil3 : i = l.length := by omega
      have hall : ∀ j, j < l.length → listed.getD j false = true := by
        have key : ∀ (d j : Nat), j < l.length → l.length - j ≤ d → listed.getD j false = true := by
          intro d
          induction d with
          | zero => intro j hj hd; omega
          | succ d ihd =>
            intro j hj hdd
            have hoj : ops[j]? = some ops[j] := Array.getElem?_eq_getElem (by omega)
            obtain ⟨_, _, _, _, hsink⟩ := dagOk_at hB hoj
            rcases hsink with ⟨h1, _⟩ | h1 | ⟨k, ok, hok', e, he, hb, hon⟩
            · omega
            · have : 0 < r.length := List.length_pos_iff.2 hre
              omega
            · have hkb := (dagOk_at hB hok').2.2.1 e he hb
              by_cases hk : k = i
              · subst hk
                rw [ho] at hok'; cases hok'
                have := hdeps e he hb
                rwa [hon] at this
              · have hkl : k < ops.size := (Array.getElem?_eq_some_iff.1 hok').1
                have := hcl k ok (ihd k (by omega) (by omega)) hok' e he hb
                rwa [hon] at this
        exact fun j hj => key _ j hj (Nat.le_refl _)
      rw [hfull env listed a' hf hall]
      have h3 := hend _ env W hall hG (fun j s hs hsf => hok j s (hall j (by have := (List.getElem?_eq_some_iff.1 hs).1; omega)) hs (hsafeE j listed hsf))
      rw [if_neg hre, ← hil3] at h3
      refine wpOpIn_mono (fun a2 W2 hq => ?_) h3
      have hall2 : ∀ j, j < ops.size → (listed.setIfInBounds i true).getD j true = true := by
        intro j hj
        by_cases e : i = j
        · subst e; simp [hil]
        · rw [getD_set_ne true e]; exact (htf listed j hsz hj).2 (hall j (by omega))
      have hrn := ready_nil_of hall2
      cases fuel with
      | zero => exact ⟨hrn, hq⟩
      | succ f => exact ⟨fun _ => hq, by rw [hrn]; simp⟩

/-- **The region.** -/
theorem wpIn_region_dagG {id : Nat} (hF : Lets F n P) (hm : P.follows .mixedOrders = true) (l r : List Oper) (hops : ops = (l ++ r).toArray) (hr : r.length ≤ 1) (hB : dagOk l ops = true) {a : Act} {w : World} (specs : List Spec) (hlen : specs.length = l.length)
    (hp : p.Good) (hwl : ∀ k ∈ p.wl, k < l.length) (hdp : ∀ (Ls : Nat → Bool), (∀ (j : Nat) (oj : Oper), Ls j = true → ops[j]? = some oj → ∀ e ∈ oj.after, Region.binds .any e = true → Ls e.on = true) → ∀ k i, k < l.length → p.dep k i = true → Ls k = true → Ls i = true)
    (hw0 : ∀ W, Gr w W → p.P1 (fun _ => false) (fun _ => undef) W ∧ ∀ k ∈ p.wl, p.P0 k W) (hst : ∀ s ∈ specs, ∀ v W W', Gr W W' → s.ok v W → s.ok v W')
    (hgd : ∀ k ∈ p.wl, ∀ o, ops[k]? = some o → o.guard = none)
    (hst2 : ∀ k ∈ p.wl, ∀ (i : Nat) s, i ≠ k → p.keep k i = true → p.dep i k = false → specs[i]? = some s → ∀ L env v u W W', L k = false → p.P1 L env W → p.P0 k W → p.A k env v W W' → s.ok u W → s.ok u W')
    (hobl : ∀ L env W, p.P1 L env W → OblsG p P ops specs env W 0 l specs a)
    (hend : ∀ L env W, (∀ i, i < l.length → L i = true) → p.P1 L env W → (∀ (i : Nat) s, specs[i]? = some s → p.safeE i = true → s.ok (s.val (env i)) W) →
      if r = [] then Q .normal (lexAct env 0 l specs a) W else wpOpIn F n P ops Q l.length (fun a W => Q .normal a W) (lexAct env 0 l specs a) W) :
    (Code.region id ops true).wpIn F n P Q a w := by
  have hG0 : Gr w { w with drawn := w.drawn + 1 } := (brefl w).drew
  have hL0 : (fun i => (Array.replicate ops.size false).getD i false) = fun _ => false := by
    funext i
    cases hx : (Array.replicate ops.size false).getD i false with
    | false => rfl
    | true => exact (repl_no _ _ hx).elim
  refine wpIn_region_any hm (wpAnyIn_dagG hF hops hr hB hlen hp hwl hdp hst hgd hst2 hobl hend ops.size _ a _ (fun _ => undef) (by simp) ?_ ?_ (by rw [hL0]; exact (hw0 _ hG0).1) (fun k hk _ => (hw0 _ hG0).2 k hk) ?_ ?_ ?_)
  · unfold unl
    exact Nat.le_trans (List.countP_le_length) (by simp)
  · intro hre
    have : 0 < r.length := List.length_pos_iff.2 hre
    have hsz : ops.size = l.length + r.length := by rw [hops]; simp
    have h2 : l.length < ops.size := by omega
    simp [h2]
  · refine ⟨rfl, rfl, fun _ _ => rfl, fun i o s t hi => (repl_no _ _ hi).elim⟩
  · intro i s hi; exact (repl_no _ _ hi).elim
  · intro i o hi; exact (repl_no _ _ hi).elim
end

/-- The obligations, one behind the other, and what is asked at the end, of the operations that are left. -/
def OblsKG (p : Gp) (P : Program) (ops : Array Oper) (specs : List Spec) (env : Nat → Value) (W : World) (E : List Oper → Act → Prop) : Nat → List Oper → List Spec → Act → Prop
  | i, o :: os, s :: ss, a =>
    ((∀ e ∈ o.after.toList, Region.binds .any e = true → p.safe e.on i = true → looseOf specs env W e) → (∀ k ∈ p.wl, (k = i ∨ p.dep k i = true) → p.P0 k W) →
      if Region.wanted o (yielded ops a.tmps) then doesAt P o a W (fun v W' => p.step i env v W W' ∧ s.ok v W') else s.ok undef W) ∧
    OblsKG p P ops specs env W E (i + 1) os ss (a.put o.dst (s.val (env i)))
  | _, os, _, a => E os a

theorem obls_of_KG {p : Gp} {P : Program} {ops : Array Oper} {specs : List Spec} {env : Nat → Value} {W : World} {E : List Oper → Act → Prop} : ∀ (k : Nat) (ol : List Oper) (sl : List Spec) (b : Act), sl.length ≤ ol.length → OblsKG p P ops specs env W E k ol sl b →
    OblsG p P ops specs env W k (ol.take sl.length) sl b ∧ E (ol.drop sl.length) (lexAct env k (ol.take sl.length) sl b) := by
  intro k ol
  induction ol generalizing k with
  | nil => intro sl b hl h; cases sl with
    | nil => exact ⟨trivial, h⟩
    | cons => simp at hl
  | cons o os ih =>
    intro sl b hl h
    cases sl with
    | nil => exact ⟨trivial, h⟩
    | cons s ss =>
      obtain ⟨h1, h2⟩ := ih (k + 1) ss _ (by simpa using hl) h.2
      exact ⟨⟨h.1, h1⟩, h2⟩

/-- What is left behind the operations that have a value of their own. -/
def dagEndG (p : Gp) (n : Nat) (P : Program) (Q : Exit → Act → World → Prop) (specs : List Spec) (L : Nat → Bool) (env : Nat → Value) (W : World) (os : List Oper) (a : Act) : Prop :=
  (∀ i, i < n → L i = true) → (∀ (i : Nat) s, specs[i]? = some s → p.safeE i = true → s.ok (s.val (env i)) W) → match os with
    | [] => Q .normal a W
    | [o] => doesAt P o a W (fun v W' => Q .normal (a.put o.dst v) W')
    | _ => False

section
variable {p : Gp} {n : Nat} {P : Program} {ops : Array Oper} {specs : List Spec} {L : Nat → Bool} {env : Nat → Value} {W : World} {E : List Oper → Act → Prop} {i : Nat} {o : Oper} {os : List Oper} {ss : List Spec} {a : Act} {Q : Exit → Act → World → Prop}
/-- An operation whose value is known exactly. -/
theorem oblsG_is {v : Value} (hi : i ∉ p.wl) (h : (∀ k ∈ p.wl, (k = i ∨ p.dep k i = true) → p.P0 k W) → if Region.wanted o (yielded ops a.tmps) then doesAt P o a W (fun u W' => Gr W W' ∧ u = v) else undef = v)
    (hn : ∀ K : Act → Prop, (∀ b, OblsKG p P ops specs env W E (i + 1) os ss b → K b) → K (a.put o.dst v)) : OblsKG p P ops specs env W E i (o :: os) (.is v :: ss) a :=
  ⟨fun _ h0 => by rw [Gp.step_ne hi]; exact h h0, hn _ fun _ h => h⟩
/-- The same, by what is known of the values that it waits for. -/
theorem oblsG_isL {v : Value} (hi : i ∉ p.wl) (h : (∀ e ∈ o.after.toList, Region.binds .any e = true → p.safe e.on i = true → looseOf specs env W e) → (∀ k ∈ p.wl, (k = i ∨ p.dep k i = true) → p.P0 k W) → if Region.wanted o (yielded ops a.tmps) then doesAt P o a W (fun u W' => Gr W W' ∧ u = v) else undef = v)
    (hn : ∀ K : Act → Prop, (∀ b, OblsKG p P ops specs env W E (i + 1) os ss b → K b) → K (a.put o.dst v)) : OblsKG p P ops specs env W E i (o :: os) (.is v :: ss) a :=
  ⟨fun h0 h1 => by rw [Gp.step_ne hi]; exact h h0 h1, hn _ fun _ h => h⟩
/-- An operation whose value is known by a relation. -/
theorem oblsG_like {R : Value → World → Prop} (hi : i ∉ p.wl) (h : (∀ e ∈ o.after.toList, Region.binds .any e = true → p.safe e.on i = true → looseOf specs env W e) → (∀ k ∈ p.wl, (k = i ∨ p.dep k i = true) → p.P0 k W) → if Region.wanted o (yielded ops a.tmps) then doesAt P o a W (fun u W' => Gr W W' ∧ R u W') else R undef W)
    (hn : ∀ K : Act → Prop, (∀ b, OblsKG p P ops specs env W E (i + 1) os ss b → K b) → K (a.put o.dst (env i))) : OblsKG p P ops specs env W E i (o :: os) (.like R :: ss) a :=
  ⟨fun h0 h1 => by rw [Gp.step_ne hi]; exact h h0 h1, hn _ fun _ h => h⟩
/-- An operation that writes. -/
theorem oblsG_wr {R : Value → World → Prop} (hi : i ∈ p.wl) (h : (∀ e ∈ o.after.toList, Region.binds .any e = true → p.safe e.on i = true → looseOf specs env W e) → (∀ k ∈ p.wl, (k = i ∨ p.dep k i = true) → p.P0 k W) → if Region.wanted o (yielded ops a.tmps) then doesAt P o a W (fun u W' => p.A i env u W W' ∧ R u W') else R undef W)
    (hn : ∀ K : Act → Prop, (∀ b, OblsKG p P ops specs env W E (i + 1) os ss b → K b) → K (a.put o.dst (env i))) : OblsKG p P ops specs env W E i (o :: os) (.like R :: ss) a :=
  ⟨fun h0 h1 => by rw [Gp.step_eq hi]; exact h h0 h1, hn _ fun _ h => h⟩
/-- The end: no operation is left. -/
theorem oblsG_nil (h : (∀ i, i < n → L i = true) → (∀ (i : Nat) s, specs[i]? = some s → p.safeE i = true → s.ok (s.val (env i)) W) → Q .normal a W) : OblsKG p P ops specs env W (dagEndG p n P Q specs L env W) i [] [] a := h
/-- The end: one operation is left. -/
theorem oblsG_last (h : (∀ i, i < n → L i = true) → (∀ (i : Nat) s, specs[i]? = some s → p.safeE i = true → s.ok (s.val (env i)) W) → doesAt P o a W (fun v W' => Q .normal (a.put o.dst v) W')) : OblsKG p P ops specs env W (dagEndG p n P Q specs L env W) i [o] [] a := h
end

section
variable {p : Gp} {F : Fence} {k : Nat} {P : Program} {Q : Exit → Act → World → Prop} {a : Act} {w : World}
theorem dagGIn (n : Nat) {id : Nat} {m : List Oper} (hF : Lets F k P) (hm : P.follows .mixedOrders = true) (hB : dagFit n m = true) (specs : List Spec) (hlen : specs.length = n)
    (hp : p.Good) (hwl : ∀ k ∈ p.wl, k < n) (hdep : p.dep = depB (ancs m)) (hdo : depOk (ancs m) m = true)
    (hw0 : ∀ W, Gr w W → p.P1 (fun _ => false) (fun _ => undef) W ∧ ∀ k ∈ p.wl, p.P0 k W) (hst : ∀ s ∈ specs, ∀ v W W', Gr W W' → s.ok v W → s.ok v W')
    (hgd : ∀ k ∈ p.wl, ∀ o, m[k]? = some o → o.guard = none)
    (hst2 : ∀ k ∈ p.wl, ∀ (i : Nat) s, i ≠ k → p.keep k i = true → p.dep i k = false → specs[i]? = some s → ∀ L env v u W W', L k = false → p.P1 L env W → p.P0 k W → p.A k env v W W' → s.ok u W → s.ok u W')
    (h : ∀ L env W, p.P1 L env W → OblsKG p P m.toArray specs env W (dagEndG p n P Q specs L env W) 0 m specs a) :
    (Code.region id m.toArray true).wpIn F k P Q a w := by
  simp only [dagFit, Bool.and_eq_true, decide_eq_true_eq] at hB
  obtain ⟨⟨⟨h1, h2⟩, h3⟩, h4⟩ := hB
  have hl : (m.take n).length = n := by simp; omega
  refine wpIn_region_dagG hF hm (m.take n) (m.drop n) (by simp) (by simp; omega) h1 specs (by omega) hp (by rw [hl]; exact hwl) (fun Ls hc k i hk hd hL => depOk_at hdo hc k k i (Nat.le_refl _) (by omega) (by rw [← hdep]; exact hd) hL) hw0 hst (fun k hk o ho => hgd k hk o (by simpa using ho)) hst2 (fun L env W hG => ?_) (fun L env W hall hG hok => ?_)
  · have := (obls_of_KG 0 m specs a (by omega) (h L env W hG)).1
    rwa [hlen] at this
  · have hx := (obls_of_KG 0 m specs a (by omega) (h L env W hG)).2
    rw [hlen] at hx
    have hx := hx (by rw [hl] at hall; exact hall) hok
    split
    · rename_i hnil
      rw [hnil] at hx
      exact hx
    · rename_i hne
      cases hd : m.drop n with
      | nil => exact absurd hd hne
      | cons o t =>
        cases t with
        | cons o' t' =>
          have h5 : (m.drop n).length ≤ 1 := by simp; omega
          rw [hd] at h5
          simp at h5
        | nil =>
          rw [hd] at hx h4
          have hg : o.guard = none := by simpa using h4
          have ho : m.toArray[(m.take n).length]? = some o := by
            rw [hl, List.getElem?_toArray]
            have : m[n]? = (m.drop n)[0]? := by simp
            rw [this, hd]; rfl
          unfold wpOpIn
          simp only [ho, Region.wanted, hg, if_true]
          exact wpIn_of_does hF (dagOk_at h1 ho).2.1 hx (fun v W' hv => hv)
theorem dagG (n : Nat) {id : Nat} {m : List Oper} (hm : P.follows .mixedOrders = true) (hB : dagFit n m = true) (specs : List Spec) (hlen : specs.length = n)
    (hp : p.Good) (hwl : ∀ k ∈ p.wl, k < n) (hdep : p.dep = depB (ancs m)) (hdo : depOk (ancs m) m = true)
    (hw0 : ∀ W, Gr w W → p.P1 (fun _ => false) (fun _ => undef) W ∧ ∀ k ∈ p.wl, p.P0 k W) (hst : ∀ s ∈ specs, ∀ v W W', Gr W W' → s.ok v W → s.ok v W')
    (hgd : ∀ k ∈ p.wl, ∀ o, m[k]? = some o → o.guard = none)
    (hst2 : ∀ k ∈ p.wl, ∀ (i : Nat) s, i ≠ k → p.keep k i = true → p.dep i k = false → specs[i]? = some s → ∀ L env v u W W', L k = false → p.P1 L env W → p.P0 k W → p.A k env v W W' → s.ok u W → s.ok u W')
    (h : ∀ L env W, p.P1 L env W → OblsKG p P m.toArray specs env W (dagEndG p n P Q specs L env W) 0 m specs a) :
    (Code.region id m.toArray true).wp P Q a w :=
  (wpIn_wide (n := 0)).1 (dagGIn n (lets_wide 0 P) hm hB specs hlen hp hwl hdep hdo hw0 hst hgd hst2 h)
end
/-! ### Writers of rows that are known -/
/-- Specs that stay, whoever writes. -/
def StabG (p : Gp) : Nat → List Spec → Prop
  | _, [] => True
  | i, s :: l => (∀ k ∈ p.wl, i ≠ k → p.keep k i = true → p.dep i k = false → ∀ L env v u W W', L k = false → p.P1 L env W → p.P0 k W → p.A k env v W W' → s.ok u W → s.ok u W') ∧ StabG p (i + 1) l
theorem stabG_at {p : Gp} : ∀ (l : List Spec) (j : Nat), StabG p j l → ∀ k ∈ p.wl, ∀ (i : Nat) (s : Spec), j + i ≠ k → p.keep k (j + i) = true → p.dep (j + i) k = false → l[i]? = some s → ∀ L env v u W W', L k = false → p.P1 L env W → p.P0 k W → p.A k env v W W' → s.ok u W → s.ok u W'
  | [], _, _, _, _, i, s, _, _, _, hs => by simp at hs
  | a :: l, j, h, k, hk, 0, s, h1, h2, h3, hs => by
    simp at hs
    subst hs
    exact h.1 k hk h1 h2 h3
  | a :: l, j, h, k, hk, i + 1, s, h1, h2, h3, hs => by
    have e : j + 1 + i = j + (i + 1) := by omega
    exact stabG_at l (j + 1) h.2 k hk i s (by rw [e]; exact h1) (by rw [e]; exact h2) (by rw [e]; exact h3) (by simpa using hs)
/-- Writers: their places, and the rows into which they write; each in a row of its own. -/
structure RowsOk (w : World) (rows : List (Nat × Option Nat)) : Prop where
  lt : ∀ x ∈ rows, ∀ b, x.2 = some b → b < w.heap.size
  ne : ∀ x ∈ rows, ∀ y ∈ rows, x.1 ≠ y.1 → x.2 = y.2 → x.2 = none
  inj : ∀ x ∈ rows, ∀ y ∈ rows, x.1 = y.1 → x.2 = y.2
def rowAt (rows : List (Nat × Option Nat)) (k : Nat) : Option Nat := ((rows.find? fun x => x.1 == k).map (·.2)).getD none
theorem rowAt_mem {rows : List (Nat × Option Nat)} {k : Nat} (hk : k ∈ rows.map (·.1)) : (k, rowAt rows k) ∈ rows := by
  unfold rowAt
  cases h : rows.find? (fun x => x.1 == k) with
  | none =>
    obtain ⟨x, hx, rfl⟩ := List.mem_map.1 hk
    have := List.find?_eq_none.1 h x hx
    simp at this
  | some x =>
    have h1 := List.mem_of_find?_eq_some h
    have h2 := List.find?_some h
    simp only [beq_iff_eq] at h2
    subst h2
    exact h1
/-- What has turned since. -/
structure GrX (rows : List (Nat × Option Nat)) (w W : World) : Prop where
  os : W.os = w.os
  tape : W.tape = w.tape
  output : W.output = w.output
  size : w.heap.size ≤ W.heap.size
  block : ∀ b, b < w.heap.size → (∀ x ∈ rows, x.2 ≠ some b) → W.heap[b]? = w.heap[b]?
def NewRow (w : World) (row : Option Nat) (v : Value) (W : World) : Prop := ∀ b, v.ownBlock = some b → b < W.heap.size ∧ (row = some b ∨ w.heap.size ≤ b)
/-- A store of an operation's value into a block's cell. -/
structure St where
  k : Nat
  b : Nat
  o : Nat
  j : Nat
  t : TypeId
  cs : Array Value
def Gp.rows (w : World) (rows : List (Nat × Option Nat)) (st : List St) (keep : Nat → Nat → Bool) (m : List Oper) : Gp where
  wl := rows.map (·.1)
  P1 L env W := GrX rows w W ∧ (∀ k ∈ rows.map (·.1), L k = true → NewRow w (rowAt rows k) (env k) W) ∧ (∀ k ∈ rows.map (·.1), ∀ j ∈ rows.map (·.1), k ≠ j → L k = true → L j = true → (env k).ownBlock = (env j).ownBlock → (env k).ownBlock = none) ∧
    ∀ s ∈ st, L s.k = true → L s.j = true ∧ W.heap[s.b]? = some (.cells (s.cs.setIfInBounds s.o (env s.j)) s.t (0, 0))
  P0 k W := w.heap.size ≤ W.heap.size ∧ ∀ b, rowAt rows k = some b → W.heap[b]? = w.heap[b]?
  A k env v W W' := W.grownBy W' (rowAt rows k) ∧ (∀ b, v.ownBlock = some b → b < W'.heap.size ∧ (rowAt rows k = some b ∨ W.heap.size ≤ b)) ∧ ∀ s ∈ st, s.k = k → W'.heap[s.b]? = some (.cells (s.cs.setIfInBounds s.o (env s.j)) s.t (0, 0))
  keep := keep
  dep := depB (ancs m)
structure StOk (rows : List (Nat × Option Nat)) (st : List St) (m : List Oper) : Prop where
  row : ∀ s ∈ st, s.k ∈ rows.map (·.1) ∧ rowAt rows s.k = some s.b
  dep : ∀ s ∈ st, s.j ≠ s.k ∧ depB (ancs m) s.k s.j = true
theorem StOk.nil {rows : List (Nat × Option Nat)} {m : List Oper} : StOk rows [] m := ⟨by simp, by simp⟩
section
variable {w : World} {rows : List (Nat × Option Nat)} {st : List St} {keep : Nat → Nat → Bool} {m : List Oper}
theorem Gp.rows_good (h : RowsOk w rows) (hs : StOk rows st m) : (Gp.rows w rows st keep m).Good where
  g1 L env W W' i v hi hLi h1 hg := by
    obtain ⟨hx, hn, hd, hst⟩ := h1
    have hne : ∀ k ∈ rows.map (·.1), k ≠ i := fun k hk e => hi (by rw [← e]; exact hk)
    refine ⟨⟨hg.os.trans hx.os, hg.tape.trans hx.tape, hg.output.trans hx.output, Nat.le_trans hx.size hg.size, fun b hb hr => (hg.block b (Nat.lt_of_lt_of_le hb hx.size)).trans (hx.block b hb hr)⟩, fun k hk hL b hb => ?_, fun k hk j hj hkj hLk hLj he => ?_, fun s hsm hL => ?_⟩
    · simp only [ins, Bool.or_eq_true, beq_iff_eq, hne k hk, or_false] at hL
      simp only [envS, hne k hk, if_false] at hb
      have := hn k hk hL b hb
      exact ⟨Nat.lt_of_lt_of_le this.1 hg.size, this.2⟩
    · simp only [ins, Bool.or_eq_true, beq_iff_eq, hne k hk, or_false] at hLk
      simp only [ins, Bool.or_eq_true, beq_iff_eq, hne j hj, or_false] at hLj
      simp only [envS, hne k hk, hne j hj, if_false] at he ⊢
      exact hd k hk j hj hkj hLk hLj he
    · have hk := (hs.row s hsm).1
      simp only [ins, Bool.or_eq_true, beq_iff_eq, hne s.k hk, or_false] at hL
      obtain ⟨h2, h3⟩ := hst s hsm hL
      have hji : s.j ≠ i := fun e => by rw [e, hLi] at h2; cases h2
      refine ⟨by simp [ins, h2], ?_⟩
      simp only [envS, hji, if_false]
      exact (hg.block s.b (Array.getElem?_eq_some_iff.1 h3).1).trans h3
  g0 k W W' hk h0 hg := ⟨Nat.le_trans h0.1 hg.size, fun b hb => (hg.block b (Nat.lt_of_lt_of_le (h.lt _ (rowAt_mem hk) b hb) h0.1)).trans (h0.2 b hb)⟩
  a1 L env W W' k v hk hLk hcl h1 h0 ha := by
    obtain ⟨hx, hn, hd, hst⟩ := h1
    obtain ⟨hg, hv, hsk⟩ := ha
    have hold : ∀ j ∈ rows.map (·.1), j ≠ k → ins L k j = true → L j = true := fun j hj hjk hL => by simpa [ins, hjk] using hL
    have hapart : ∀ j ∈ rows.map (·.1), j ≠ k → L j = true → (env j).ownBlock = v.ownBlock → v.ownBlock = none := fun j hj hjk hL he => by
      cases hb : v.ownBlock with
      | none => rfl
      | some b =>
        exfalso
        have h2 := hn j hj hL b (by rw [he, hb])
        have h3 := hv b hb
        have h4 := h.lt _ (rowAt_mem hk)
        have h5 := h.lt _ (rowAt_mem hj)
        have h6 := hx.size
        rcases h3.2 with h7 | h7
        · rcases h2.2 with h8 | h8
          · have := h.ne _ (rowAt_mem hk) _ (rowAt_mem hj) (Ne.symm hjk) (h7.trans h8.symm)
            rw [h7] at this; cases this
          · have := h4 b h7; omega
        · have := h2.1; omega
    refine ⟨⟨hg.os.trans hx.os, hg.tape.trans hx.tape, hg.output.trans hx.output, Nat.le_trans hx.size hg.size, fun b hb hr => (hg.block b (Nat.lt_of_lt_of_le hb hx.size) (fun e => hr _ (rowAt_mem hk) e.symm)).trans (hx.block b hb hr)⟩, fun j hj hL b hb => ?_, fun i hi j hj hij hLi hLj he => ?_, fun s hsm hL => ?_⟩
    · by_cases e : j = k
      · subst e
        simp only [envS, if_true] at hb
        have := hv b hb
        exact ⟨this.1, this.2.imp id (fun h => Nat.le_trans hx.size h)⟩
      · simp only [envS, e, if_false] at hb
        have := hn j hj (hold j hj e hL) b hb
        exact ⟨Nat.lt_of_lt_of_le this.1 hg.size, this.2⟩
    · by_cases e : i = k
      · subst e
        simp only [envS, if_true, Ne.symm hij, if_false] at he ⊢
        exact hapart j hj (Ne.symm hij) (hold j hj (Ne.symm hij) hLj) he.symm
      · by_cases e2 : j = k
        · subst e2
          simp only [envS, if_true, e, if_false] at he ⊢
          rw [he]
          exact hapart i hi e (hold i hi e hLi) he
        · simp only [envS, e, e2, if_false] at he ⊢
          exact hd i hi j hj hij (hold i hi e hLi) (hold j hj e2 hLj) he
    · obtain ⟨hsr, hsb⟩ := hs.row s hsm
      obtain ⟨hsj, hsd⟩ := hs.dep s hsm
      by_cases e : s.k = k
      · have h2 : L s.j = true := by
          have := hcl s.j (by rw [← e]; exact hsd)
          rw [← e] at this
          simpa [ins, hsj] using this
        have hjk : s.j ≠ k := by rw [← e]; exact hsj
        refine ⟨by simp [ins, h2], ?_⟩
        simp only [envS, hjk, if_false]
        exact hsk s hsm e
      · obtain ⟨h2, h3⟩ := hst s hsm (hold s.k hsr e hL)
        have hjk : s.j ≠ k := fun e => by rw [e, hLk] at h2; cases h2
        refine ⟨by simp [ins, h2], ?_⟩
        simp only [envS, hjk, if_false]
        refine (hg.block s.b (Array.getElem?_eq_some_iff.1 h3).1 (fun e3 => ?_)).trans h3
        have := h.ne _ (rowAt_mem hsr) _ (rowAt_mem hk) e (hsb.trans e3)
        rw [show (s.k, rowAt rows s.k).2 = some s.b from hsb] at this; cases this
  a0 L env W W' k j v hk hj hkj _ _ h1 h0k h0j ha := by
    obtain ⟨hg, hv, _⟩ := ha
    refine ⟨Nat.le_trans h0j.1 hg.size, fun b hb => (hg.block b (Nat.lt_of_lt_of_le (h.lt _ (rowAt_mem hj) b hb) h0j.1) (fun e => ?_)).trans (h0j.2 b hb)⟩
    have := h.ne _ (rowAt_mem hj) _ (rowAt_mem hk) (Ne.symm hkj) (hb.trans e)
    rw [hb] at this; cases this
theorem Gp.rows_start (hok : RowsOk w rows) : ∀ W, Gr w W → (Gp.rows w rows st keep m).P1 (fun _ => false) (fun _ => undef) W ∧ ∀ k ∈ (Gp.rows w rows st keep m).wl, (Gp.rows w rows st keep m).P0 k W :=
  fun _ h => ⟨⟨⟨h.os, h.tape, h.output, h.size, fun b hb _ => h.block b hb⟩, (fun _ _ hL => by cases hL), (fun _ _ _ _ _ hL => by cases hL), fun _ _ hL => by cases hL⟩, fun _ hk => ⟨h.size, fun b hb => h.block b (hok.lt _ (rowAt_mem hk) b hb)⟩⟩
/-- What lies in new blocks alone stays. -/
theorem rows_new {R : Value → World → Prop} {i : Nat} (hok : RowsOk w rows) (hR : ∀ u W W' row, W.grownBy W' row → (∀ b, row = some b → b < w.heap.size) → R u W → R u W') :
    ∀ k ∈ (Gp.rows w rows st keep m).wl, i ≠ k → (Gp.rows w rows st keep m).keep k i = true → (Gp.rows w rows st keep m).dep i k = false → ∀ L env v u W W', L k = false → (Gp.rows w rows st keep m).P1 L env W → (Gp.rows w rows st keep m).P0 k W → (Gp.rows w rows st keep m).A k env v W W' → (Spec.like R).ok u W → (Spec.like R).ok u W' :=
  fun _ hk _ _ _ _ _ _ u W W' _ _ _ ha hr => hR u W W' _ ha.1 (hok.lt _ (rowAt_mem hk)) hr
theorem rows_is {c : Value} {i : Nat} :
    ∀ k ∈ (Gp.rows w rows st keep m).wl, i ≠ k → (Gp.rows w rows st keep m).keep k i = true → (Gp.rows w rows st keep m).dep i k = false → ∀ L env v u W W', L k = false → (Gp.rows w rows st keep m).P1 L env W → (Gp.rows w rows st keep m).P0 k W → (Gp.rows w rows st keep m).A k env v W W' → (Spec.is c).ok u W → (Spec.is c).ok u W' :=
  fun _ _ _ _ _ _ _ _ _ _ _ _ _ _ _ h => h
theorem ownG_same {W W' : World} {base size n : Nat} {e : TypeId} {v : Value} {xs : List Value} (h : W.ownsRow base e size v n xs) (hb : ∀ g, v.ownBlock = some g → W'.heap[g]? = W.heap[g]?) : W'.ownsRow base e size v n xs := by
  refine ⟨h.1, ?_⟩
  rcases h.2 with hn | ⟨g, cap, cur, rfl, h1, hg, h2⟩
  · exact .inl hn
  · exact .inr ⟨g, cap, cur, rfl, h1, (hb g rfl).trans hg, h2⟩
theorem ownG_lt {W : World} {base size n : Nat} {e : TypeId} {v : Value} {xs : List Value} (h : W.ownsRow base e size v n xs) {b : Nat} (hb : v.ownBlock = some b) : b < W.heap.size := by
  rcases h.2 with ⟨rfl, _⟩ | ⟨g, cap, cur, rfl, h1, hg, h2⟩
  · cases hb
  · simp only [Value.ownBlock, Option.some.injEq] at hb
    subst hb
    exact (Array.getElem?_eq_some_iff.1 hg).1
/-- A slice that an append has given: it owns its elements, in the row of the writer or in a new one. -/
def OwnR (w : World) (B : Nat) (e : TypeId) (size : Nat) (row : Option Nat) (n : Nat) (cs : List Value) (v : Value) (W : World) : Prop := W.ownsRow B e size v n cs ∧ NewRow w row v W
theorem OwnR.stab {B : Nat} {e : TypeId} {size : Nat} {row : Option Nat} {n : Nat} {cs : List Value} : ∀ v W W', Gr W W' → OwnR w B e size row n cs v W → OwnR w B e size row n cs v W' := fun _ _ _ hG ⟨h1, h2⟩ =>
  ⟨ownG_same h1 (fun g hg => hG.block g (h2 g hg).1), fun b hb => ⟨Nat.lt_of_lt_of_le (h2 b hb).1 hG.size, (h2 b hb).2⟩⟩
/-- Another writer leaves it. -/
theorem OwnR.other {B : Nat} {e : TypeId} {size : Nat} {k i : Nat} {n : Nat} {cs : List Value} {W W' : World} {env : Nat → Value} {u v : Value} (hok : RowsOk w rows) (hk : k ∈ rows.map (·.1)) (hi : i ∈ rows.map (·.1)) (hki : k ≠ i) (ha : (Gp.rows w rows st keep m).A k env v W W') (h : OwnR w B e size (rowAt rows i) n cs u W) : OwnR w B e size (rowAt rows i) n cs u W' := by
  obtain ⟨h1, h2⟩ := h
  obtain ⟨hg, _, _⟩ := ha
  refine ⟨ownG_same h1 (fun g hg2 => hg.block g (h2 g hg2).1 (fun e => ?_)), fun b hb => ⟨Nat.lt_of_lt_of_le (h2 b hb).1 hg.size, (h2 b hb).2⟩⟩
  rcases (h2 g hg2).2 with h3 | h3
  · have := hok.ne _ (rowAt_mem hk) _ (rowAt_mem hi) hki (e.symm.trans h3.symm)
    rw [← e] at this; cases this
  · have := hok.lt _ (rowAt_mem hk) g e.symm
    omega
/-- The append to a row that nobody has written yet. -/
theorem rows_app {P : Program} {base : Nat} {t ty e : TypeId} {i : TypeInfo} {z : Value} {size bytes : Nat} (ht : P.underlying t = some (.slice e)) (hi : P.info? e = some i) (hz : i.zero = some z)
    (hsize : i.size = size) (hby : i.bytes = bytes) (hzs : z.cells.size = size) (hsz : 0 < size) {W : World} {k : Nat} {v : Value} {n : Nat} {xs : List Value} (hrow : rowAt rows k = v.ownBlock) (hown : w.ownsRow base e size v n xs) (h0 : (Gp.rows w rows st keep m).P0 k W)
    {ad : Addr} {c : Nat} {news : List Value} {len : Nat} (hl : news.length = len * size) (hnews : ∀ j u, news[j]? = some u → W.cell? (ad.add j) = some u) (h1 : ∀ u ∈ news, u.oneCell' = true)
    (h63 : n + len ≤ maxLen) (hbytes : (n + len) * bytes ≤ 140737488355328) (hbase : base ≤ w.heap.size) (hst : ∀ s ∈ st, s.k ≠ k) (env : Nat → Value) :
    ∃ v' W', (Builtin.append_ #[t, t] ty #[v, .slice (some ad) len c]).run P W = .ok v' W' ∧ ((Gp.rows w rows st keep m).A k env v' W W' ∧ OwnR w base e size (rowAt rows k) (n + len) (xs ++ news) v' W') := by
  have hown' : W.ownsRow base e size v n xs := ownG_same hown (fun g hg => h0.2 g (hrow.trans hg))
  obtain ⟨v', W', hr, h2, h3, _, h5⟩ := run_append_own_at (P := P) W base t ty e i z size bytes ht hi hz hsize hby hzs hsz v n xs hown' ad len c news hl hnews h1 h63 hbytes (Nat.le_trans hbase h0.1)
  have hlt2 : ∀ b, v'.ownBlock = some b → b < W'.heap.size := fun b hb => ownG_lt h2 hb
  have hb : ∀ b, v'.ownBlock = some b → rowAt rows k = some b ∨ W.heap.size ≤ b := fun b hb => by
    rcases h5 with h5 | h5
    · exact .inl (hrow.trans (h5.symm.trans hb))
    · rw [h5] at hb; cases hb; exact .inr (Nat.le_refl _)
  exact ⟨v', W', hr, ⟨by rw [hrow]; exact h3, fun b hb' => ⟨hlt2 b hb', hb b hb'⟩, fun s hs e => absurd e (hst s hs)⟩, h2, fun b hb' => ⟨hlt2 b hb', (hb b hb').imp id (fun h => Nat.le_trans h0.1 h)⟩⟩
/-- A store into a block that nobody has written yet. -/
theorem rows_store {k b o j : Nat} {t : TypeId} {cs : Array Value} {W : World} {env : Nat → Value} (hb : w.heap[b]? = some (.cells cs t (0, 0))) (hrow : rowAt rows k = some b) (h0 : (Gp.rows w rows st keep m).P0 k W) (hst : ∀ s ∈ st, s.k = k → s = ⟨k, b, o, j, t, cs⟩) :
    (Gp.rows w rows st keep m).A k env undef W (W.setCell ⟨b, o, none⟩ (env j)) := by
  have h1 : W.heap[b]? = some (.cells cs t (0, 0)) := (h0.2 b hrow).trans hb
  refine ⟨⟨rfl, rfl, rfl, by simp, fun i hi hne => Below.heap_setCell W ⟨b, o, none⟩ (env j) i (fun e => hne (by rw [hrow]; exact congrArg some e))⟩, (fun b hb => by cases hb), fun s hs e => ?_⟩
  cases hst s hs e
  simp [World.setCell, Array.getElem?_modify, h1]
theorem RowsOk.nil : RowsOk w [] := ⟨by simp, by simp, by simp⟩
theorem RowsOk.cons {k : Nat} {row : Option Nat} (h : RowsOk w rows) (hlt : ∀ b, row = some b → b < w.heap.size) (hk : (rows.map (·.1)).contains k = false) (hne : ∀ x ∈ rows, row = x.2 → row = none) : RowsOk w ((k, row) :: rows) := by
  have hk' : ∀ x ∈ rows, x.1 ≠ k := fun x hx e => by
    have : (rows.map (·.1)).contains k = true := List.elem_eq_true_of_mem (by rw [← e]; exact List.mem_map.2 ⟨x, hx, rfl⟩)
    rw [hk] at this; cases this
  refine ⟨fun x hx b hb => ?_, fun x hx y hy hxy he => ?_, fun x hx y hy he => ?_⟩
  · rcases List.mem_cons.1 hx with rfl | hx
    · exact hlt b hb
    · exact h.lt x hx b hb
  · rcases List.mem_cons.1 hx with rfl | hx
    · rcases List.mem_cons.1 hy with rfl | hy
      · exact absurd rfl hxy
      · exact hne y hy he
    · rcases List.mem_cons.1 hy with rfl | hy
      · exact he.trans (hne x hx he.symm)
      · exact h.ne x hx y hy hxy he
  · rcases List.mem_cons.1 hx with rfl | hx
    · rcases List.mem_cons.1 hy with rfl | hy
      · rfl
      · exact absurd he.symm (hk' y hy)
    · rcases List.mem_cons.1 hy with rfl | hy
      · exact absurd he (hk' x hx)
      · exact h.inj x hx y hy he
theorem StOk.cons {k b o j : Nat} {t : TypeId} {cs : Array Value} (h : StOk rows st m) (hk : (rows.map (·.1)).contains k = true) (hrow : rowAt rows k = some b) (hjk : (j == k) = false) (hd : depB (ancs m) k j = true) : StOk rows (⟨k, b, o, j, t, cs⟩ :: st) m := by
  refine ⟨fun s hs => ?_, fun s hs => ?_⟩
  · rcases List.mem_cons.1 hs with rfl | hs
    · exact ⟨List.mem_of_elem_eq_true hk, hrow⟩
    · exact h.row s hs
  · rcases List.mem_cons.1 hs with rfl | hs
    · exact ⟨by simpa using hjk, hd⟩
    · exact h.dep s hs
theorem rows_ne {i : Nat} (h : (rows.map (·.1)).contains i = false) : i ∉ (Gp.rows w rows st keep m).wl := fun hi => by
  have : (rows.map (·.1)).contains i = true := List.elem_eq_true_of_mem hi
  rw [h] at this; cases this
theorem rows_in {i : Nat} (h : (rows.map (·.1)).contains i = true) : i ∈ (Gp.rows w rows st keep m).wl := List.mem_of_elem_eq_true h
theorem rows_safe {j i : Nat} : (Gp.rows w rows st (fun _ _ => true) m).safe j i = true := by simp [Gp.safe, Gp.rows]
theorem rows_safeE {j : Nat} : (Gp.rows w rows st (fun _ _ => true) m).safeE j = true := by simp [Gp.safeE, Gp.rows]
/-- What is below the writers' rows is as it was. -/
theorem GrX.below {V W : World} (h : GrX rows w W) (hb : Below V.heap.size V w) (hr : ∀ x ∈ rows, ∀ b, x.2 = some b → V.heap.size ≤ b) : Below V.heap.size V W :=
  ⟨h.os.trans hb.os, h.tape.trans hb.tape, h.output.trans hb.output, Nat.le_trans hb.size h.size, fun b hbl => (h.block b (Nat.lt_of_lt_of_le hbl hb.size) (fun x hx e => by have := hr x hx b e; omega)).trans (hb.block b hbl)⟩
/-- A region whose writers write into rows that are known. -/
theorem dagRows (n : Nat) (rows : List (Nat × Option Nat)) (st : List St) {P : Program} {Q : Exit → Act → World → Prop} {a : Act} {w : World} {id : Nat} {m : List Oper} (hm : P.follows .mixedOrders = true) (hB : dagFit n m = true) (specs : List Spec) (hlen : specs.length = n)
    (hok : RowsOk w rows) (hs : StOk rows st m) (hwl : ((rows.map (·.1)).all fun k => decide (k < n)) = true) (hdo : depOk (ancs m) m = true)
    (hst : ∀ s ∈ specs, ∀ v W W', Gr W W' → s.ok v W → s.ok v W') (hgd : ((rows.map (·.1)).all fun k => match m[k]? with | some o => o.guard.isNone | none => true) = true)
    (hst2 : StabG (Gp.rows w rows st (fun _ _ => true) m) 0 specs)
    (h : ∀ L env W, (Gp.rows w rows st (fun _ _ => true) m).P1 L env W → OblsKG (Gp.rows w rows st (fun _ _ => true) m) P m.toArray specs env W (dagEndG (Gp.rows w rows st (fun _ _ => true) m) n P Q specs L env W) 0 m specs a) :
    (Code.region id m.toArray true).wp P Q a w :=
  dagG n hm hB specs hlen (Gp.rows_good hok hs) (fun k hk => by simpa using List.all_eq_true.1 hwl k hk) rfl hdo (Gp.rows_start hok) hst (fun k hk o ho => by
    have := List.all_eq_true.1 hgd k hk
    rw [ho] at this
    simpa using this) (fun k hk i s hik h1 h2 hs => stabG_at specs 0 hst2 k hk i s (by rw [Nat.zero_add]; exact hik) (by rw [Nat.zero_add]; exact h1) (by rw [Nat.zero_add]; exact h2) hs) h
end

/-! ### The plain law -/
theorem leV_cost (n : Nat) (P : List Int) (O : List Od) (M : Nat → Int) : leV n P O M = costL P (spV n O M) n := (costL_leV (fun _ _ => rfl)).symm
theorem getD_map0 {P : List Int} {f : Int → Int} {g : Nat} (hg : g < P.length) : (P.map f).getD g 0 = f (P.getD g 0) := by
  rw [List.getD_eq_getElem?_getD, List.getD_eq_getElem?_getD, List.getElem?_map, List.getElem?_eq_getElem hg]
  rfl
theorem costL_plus {P : List Int} {F : Nat → Int} (d : Int) : ∀ n, n ≤ P.length → costL (P.map (· + d)) F n = costL P F n + d * Gr9.pre F n
  | 0, _ => by simp [costL, Gr9.pre]
  | n + 1, h => by
    rw [costL, costL, costL_plus d n (by omega), getD_map0 (by omega), Gr9.pre, Int.add_mul, Int.mul_add]
    omega
theorem costL_times {P : List Int} {F : Nat → Int} (t : Int) : ∀ n, n ≤ P.length → costL (P.map (t * ·)) F n = t * costL P F n
  | 0, _ => by simp [costL]
  | n + 1, h => by
    rw [costL, costL, costL_times t n (by omega), getD_map0 (by omega), Int.mul_add, Int.mul_assoc]
/-- All that is asked for is spent. -/
theorem spent_all {n : Nat} {O : List Od} {M : Nat → Int} (h1 : 1 ≤ n) (hO : ∀ o ∈ O, 0 ≤ o.m ∧ o.m ≤ 20) : Gr9.pre (spV n O M) n = askI O ((n - 1 : Nat) : Int) := by
  obtain ⟨m, rfl⟩ : ∃ m, n = m + 1 := ⟨n - 1, by omega⟩
  have h2 : Gr9.pre (spV (m + 1) O M) (m + 1) = Gr9.mostG M (aO O) (m + 1) m := Gr9.spentT_pre _ _ _ _
  have h3 := (askI_bound O (m : Int) hO).1
  rw [h2]
  unfold Gr9.mostG
  rw [show m + 1 - m = 0 + 1 by omega, Gr9.mostTo, Gr9.mostTo]
  have h4 : aO O (m + 0) = askI O (m : Int) := rfl
  rw [h4, show m + 1 - 1 = m by omega]
  have h5 : Gr9.pre M (m + 0 + 1) - Gr9.pre M (m + 1) = 0 := Int.sub_self _
  omega
theorem leV_plus {n : Nat} {P : List Int} {O : List Od} {M : Nat → Int} (d : Int) (hn : n = P.length) (h1 : 1 ≤ n) (hO : ∀ o ∈ O, 0 ≤ o.m ∧ o.m ≤ 20) : leV n (P.map (· + d)) O M = leV n P O M + d * askI O ((n - 1 : Nat) : Int) := by
  rw [leV_cost, leV_cost, costL_plus d n (by omega), spent_all h1 hO]
theorem leV_times {n : Nat} {P : List Int} {O : List Od} {M : Nat → Int} (t : Int) (hn : n = P.length) : leV n (P.map (t * ·)) O M = t * leV n P O M := by
  rw [leV_cost, leV_cost, costL_times t n (by omega)]
theorem woV_leV (n : Nat) (P : List Int) (O : List Od) (M : Nat → Int) (g : Nat) : woV n P O M g = leV n P O M - leV n P O (Gr9.upd M g (M g + 1)) := rfl
theorem woV_plus {n : Nat} {P : List Int} {O : List Od} {M : Nat → Int} (d : Int) (hn : n = P.length) (h1 : 1 ≤ n) (hO : ∀ o ∈ O, 0 ≤ o.m ∧ o.m ≤ 20) (g : Nat) : woV n (P.map (· + d)) O M g = woV n P O M g := by
  rw [woV_leV, woV_leV, leV_plus d hn h1 hO, leV_plus d hn h1 hO]
  omega
theorem woV_times {n : Nat} {P : List Int} {O : List Od} {M : Nat → Int} (t : Int) (hn : n = P.length) (g : Nat) : woV n (P.map (t * ·)) O M g = t * woV n P O M g := by
  rw [woV_leV, woV_leV, leV_times t hn, leV_times t hn, Int.mul_sub]
/-- What Worth returns, of a fine shop. -/
theorem worthR_in {S P : List Int} {O : List Od} (he : shopE S P O = 0) {g : Nat} (hg : g < S.length) : worthR S P O (g : Int) = if filE S P O ≠ 0 then (0, filE S P O) else (woV S.length P O (stockM S) g, 0) := by
  unfold worthR
  rw [if_neg (fun h => h he), show inR 0 ((S.length : Int) - 1) (g : Int) = true by unfold inR; simp; omega]
  rfl
theorem worthR_no {S P : List Int} {O : List Od} (he : shopE S P O = 0) (hc : canB S.length O (stockM S) = false) {g : Nat} (hg : g < S.length) : worthR S P O (g : Int) = (0, 25) := by
  rw [worthR_in he hg, filE_no he hc]; rfl
theorem worthR_ok {S P : List Int} {O : List Od} (he : shopE S P O = 0) (hc : canB S.length O (stockM S) = true) {g : Nat} (hg : g < S.length) : worthR S P O (g : Int) = (woV S.length P O (stockM S) g, 0) := by
  rw [worthR_in he hg, filE_ok he hc]; rfl
theorem leastN_no {S P : List Int} {O : List Od} (hc : canB S.length O (stockM S) = false) : leastN S P O = 0 := by unfold leastN; rw [hc]; rfl
/-! ### The walk -/
/-- While the new prices are laid. -/
structure PX (V W : World) (XB YB : Nat) (sv ov v1 v2 : Value) (xs ys : List Int) : Prop where
  be : Below V.heap.size V W
  xb : Blk W XB 25 #[sv, v1, ov]
  yb : Blk W YB 25 #[sv, v2, ov]
  o1 : RowI V.heap.size xs v1 W
  o2 : RowI V.heap.size ys v2 W
  ne : v1.ownBlock = v2.ownBlock → v1.ownBlock = none
  xy : XB ≠ YB ∧ V.heap.size ≤ XB ∧ V.heap.size ≤ YB
theorem px_start (V : World) (sv ov : Value) : PX V ((V.alloc (.cells #[sv, .slice none 0 0, ov] 25)).alloc (.cells #[sv, .slice none 0 0, ov] 25)) V.heap.size (V.heap.size + 1) sv ov (.slice none 0 0) (.slice none 0 0) [] [] := by
  have h1 := Blk.new (V.alloc (.cells #[sv, .slice none 0 0, ov] 25)) 25 #[sv, .slice none 0 0, ov]
  rw [World.size_alloc] at h1
  exact ⟨balloc (balloc (brefl V) _) _, (Blk.new V _ _).alloc _, h1, World.ownsRow_nil _ _ _ _, World.ownsRow_nil _ _ _ _, fun _ => rfl, by omega, by omega, by omega⟩
section
variable {V W W' : World} {XB YB : Nat} {sv ov v1 v2 : Value} {xs ys : List Int}
theorem PX.rows (h : PX V W XB YB sv ov v1 v2 xs ys) : RowsOk W [(11, v1.ownBlock), (22, v2.ownBlock), (24, some XB), (26, some YB)] := by
  have hx := h.xy
  refine (((RowsOk.nil.cons ?_ rfl (by simp)).cons ?_ rfl ?_).cons ?_ rfl ?_).cons ?_ rfl ?_
  · intro b hb; cases hb; exact h.yb.lt
  · intro b hb; cases hb; exact h.xb.lt
  · intro x hm he
    rcases List.mem_singleton.1 hm with rfl
    simp only [Option.some.injEq] at he
    exact absurd he hx.1
  · intro b hb; exact ownG_lt h.o2 hb
  · intro x hm he
    simp only [List.mem_cons, List.not_mem_nil, or_false] at hm
    rcases hm with rfl | rfl
    · exact absurd he (h.xb.notRow h.o2 (by decide))
    · exact absurd he (h.yb.notRow h.o2 (by decide))
  · intro b hb; exact ownG_lt h.o1 hb
  · intro x hm he
    simp only [List.mem_cons, List.not_mem_nil, or_false] at hm
    rcases hm with rfl | rfl | rfl
    · exact h.ne he
    · exact absurd he (h.xb.notRow h.o1 (by decide))
    · exact absurd he (h.yb.notRow h.o1 (by decide))
theorem row_from {B n size : Nat} {e : TypeId} {v : Value} {xs : List Value} (h : W.ownsRow B e size v n xs) {b : Nat} (hb : v.ownBlock = some b) : B ≤ b := by
  rcases h.2 with ⟨rfl, _⟩ | ⟨g, cap, cur, rfl, h1, _⟩
  · cases hb
  · simp only [Value.ownBlock, Option.some.injEq] at hb
    omega
theorem PX.below (h : PX V W XB YB sv ov v1 v2 xs ys) (hg : GrX [(11, v1.ownBlock), (22, v2.ownBlock), (24, some XB), (26, some YB)] W W') : Below V.heap.size V W' := by
  have hx := h.xy
  refine hg.below h.be fun x hm b hb => ?_
  simp only [List.mem_cons, List.not_mem_nil, or_false] at hm
  rcases hm with rfl | rfl | rfl | rfl
  · exact row_from h.o1 hb
  · exact row_from h.o2 hb
  · cases hb; exact hx.2.1
  · cases hb; exact hx.2.2
end
set_option maxRecDepth 100000 in
set_option maxHeartbeats 8000000 in
theorem prices_law (SA : Option Addr) (sn sc : Nat) (PA : Option Addr) (pn pc : Nat) (OA : Option Addr) (on oc : Nat) (S P : List Int) (O : List Od) (u1 u2 u3 : Int) (w : World) (hs : ShopIn w w.heap.size SA sn sc PA pn pc OA on oc S P O) (hu1 : 0 ≤ u1 ∧ u1 ≤ 255) (hu2 : 0 ≤ u2 ∧ u2 ≤ 255) (hu3 : 0 ≤ u3 ∧ u3 ≤ 255) : Calls Try.prog 11 #[.agg #[.slice SA sn sc, .slice PA pn pc, .slice OA on oc], .int .u8 u1, .int .u8 u2, .int .u8 u3] w fun e w' => e = .returned (.bool true) ∧ Below w.heap.size w w' := by
  have Hs := Lib.hid hs
  obtain rfl := hs.stk.len
  obtain rfl := hs.prc.len
  obtain rfl := hs.ord.len
  have HG0 := Lib.hid (GW.start hs)
  obtain ⟨g0, g1, g2, g3⟩ := HG0.out.cells
  have Hf := Lib.hid (fun W (h : ShopIn W W.heap.size SA S.length sc PA P.length pc OA O.length oc S P O) => fine_any SA S.length sc PA P.length pc OA O.length oc S P O W h)
  by_cases he : shopE S P O = 0
  case neg =>
    rw [decide_eq_false he] at Hf
    clear hs he hu1 hu2 hu3 Hs
    go_enter Try.func11, Try.ntmps11
    go_wp2_with fail
    refine (Hf.out _ HG0.out.sh).mono ?_
    rintro e w1 ⟨rfl, hb⟩
    have HG1 := Lib.hid (HG0.out.later hb)
    clear hb HG0 g0 g1 g2 g3
    obtain ⟨g0, g1, g2, g3⟩ := HG1.out.cells
    go_wp2_with fail
    refine (works_any _).mono ?_
    rintro e we ⟨rfl, hbe⟩
    have HBE := Lib.hid (Below.later HG1.out.bel hbe)
    clear hbe
    go_wp2
    go_ret
    exact ⟨rfl, HBE.out⟩
  case pos =>
  rw [decide_eq_true he] at Hf
  have hF := fine_of he
  have n5 := hF.n5
  have n1 := hF.n1
  have o8 := hF.o8
  have hPS := hF.len
  have HF := Lib.hid hF
  obtain ⟨z, hz⟩ : ∃ z, u2.tmod 4 = z := ⟨_, rfl⟩
  have hz4 : 0 ≤ z ∧ z < 4 := by rw [← hz, Int.tmod_eq_emod_of_nonneg hu2.1]; omega
  have e1 : IntKind.u8.wrap z = z := by rw [IntKind.wrap_u8]; omega
  have e2 : IntKind.i64.wrap z = z := by rw [IntKind.wrap_i64]; omega
  obtain ⟨t, ht⟩ : ∃ t, 1 + z = t := ⟨_, rfl⟩
  have e3 : IntKind.i64.wrap (1 + z) = t := by rw [IntKind.wrap_i64]; omega
  obtain ⟨g, hg⟩ : ∃ g : Nat, u3.tmod (S.length : Int) = (g : Int) := ⟨(u3.tmod (S.length : Int)).toNat, by
    rw [Int.tmod_eq_emod_of_nonneg hu3.1]
    have := Int.emod_nonneg u3 (show (S.length : Int) ≠ 0 by omega)
    omega⟩
  have gl : g < S.length := by
    have h1 := Int.emod_lt_of_pos u3 (show (0 : Int) < (S.length : Int) by omega)
    rw [Int.tmod_eq_emod_of_nonneg hu3.1] at hg
    omega
  have e4 : IntKind.i64.wrap u3 = u3 := by rw [IntKind.wrap_i64]; omega
  have e5 : IntKind.i64.wrap (g : Int) = (g : Int) := by rw [IntKind.wrap_i64]; omega
  have e6 : ¬ (S.length : Int) = 0 := by omega
  have e7 : ¬ S = [] := fun e => by rw [e] at n1; simp at n1
  have Hnum := Lib.hid (show (0 ≤ u1 ∧ u1 ≤ 255) ∧ (1 ≤ t ∧ t ≤ 4) ∧ g < S.length ∧ P.length = S.length from ⟨hu1, by omega, gl, by omega⟩)
  clear hs he hF hu1 hu2 hu3 hz4 ht gl hPS
  go_enter Try.func11, Try.ntmps11
  go_wp2_with fail
  refine (Hf.out _ HG0.out.sh).mono ?_
  rintro e w2 ⟨rfl, hb⟩
  have HG1 := Lib.hid (HG0.out.later hb)
  clear hb HG0 g0 g1 g2 g3
  obtain ⟨g0, g1, g2, g3⟩ := HG1.out.cells
  go_wp2_with fail
  refine dag 12 (by kernel_rfl) (by kernel_rfl) (.is ?_ :: .is ?_ :: .is ?_ :: .is ?_ :: .is ?_ :: .is ?_ :: .is ?_ :: .is ?_ :: .is ?_ :: .is ?_ :: .is ?_ :: .is ?_ :: []) rfl ?st1 ?ob1
  case st1 => simp [Spec.ok]
  case ob1 =>
  intro env V hG
  obtain ⟨hc, hf⟩ := bcell hG
  repeat (refine obls_is ?_ ?_; unfold doesAt; go_simp; (try go_bits); (first | (refine ⟨brefl _, ?_⟩; rfl) | rfl); intro K hK; go_simp; refine hK _ ?_; clear hK K)
  refine obls_nil (fun _ => ?_)
  have HG9 := Lib.hid (HG1.out.later hG)
  clear hc hf hG HG1 g0 g1 g2 g3 e1 e2 e3 e4 e5 e6 e7 hz hg
  obtain ⟨g0, g1, g2, g3⟩ := HG9.out.cells
  go_wp2_with fail
  have HX0 := Lib.hid (px_start V (.slice SA S.length sc) (.slice OA O.length oc))
  refine loop_n (fun m b W => b.defers = [] ∧ ∃ (i : Nat) (v1 v2 : Value), i + m = P.length ∧ Hid (PX V W V.heap.size (V.heap.size + 1) (.slice SA S.length sc) (.slice OA O.length oc) v1 v2 ((P.take i).map (· + u1)) ((P.take i).map (t * ·))) ∧ Fits (none :: some (.int .u8 u1) :: none :: none :: some (.pointer (some ⟨w.heap.size, 0, none⟩)) :: none :: none :: none :: none :: some (.int .i64 t) :: some (.int .i64 (g : Nat)) :: some (.pointer (some ⟨V.heap.size, 0, none⟩)) :: some (.pointer (some ⟨V.heap.size + 1, 0, none⟩)) :: some (.int .i64 (i : Nat)) :: none :: none :: none :: none :: none :: none :: none :: none :: none :: none :: none :: none :: none :: none :: none :: none :: none :: none :: none :: none :: none :: none :: none :: none :: none :: none :: none :: none :: none :: none :: none :: none :: none :: none :: none :: none :: none :: none :: none :: none :: none :: none :: none :: none :: none :: none :: none :: none :: none :: none :: none :: none :: none :: none :: none :: none :: none :: none :: none :: none :: none :: none :: none :: none :: none :: none :: none :: none :: none :: none :: none :: none :: none :: none :: none :: none :: none :: none :: none :: none :: none :: none :: none :: none :: none :: none :: none :: none :: none :: none :: none :: none :: none :: none :: none :: none :: none :: none :: none :: none :: none :: none :: none :: none :: none :: none :: none :: none :: none :: none :: none :: none :: none :: none :: none :: none :: none :: none :: none :: none :: none :: none :: none :: none :: none :: none :: none :: none :: none :: none :: none :: none :: none :: none :: none :: none :: none :: none :: none :: none :: none :: none :: none :: none :: none :: none :: none :: none :: none :: none :: none :: none :: none :: none :: none :: none :: none :: none :: none :: none :: none :: none :: none :: none :: none :: none :: none :: none :: none :: none :: none :: none :: none :: none :: none :: none :: none :: none :: none :: none :: none :: none :: none :: none :: none :: none :: none :: none :: []) b.tmps.toList) P.length ?_ ?_
  · refine ⟨rfl, 0, _, _, by omega, HX0, ?_⟩
    repeat (first | exact fits_nil | refine fits_none ?_ | refine fits_some ?_)
  clear HX0 g0 g1 g2 g3
  intro m b W hI K hK
  obtain ⟨hds, i, v1, v2, him, HX, hfit⟩ := hI
  obtain ⟨f, hf⟩ := fits_act hfit
  rw [hds] at hf
  subst hf
  clear hfit hds
  simp only [fillP, Nat.reduceAdd]
  have HGl := Lib.hid (HG9.out.later HX.out.be)
  obtain ⟨g0, g1, g2, g3⟩ := HGl.out.cells
  by_cases hlt : i < P.length
  · have i1 : (i : Int) < (P.length : Int) := by omega
    have i2 : (0 : Int) ≤ (i : Int) := by omega
    have i3 : IntKind.i64.wrap ((i : Int) + 1) = (i : Int) + 1 := by have := HF.out.n5; have := Hnum.out.2.2.2; rw [IntKind.wrap_i64]; omega
    have Him := Lib.hid (show i + m = P.length ∧ i < P.length from ⟨him, hlt⟩)
    obtain ⟨pb, po, x, rfl, hpb, hx, q0⟩ := HG9.out.sh.prc.ltI (i := i) hlt
    have hxb := HF.out.prc x (List.mem_of_getElem? hx)
    have hu := Hnum.out
    obtain ⟨a, ha⟩ : ∃ a, x + u1 = a := ⟨_, rfl⟩
    obtain ⟨c, hcc⟩ : ∃ c, t * x = c := ⟨_, rfl⟩
    have hcb : 0 ≤ c ∧ c ≤ 400 := by
      rw [← hcc]
      exact ⟨Int.mul_nonneg (by omega) hxb.1, Int.le_trans (Int.mul_le_mul hu.2.1.2 hxb.2 hxb.1 (by omega)) (by omega)⟩
    have w1 : IntKind.i64.wrap u1 = u1 := by rw [IntKind.wrap_i64]; omega
    have w2 : IntKind.i64.wrap (x + u1) = a := by rw [IntKind.wrap_i64]; omega
    have w3 : IntKind.i64.wrap (t * x) = c := by rw [hcc, IntKind.wrap_i64]; omega
    have HT1 := Lib.hid (show (P.take (i + 1)).map (· + u1) = (P.take i).map (· + u1) ++ [a] by rw [List.take_add_one, hx, List.map_append]; simp [ha])
    have HT2 := Lib.hid (show (P.take (i + 1)).map (t * ·) = (P.take i).map (t * ·) ++ [c] by rw [List.take_add_one, hx, List.map_append]; simp [hcc])
    have Hl := Lib.hid (show ((P.take i).map (· + u1)).length ≤ 5 ∧ ((P.take i).map (t * ·)).length ≤ 5 by have := HF.out.n5; simp; omega)
    generalize (P.take i).map (· + u1) = xs at *
    generalize (P.take i).map (t * ·) = ys at *
    clear hlt him hx hxb hu ha hcc hcb
    go_wp2_with fail
    have HRk := Lib.hid HX.out.rows
    refine dagRows 27 [(11, v1.ownBlock), (22, v2.ownBlock), (24, some V.heap.size), (26, some (V.heap.size + 1))] [⟨24, V.heap.size, 1, 11, 25, #[.slice SA S.length sc, v1, .slice OA O.length oc]⟩, ⟨26, V.heap.size + 1, 1, 22, 25, #[.slice SA S.length sc, v2, .slice OA O.length oc]⟩] (by kernel_rfl) (by kernel_rfl) (.is ?_ :: .is ?_ :: .is ?_ :: .is ?_ :: .is ?_ :: .is ?_ :: .is ?_ :: .is ?_ :: .is ?_ :: .is ?_ :: .like (OneI W.heap.size a) :: .like (OwnR W V.heap.size 2 1 v1.ownBlock (xs.length + 1) (xs.map (Value.int .i64) ++ [.int .i64 a])) :: .is ?_ :: .is ?_ :: .is ?_ :: .is ?_ :: .is ?_ :: .is ?_ :: .is ?_ :: .is ?_ :: .is ?_ :: .like (OneI W.heap.size c) :: .like (OwnR W V.heap.size 2 1 v2.ownBlock (ys.length + 1) (ys.map (Value.int .i64) ++ [.int .i64 c])) :: .is ?_ :: .like (fun _ _ => True) :: .is ?_ :: .like (fun _ _ => True) :: []) rfl HRk.out ?so1 rfl (by kernel_rfl) ?st1 (by kernel_rfl) ?sg1 ?ob1
    case so1 => exact (StOk.nil.cons rfl rfl rfl (by kernel_rfl)).cons rfl rfl rfl (by kernel_rfl)
    case st1 => repeat (first | exact stab_nil | refine stab_is ?_ | refine stab_like OneI.stab ?_ | refine stab_like OwnR.stab ?_ | refine stab_like (fun _ _ _ _ _ => trivial) ?_)
    case sg1 => exact ⟨rows_is, rows_is, rows_is, rows_is, rows_is, rows_is, rows_is, rows_is, rows_is, rows_is, rows_new HRk.out (fun u W W' row hg hr h => h.grown hg hr), (fun k hk hik _ _ _ _ _ _ _ _ _ _ _ ha h => OwnR.other (i := 11) HRk.out hk (by simp) (Ne.symm hik) ha h), rows_is, rows_is, rows_is, rows_is, rows_is, rows_is, rows_is, rows_is, rows_is, rows_new HRk.out (fun u W W' row hg hr h => h.grown hg hr), (fun k hk hik _ _ _ _ _ _ _ _ _ _ _ ha h => OwnR.other (i := 22) HRk.out hk (by simp) (Ne.symm hik) ha h), rows_is, (fun _ _ _ _ _ _ _ _ _ _ _ _ _ _ _ _ => trivial), rows_is, (fun _ _ _ _ _ _ _ _ _ _ _ _ _ _ _ _ => trivial), trivial⟩
    case ob1 =>
    intro L env1 W2 hP
    have hb2 := HX.out.below hP.1
    have HP := Lib.hid hP
    have HGw := Lib.hid (HG9.out.later hb2)
    obtain ⟨r0, r1, r2, r3⟩ := HGw.out.cells
    have q1 := (hb2.cell (p := ⟨pb, po + i, none⟩) hpb).trans q0
    have q2 := Nat.lt_of_lt_of_le hpb hb2.size
    have HW2 := Lib.hid (show V.heap.size ≤ W.heap.size ∧ W.heap.size ≤ W2.heap.size from ⟨HX.out.be.size, hP.1.size⟩)
    obtain ⟨i0, hi0, hz0, hz1, hz2⟩ := info_parts info_long
    clear hP hb2
    (refine oblsG_is (rows_ne rfl) (fun _ => ?_) ?_; unfold doesAt; go_simp; (try go_bits); (first | (refine ⟨brefl _, ?_⟩; rfl) | rfl); intro K hK; go_simp; refine hK _ ?_; clear hK K)
    refine oblsG_is (rows_ne rfl) (fun hp => ?_) ?_
    · have hb : Blk W2 V.heap.size _ _ := ((hp 24 (rows_in rfl) (.inr (by kernel_rfl))).2 V.heap.size rfl).trans HX.out.xb
      have y0 := hb.cell 1
      have y1 := hb.lt
      unfold doesAt
      go_simp
      refine ⟨brefl _, ?_⟩
      rfl
    intro K hK
    go_simp
    refine hK _ ?_
    clear hK K
    iterate 8 (refine oblsG_is (rows_ne rfl) (fun _ => ?_) ?_; unfold doesAt; go_simp; (try go_bits); (first | (refine ⟨brefl _, ?_⟩; rfl) | rfl); intro K hK; go_simp; refine hK _ ?_; clear hK K)
    refine oblsG_like (rows_ne rfl) (fun _ _ => ?_) ?_
    · unfold doesAt
      go_simp
      have hbn := Blk.new W2 2 #[.int .i64 a]
      exact ⟨balloc (brefl W2) _, W2.heap.size, rfl, HW2.out.2, hbn.lt, hbn.cell 0⟩
    intro K hK
    go_simp
    refine hK _ ?_
    clear hK K
    refine oblsG_wr (rows_in rfl) (fun hl hp => ?_) ?_
    · obtain ⟨gb, hE, hg1, hg2, hg3⟩ := hl ⟨10, .data⟩ (by simp) rfl rows_safe
      refine app_of_run rfl (.tmp 60) (.tmp 69) 22 rfl rfl rfl ?_
      rw [show env1 10 = _ from hE]
      exact rows_app und_longs hi0 hz0 hz1 hz2 rfl (by decide) rfl HX.out.o1 (hp 11 (rows_in rfl) (.inl rfl)) (len := 1) rfl (one_newsI hg3) (by simp [Value.oneCell']) (by have := Hl.out; simp only [maxLen]; omega) (by have := Hl.out; omega) HW2.out.1 (by simp) env1
    intro K hK
    go_simp
    refine hK _ ?_
    clear hK K
    (refine oblsG_is (rows_ne rfl) (fun _ => ?_) ?_; unfold doesAt; go_simp; (try go_bits); (first | (refine ⟨brefl _, ?_⟩; rfl) | rfl); intro K hK; go_simp; refine hK _ ?_; clear hK K)
    refine oblsG_is (rows_ne rfl) (fun hp => ?_) ?_
    · have hb : Blk W2 (V.heap.size + 1) _ _ := ((hp 26 (rows_in rfl) (.inr (by kernel_rfl))).2 (V.heap.size + 1) rfl).trans HX.out.yb
      have y0 := hb.cell 1
      have y1 := hb.lt
      unfold doesAt
      go_simp
      refine ⟨brefl _, ?_⟩
      rfl
    intro K hK
    go_simp
    refine hK _ ?_
    clear hK K
    iterate 7 (refine oblsG_is (rows_ne rfl) (fun _ => ?_) ?_; unfold doesAt; go_simp; (try go_bits); (first | (refine ⟨brefl _, ?_⟩; rfl) | rfl); intro K hK; go_simp; refine hK _ ?_; clear hK K)
    refine oblsG_like (rows_ne rfl) (fun _ _ => ?_) ?_
    · unfold doesAt
      go_simp
      have hbn := Blk.new W2 2 #[.int .i64 c]
      exact ⟨balloc (brefl W2) _, W2.heap.size, rfl, HW2.out.2, hbn.lt, hbn.cell 0⟩
    intro K hK
    go_simp
    refine hK _ ?_
    clear hK K
    refine oblsG_wr (rows_in rfl) (fun hl hp => ?_) ?_
    · obtain ⟨gb, hE, hg1, hg2, hg3⟩ := hl ⟨21, .data⟩ (by simp) rfl rows_safe
      refine app_of_run rfl (.tmp 72) (.tmp 80) 22 rfl rfl rfl ?_
      rw [show env1 21 = _ from hE]
      exact rows_app und_longs hi0 hz0 hz1 hz2 rfl (by decide) rfl HX.out.o2 (hp 22 (rows_in rfl) (.inl rfl)) (len := 1) rfl (one_newsI hg3) (by simp [Value.oneCell']) (by have := Hl.out; simp only [maxLen]; omega) (by have := Hl.out; omega) HW2.out.1 (by simp) env1
    intro K hK
    go_simp
    refine hK _ ?_
    clear hK K
    (refine oblsG_is (rows_ne rfl) (fun _ => ?_) ?_; unfold doesAt; go_simp; (try go_bits); (first | (refine ⟨brefl _, ?_⟩; rfl) | rfl); intro K hK; go_simp; refine hK _ ?_; clear hK K)
    refine oblsG_wr (rows_in rfl) (fun hl hp => ?_) ?_
    · have hp0 := hp 24 (rows_in rfl) (.inl rfl)
      have hb : Blk W2 V.heap.size _ _ := (hp0.2 V.heap.size rfl).trans HX.out.xb
      obtain ⟨gb, gc, hE⟩ := own_succ (show OwnR _ _ _ _ _ _ _ (env1 11) _ from hl ⟨11, .data⟩ (by simp) rfl rows_safe).1
      have hst := rows_store (o := 1) (j := 11) (env := env1) HX.out.xb rfl hp0 (by simp)
      have y0 := hb.cell 1
      have y1 := hb.lt
      have y2 := hb.frozen 1
      rw [hE] at hst
      clear hp hl hb
      unfold doesAt
      simp only [hE]
      go_simp
    intro K hK
    go_simp
    refine hK _ ?_
    clear hK K
    (refine oblsG_is (rows_ne rfl) (fun _ => ?_) ?_; unfold doesAt; go_simp; (try go_bits); (first | (refine ⟨brefl _, ?_⟩; rfl) | rfl); intro K hK; go_simp; refine hK _ ?_; clear hK K)
    refine oblsG_wr (rows_in rfl) (fun hl hp => ?_) ?_
    · have hp0 := hp 26 (rows_in rfl) (.inl rfl)
      have hb : Blk W2 (V.heap.size + 1) _ _ := (hp0.2 (V.heap.size + 1) rfl).trans HX.out.yb
      obtain ⟨gb, gc, hE⟩ := own_succ (show OwnR _ _ _ _ _ _ _ (env1 22) _ from hl ⟨22, .data⟩ (by simp) rfl rows_safe).1
      have hst := rows_store (o := 1) (j := 22) (env := env1) HX.out.yb rfl hp0 (by simp)
      have y0 := hb.cell 1
      have y1 := hb.lt
      have y2 := hb.frozen 1
      rw [hE] at hst
      clear hp hl hb
      unfold doesAt
      simp only [hE]
      go_simp
    intro K hK
    go_simp
    refine hK _ ?_
    clear hK K
    refine oblsG_nil (fun hall hok => ?_)
    have h11 : OwnR W V.heap.size 2 1 v1.ownBlock (xs.length + 1) (xs.map (Value.int .i64) ++ [.int .i64 a]) (env1 11) W2 := hok 11 _ rfl rows_safeE
    have h22 : OwnR W V.heap.size 2 1 v2.ownBlock (ys.length + 1) (ys.map (Value.int .i64) ++ [.int .i64 c]) (env1 22) W2 := hok 22 _ rfl rows_safeE
    have hlink := HP.out.2.2.1 11 (by simp) 22 (by simp) (by decide) (hall 11 (by decide)) (hall 22 (by decide))
    have hsx := (HP.out.2.2.2 _ (.head _) (hall 24 (by decide))).2
    have hsy := (HP.out.2.2.2 _ (.tail _ (.head _)) (hall 26 (by decide))).2
    have HXn := Lib.hid (show PX V W2 V.heap.size (V.heap.size + 1) (.slice SA S.length sc) (.slice OA O.length oc) (env1 11) (env1 22) (xs ++ [a]) (ys ++ [c]) from ⟨HX.out.below HP.out.1, hsx, hsy, by unfold RowI; simpa using h11.1, by unfold RowI; simpa using h22.1, hlink, HX.out.xy⟩)
    clear h11 h22 hlink hsx hsy hok hall r0 r1 r2 r3 q1 q2 HP HGw
    go_wp2_with fail
    refine hK _ _ (m - 1) (by have := Him.out; omega) ⟨rfl, i + 1, _, _, by have := Him.out; omega, by rw [HT1.out, HT2.out]; exact HXn, ?_⟩
    repeat (first | exact fits_nil | refine fits_none ?_ | refine fits_some ?_)
  · obtain rfl : i = P.length := by omega
    have i1 : ¬ (P.length : Int) < (P.length : Int) := by omega
    clear him hlt hK
    rw [List.take_length] at HX
    obtain ⟨A1, c1, rfl, hs1⟩ := own_slI HX.out.o1 rfl
    obtain ⟨A2, c2, rfl, hs2⟩ := own_slI HX.out.o2 rfl
    have HO0 := Lib.hid (show GW w W V.heap.size SA S.length sc A1 (P.map (· + u1)).length c1 OA O.length oc S (P.map (· + u1)) O from ⟨HGl.out.bel, HX.out.xb, ⟨HGl.out.sh.stk, hs1, HGl.out.sh.ord⟩⟩)
    have HP0 := Lib.hid (show GW w W (V.heap.size + 1) SA S.length sc A2 (P.map (t * ·)).length c2 OA O.length oc S (P.map (t * ·)) O from ⟨HGl.out.bel, HX.out.yb, ⟨HGl.out.sh.stk, hs2, HGl.out.sh.ord⟩⟩)
    have HG0 := HGl
    have hF := HF.out
    have hnum := Hnum.out
    have hO : ∀ o ∈ O, 0 ≤ o.m ∧ o.m ≤ 20 := fun o ho => (hF.ord o ho).2
    have hab := askI_bound O ((S.length : Int) - 1) hO
    have hlb := leV_bound hF.ok
    have hwb := wo_bound hF.ok hnum.2.2.1
    have hpr := hF.ok.pr0 g hnum.2.2.1
    have hp0 : prM P 0 ≤ 100 := by
      have h1 : prM P 0 = P.getD 0 0 := rfl
      rw [h1, List.getD_eq_getElem?_getD, List.getElem?_eq_getElem (by omega)]
      exact (hF.prc _ (List.getElem_mem _)).2
    have hlp := leV_plus (M := stockM S) u1 hnum.2.2.2.symm n1 hO
    have hlt := leV_times (O := O) (M := stockM S) t hnum.2.2.2.symm
    have hwp := woV_plus (M := stockM S) u1 hnum.2.2.2.symm n1 hO g
    have hwt := woV_times (O := O) (M := stockM S) t hnum.2.2.2.symm g
    rw [show ((S.length - 1 : Nat) : Int) = (S.length : Int) - 1 by omega] at hlp
    have Ha := Lib.hid (fun W (h : ShopIn W W.heap.size SA S.length sc PA P.length pc OA O.length oc S P O) => refAsked_any SA S.length sc PA P.length pc OA O.length oc S P O W h ((S.length : Int) - 1) o8 hO)
    have Hl := Lib.hid (fun W (h : ShopIn W W.heap.size SA S.length sc PA P.length pc OA O.length oc S P O) => least_both SA S.length sc PA P.length pc OA O.length oc S P O W h (fine_iff hF))
    have Hw := Lib.hid (fun W (h : ShopIn W W.heap.size SA S.length sc PA P.length pc OA O.length oc S P O) => worthA_any SA S.length sc PA P.length pc OA O.length oc S P O W h (g : Int))
    generalize P.map (· + u1) = P1 at *
    generalize P.map (t * ·) = P2 at *
    have Hf1 := Lib.hid (fun W (h : ShopIn W W.heap.size SA S.length sc A1 P1.length c1 OA O.length oc S P1 O) => fine_any SA S.length sc A1 P1.length c1 OA O.length oc S P1 O W h)
    have Hf2 := Lib.hid (fun W (h : ShopIn W W.heap.size SA S.length sc A2 P2.length c2 OA O.length oc S P2 O) => fine_any SA S.length sc A2 P2.length c2 OA O.length oc S P2 O W h)
    have Hl1 := Lib.hid (fun he W (h : ShopIn W W.heap.size SA S.length sc A1 P1.length c1 OA O.length oc S P1 O) => least_both SA S.length sc A1 P1.length c1 OA O.length oc S P1 O W h he)
    have Hl2 := Lib.hid (fun he W (h : ShopIn W W.heap.size SA S.length sc A2 P2.length c2 OA O.length oc S P2 O) => least_both SA S.length sc A2 P2.length c2 OA O.length oc S P2 O W h he)
    have Hw1 := Lib.hid (fun W (h : ShopIn W W.heap.size SA S.length sc A1 P1.length c1 OA O.length oc S P1 O) => worthA_any SA S.length sc A1 P1.length c1 OA O.length oc S P1 O W h (g : Int))
    have Hw2 := Lib.hid (fun W (h : ShopIn W W.heap.size SA S.length sc A2 P2.length c2 OA O.length oc S P2 O) => worthA_any SA S.length sc A2 P2.length c2 OA O.length oc S P2 O W h (g : Int))
    have gl := hnum.2.2.1
    obtain ⟨o0, o1, o2, o3⟩ := HO0.out.cells
    obtain ⟨p0, p1, p2, p3⟩ := HP0.out.cells
    have He := Lib.hid (fine_iff hF)
    clear hs1 hs2 HX hO hpr
    cases hc : canB S.length O (stockM S) with
    | false =>
      rw [worthR_no He.out hc gl] at Hw
      rw [hc, leastN_no hc] at Hl
      clear hlb hwb hp0 hlp hlt hwp hwt hab hnum hF
      go_wp2_with fail
      refine (Hl.out _ HG0.out.sh).mono ?_
      rintro e w3 ⟨rfl, hb, hX⟩
      have HG1 := Lib.hid (HG0.out.later hb)
      have HO1 := Lib.hid (HO0.out.later hb)
      have HP1 := Lib.hid (HP0.out.later hb)
      clear hb HG0 HO0 HP0 g0 g1 g2 g3 o0 o1 o2 o3 p0 p1 p2 p3
      obtain ⟨g0, g1, g2, g3⟩ := HG1.out.cells
      obtain ⟨o0, o1, o2, o3⟩ := HO1.out.cells
      obtain ⟨p0, p1, p2, p3⟩ := HP1.out.cells
      clear hX
      go_wp2_with fail
      refine (Hw.out _ HG1.out.sh).mono ?_
      rintro e w4 ⟨rfl, hb⟩
      have HG2 := Lib.hid (HG1.out.later hb)
      have HO2 := Lib.hid (HO1.out.later hb)
      have HP2 := Lib.hid (HP1.out.later hb)
      clear hb HG1 HO1 HP1 g0 g1 g2 g3 o0 o1 o2 o3 p0 p1 p2 p3
      obtain ⟨g0, g1, g2, g3⟩ := HG2.out.cells
      obtain ⟨o0, o1, o2, o3⟩ := HO2.out.cells
      obtain ⟨p0, p1, p2, p3⟩ := HP2.out.cells
      cases h1 : decide (shopE S P1 O = 0) with
      | false =>
        rw [h1] at Hf1
        clear h1
        go_wp2_with fail
        refine (Hf1.out _ HO2.out.sh).mono ?_
        rintro e w5 ⟨rfl, hb⟩
        have HG3 := Lib.hid (HG2.out.later hb)
        have HO3 := Lib.hid (HO2.out.later hb)
        have HP3 := Lib.hid (HP2.out.later hb)
        clear hb HG2 HO2 HP2 g0 g1 g2 g3 o0 o1 o2 o3 p0 p1 p2 p3
        obtain ⟨g0, g1, g2, g3⟩ := HG3.out.cells
        obtain ⟨o0, o1, o2, o3⟩ := HO3.out.cells
        obtain ⟨p0, p1, p2, p3⟩ := HP3.out.cells
        cases h2 : decide (shopE S P2 O = 0) with
        | false =>
          rw [h2] at Hf2
          clear h2
          go_wp2_with fail
          refine (Hf2.out _ HP3.out.sh).mono ?_
          rintro e w6 ⟨rfl, hb⟩
          have HG4 := Lib.hid (HG3.out.later hb)
          have HO4 := Lib.hid (HO3.out.later hb)
          have HP4 := Lib.hid (HP3.out.later hb)
          clear hb HG3 HO3 HP3 g0 g1 g2 g3 o0 o1 o2 o3 p0 p1 p2 p3
          obtain ⟨g0, g1, g2, g3⟩ := HG4.out.cells
          obtain ⟨o0, o1, o2, o3⟩ := HO4.out.cells
          obtain ⟨p0, p1, p2, p3⟩ := HP4.out.cells
          go_wp2_with fail
          refine (works_any _).mono ?_
          rintro e we ⟨rfl, hbe⟩
          have HBE := Lib.hid (Below.later HG4.out.bel hbe)
          clear hbe
          go_wp2
          go_ret
          exact ⟨rfl, HBE.out⟩
        | true =>
          rw [h2] at Hf2
          have h2' := of_decide_eq_true h2
          rw [worthR_no h2' hc gl] at Hw2
          have Hl2' := Lib.hid (Hl2.out h2')
          rw [hc, leastN_no hc] at Hl2'
          clear h2 h2' Hl2 hc
          go_wp2_with fail
          refine (Hf2.out _ HP3.out.sh).mono ?_
          rintro e w7 ⟨rfl, hb⟩
          have HG4 := Lib.hid (HG3.out.later hb)
          have HO4 := Lib.hid (HO3.out.later hb)
          have HP4 := Lib.hid (HP3.out.later hb)
          clear hb HG3 HO3 HP3 g0 g1 g2 g3 o0 o1 o2 o3 p0 p1 p2 p3
          obtain ⟨g0, g1, g2, g3⟩ := HG4.out.cells
          obtain ⟨o0, o1, o2, o3⟩ := HO4.out.cells
          obtain ⟨p0, p1, p2, p3⟩ := HP4.out.cells
          go_wp2_with fail
          refine (Hl2'.out _ HP4.out.sh).mono ?_
          rintro e w8 ⟨rfl, hb, hX⟩
          have HG5 := Lib.hid (HG4.out.later hb)
          have HO5 := Lib.hid (HO4.out.later hb)
          have HP5 := Lib.hid (HP4.out.later hb)
          clear hb HG4 HO4 HP4 g0 g1 g2 g3 o0 o1 o2 o3 p0 p1 p2 p3
          obtain ⟨g0, g1, g2, g3⟩ := HG5.out.cells
          obtain ⟨o0, o1, o2, o3⟩ := HO5.out.cells
          obtain ⟨p0, p1, p2, p3⟩ := HP5.out.cells
          clear hX
          go_wp2_with fail
          refine (Hw2.out _ HP5.out.sh).mono ?_
          rintro e w9 ⟨rfl, hb⟩
          have HG6 := Lib.hid (HG5.out.later hb)
          have HO6 := Lib.hid (HO5.out.later hb)
          have HP6 := Lib.hid (HP5.out.later hb)
          clear hb HG5 HO5 HP5 g0 g1 g2 g3 o0 o1 o2 o3 p0 p1 p2 p3
          obtain ⟨g0, g1, g2, g3⟩ := HG6.out.cells
          obtain ⟨o0, o1, o2, o3⟩ := HO6.out.cells
          obtain ⟨p0, p1, p2, p3⟩ := HP6.out.cells
          go_wp2_with fail
          refine (works_any _).mono ?_
          rintro e we ⟨rfl, hbe⟩
          have HBE := Lib.hid (Below.later HG6.out.bel hbe)
          clear hbe
          go_wp2
          go_ret
          exact ⟨rfl, HBE.out⟩
      | true =>
        rw [h1] at Hf1
        have h1' := of_decide_eq_true h1
        rw [worthR_no h1' hc gl] at Hw1
        have Hl1' := Lib.hid (Hl1.out h1')
        rw [hc, leastN_no hc] at Hl1'
        clear h1 h1' Hl1
        go_wp2_with fail
        refine (Hf1.out _ HO2.out.sh).mono ?_
        rintro e w10 ⟨rfl, hb⟩
        have HG3 := Lib.hid (HG2.out.later hb)
        have HO3 := Lib.hid (HO2.out.later hb)
        have HP3 := Lib.hid (HP2.out.later hb)
        clear hb HG2 HO2 HP2 g0 g1 g2 g3 o0 o1 o2 o3 p0 p1 p2 p3
        obtain ⟨g0, g1, g2, g3⟩ := HG3.out.cells
        obtain ⟨o0, o1, o2, o3⟩ := HO3.out.cells
        obtain ⟨p0, p1, p2, p3⟩ := HP3.out.cells
        go_wp2_with fail
        refine (Hl1'.out _ HO3.out.sh).mono ?_
        rintro e w11 ⟨rfl, hb, hX⟩
        have HG4 := Lib.hid (HG3.out.later hb)
        have HO4 := Lib.hid (HO3.out.later hb)
        have HP4 := Lib.hid (HP3.out.later hb)
        clear hb HG3 HO3 HP3 g0 g1 g2 g3 o0 o1 o2 o3 p0 p1 p2 p3
        obtain ⟨g0, g1, g2, g3⟩ := HG4.out.cells
        obtain ⟨o0, o1, o2, o3⟩ := HO4.out.cells
        obtain ⟨p0, p1, p2, p3⟩ := HP4.out.cells
        clear hX
        go_wp2_with fail
        refine (Hw1.out _ HO4.out.sh).mono ?_
        rintro e w12 ⟨rfl, hb⟩
        have HG5 := Lib.hid (HG4.out.later hb)
        have HO5 := Lib.hid (HO4.out.later hb)
        have HP5 := Lib.hid (HP4.out.later hb)
        clear hb HG4 HO4 HP4 g0 g1 g2 g3 o0 o1 o2 o3 p0 p1 p2 p3
        obtain ⟨g0, g1, g2, g3⟩ := HG5.out.cells
        obtain ⟨o0, o1, o2, o3⟩ := HO5.out.cells
        obtain ⟨p0, p1, p2, p3⟩ := HP5.out.cells
        cases h2 : decide (shopE S P2 O = 0) with
        | false =>
          rw [h2] at Hf2
          clear h2
          go_wp2_with fail
          refine (Hf2.out _ HP5.out.sh).mono ?_
          rintro e w13 ⟨rfl, hb⟩
          have HG6 := Lib.hid (HG5.out.later hb)
          have HO6 := Lib.hid (HO5.out.later hb)
          have HP6 := Lib.hid (HP5.out.later hb)
          clear hb HG5 HO5 HP5 g0 g1 g2 g3 o0 o1 o2 o3 p0 p1 p2 p3
          obtain ⟨g0, g1, g2, g3⟩ := HG6.out.cells
          obtain ⟨o0, o1, o2, o3⟩ := HO6.out.cells
          obtain ⟨p0, p1, p2, p3⟩ := HP6.out.cells
          go_wp2_with fail
          refine (works_any _).mono ?_
          rintro e we ⟨rfl, hbe⟩
          have HBE := Lib.hid (Below.later HG6.out.bel hbe)
          clear hbe
          go_wp2
          go_ret
          exact ⟨rfl, HBE.out⟩
        | true =>
          rw [h2] at Hf2
          have h2' := of_decide_eq_true h2
          rw [worthR_no h2' hc gl] at Hw2
          have Hl2' := Lib.hid (Hl2.out h2')
          rw [hc, leastN_no hc] at Hl2'
          clear h2 h2' Hl2 hc
          go_wp2_with fail
          refine (Hf2.out _ HP5.out.sh).mono ?_
          rintro e w14 ⟨rfl, hb⟩
          have HG6 := Lib.hid (HG5.out.later hb)
          have HO6 := Lib.hid (HO5.out.later hb)
          have HP6 := Lib.hid (HP5.out.later hb)
          clear hb HG5 HO5 HP5 g0 g1 g2 g3 o0 o1 o2 o3 p0 p1 p2 p3
          obtain ⟨g0, g1, g2, g3⟩ := HG6.out.cells
          obtain ⟨o0, o1, o2, o3⟩ := HO6.out.cells
          obtain ⟨p0, p1, p2, p3⟩ := HP6.out.cells
          go_wp2_with fail
          refine (Hl2'.out _ HP6.out.sh).mono ?_
          rintro e w15 ⟨rfl, hb, hX⟩
          have HG7 := Lib.hid (HG6.out.later hb)
          have HO7 := Lib.hid (HO6.out.later hb)
          have HP7 := Lib.hid (HP6.out.later hb)
          clear hb HG6 HO6 HP6 g0 g1 g2 g3 o0 o1 o2 o3 p0 p1 p2 p3
          obtain ⟨g0, g1, g2, g3⟩ := HG7.out.cells
          obtain ⟨o0, o1, o2, o3⟩ := HO7.out.cells
          obtain ⟨p0, p1, p2, p3⟩ := HP7.out.cells
          clear hX
          go_wp2_with fail
          refine (Hw2.out _ HP7.out.sh).mono ?_
          rintro e w16 ⟨rfl, hb⟩
          have HG8 := Lib.hid (HG7.out.later hb)
          have HO8 := Lib.hid (HO7.out.later hb)
          have HP8 := Lib.hid (HP7.out.later hb)
          clear hb HG7 HO7 HP7 g0 g1 g2 g3 o0 o1 o2 o3 p0 p1 p2 p3
          obtain ⟨g0, g1, g2, g3⟩ := HG8.out.cells
          obtain ⟨o0, o1, o2, o3⟩ := HO8.out.cells
          obtain ⟨p0, p1, p2, p3⟩ := HP8.out.cells
          go_wp2_with fail
          refine (works_any _).mono ?_
          rintro e we ⟨rfl, hbe⟩
          have HBE := Lib.hid (Below.later HG8.out.bel hbe)
          clear hbe
          go_wp2
          go_ret
          exact ⟨rfl, HBE.out⟩
    | true =>
      rw [worthR_ok He.out hc gl] at Hw
      rw [hc, leastN_can hc] at Hl
      generalize leV S.length P O (stockM S) = n at *
      generalize woV S.length P O (stockM S) g = wv at *
      generalize askI O ((S.length : Int) - 1) = k at *
      obtain ⟨ua, hua⟩ : ∃ ua, u1 * k = ua := ⟨_, rfl⟩
      obtain ⟨tn, htn⟩ : ∃ tn, t * n = tn := ⟨_, rfl⟩
      obtain ⟨tw, htw⟩ : ∃ tw, t * wv = tw := ⟨_, rfl⟩
      rw [hua] at hlp
      rw [htn] at hlt
      rw [htw] at hwt
      have hub : 0 ≤ ua ∧ ua ≤ 40800 := by
        rw [← hua]
        exact ⟨Int.mul_nonneg hnum.1.1 hab.1, Int.le_trans (Int.mul_le_mul hnum.1.2 (show k ≤ 160 by omega) hab.1 (by omega)) (by omega)⟩
      have htb : 0 ≤ tn ∧ tn ≤ 2000000 := by
        rw [← htn]
        exact ⟨Int.mul_nonneg (by omega) hlb.1, Int.le_trans (Int.mul_le_mul hnum.2.1.2 hlb.2 hlb.1 (by omega)) (by omega)⟩
      have hvb : 0 ≤ tw ∧ tw ≤ 400 := by
        rw [← htw]
        exact ⟨Int.mul_nonneg (by omega) hwb.1, Int.le_trans (Int.mul_le_mul hnum.2.1.2 (show wv ≤ 100 by have := hF.ok.pr0 g gl; omega) hwb.1 (by omega)) (by omega)⟩
      have k1 : ¬ wv < 0 := by omega
      have k2 : ¬ 100 < wv := by have := hF.ok.pr0 g gl; omega
      have k3 : decide (wv < 0) = false := by simp; omega
      have k4 : decide (100 < wv) = false := decide_eq_false k2
      have k5 : IntKind.i64.wrap u1 = u1 := by rw [IntKind.wrap_i64]; omega
      have k6 : IntKind.i64.wrap ((S.length : Int) - 1) = (S.length : Int) - 1 := by rw [IntKind.wrap_i64]; omega
      have k7 : IntKind.i64.wrap (u1 * k) = ua := by rw [hua, IntKind.wrap_i64]; omega
      obtain ⟨m1, hm1⟩ : ∃ m1, n + ua = m1 := ⟨_, rfl⟩
      have k8 : IntKind.i64.wrap (n + ua) = m1 := by rw [IntKind.wrap_i64]; omega
      have k9 : IntKind.i64.wrap (t * n) = tn := by rw [htn, IntKind.wrap_i64]; omega
      have k10 : IntKind.i64.wrap (t * wv) = tw := by rw [htw, IntKind.wrap_i64]; omega
      rw [hm1] at hlp
      clear hlb hwb hp0 hab hnum hF hua htn htw hub htb hvb hm1
      go_wp2_with fail
      refine (Hl.out _ HG0.out.sh).mono ?_
      rintro e w17 ⟨rfl, hb, hX⟩
      have HG1 := Lib.hid (HG0.out.later hb)
      have HO1 := Lib.hid (HO0.out.later hb)
      have HP1 := Lib.hid (HP0.out.later hb)
      clear hb HG0 HO0 HP0 g0 g1 g2 g3 o0 o1 o2 o3 p0 p1 p2 p3
      obtain ⟨g0, g1, g2, g3⟩ := HG1.out.cells
      obtain ⟨o0, o1, o2, o3⟩ := HO1.out.cells
      obtain ⟨p0, p1, p2, p3⟩ := HP1.out.cells
      clear hX
      go_wp2_with fail
      refine (Hw.out _ HG1.out.sh).mono ?_
      rintro e w18 ⟨rfl, hb⟩
      have HG2 := Lib.hid (HG1.out.later hb)
      have HO2 := Lib.hid (HO1.out.later hb)
      have HP2 := Lib.hid (HP1.out.later hb)
      clear hb HG1 HO1 HP1 g0 g1 g2 g3 o0 o1 o2 o3 p0 p1 p2 p3
      obtain ⟨g0, g1, g2, g3⟩ := HG2.out.cells
      obtain ⟨o0, o1, o2, o3⟩ := HO2.out.cells
      obtain ⟨p0, p1, p2, p3⟩ := HP2.out.cells
      cases h1 : decide (shopE S P1 O = 0) with
      | false =>
        rw [h1] at Hf1
        clear h1
        go_wp2_with fail
        refine (Hf1.out _ HO2.out.sh).mono ?_
        rintro e w19 ⟨rfl, hb⟩
        have HG3 := Lib.hid (HG2.out.later hb)
        have HO3 := Lib.hid (HO2.out.later hb)
        have HP3 := Lib.hid (HP2.out.later hb)
        clear hb HG2 HO2 HP2 g0 g1 g2 g3 o0 o1 o2 o3 p0 p1 p2 p3
        obtain ⟨g0, g1, g2, g3⟩ := HG3.out.cells
        obtain ⟨o0, o1, o2, o3⟩ := HO3.out.cells
        obtain ⟨p0, p1, p2, p3⟩ := HP3.out.cells
        cases h2 : decide (shopE S P2 O = 0) with
        | false =>
          rw [h2] at Hf2
          clear h2
          go_wp2_with fail
          refine (Hf2.out _ HP3.out.sh).mono ?_
          rintro e w20 ⟨rfl, hb⟩
          have HG4 := Lib.hid (HG3.out.later hb)
          have HO4 := Lib.hid (HO3.out.later hb)
          have HP4 := Lib.hid (HP3.out.later hb)
          clear hb HG3 HO3 HP3 g0 g1 g2 g3 o0 o1 o2 o3 p0 p1 p2 p3
          obtain ⟨g0, g1, g2, g3⟩ := HG4.out.cells
          obtain ⟨o0, o1, o2, o3⟩ := HO4.out.cells
          obtain ⟨p0, p1, p2, p3⟩ := HP4.out.cells
          go_wp2_with fail
          refine (works_any _).mono ?_
          rintro e we ⟨rfl, hbe⟩
          have HBE := Lib.hid (Below.later HG4.out.bel hbe)
          clear hbe
          go_wp2
          go_ret
          exact ⟨rfl, HBE.out⟩
        | true =>
          rw [h2] at Hf2
          have h2' := of_decide_eq_true h2
          rw [worthR_ok h2' hc gl, hwt] at Hw2
          have Hl2' := Lib.hid (Hl2.out h2')
          rw [hc, leastN_can hc, hlt] at Hl2'
          clear h2 h2' Hl2 hc
          go_wp2_with fail
          refine (Hf2.out _ HP3.out.sh).mono ?_
          rintro e w21 ⟨rfl, hb⟩
          have HG4 := Lib.hid (HG3.out.later hb)
          have HO4 := Lib.hid (HO3.out.later hb)
          have HP4 := Lib.hid (HP3.out.later hb)
          clear hb HG3 HO3 HP3 g0 g1 g2 g3 o0 o1 o2 o3 p0 p1 p2 p3
          obtain ⟨g0, g1, g2, g3⟩ := HG4.out.cells
          obtain ⟨o0, o1, o2, o3⟩ := HO4.out.cells
          obtain ⟨p0, p1, p2, p3⟩ := HP4.out.cells
          go_wp2_with fail
          refine (Hl2'.out _ HP4.out.sh).mono ?_
          rintro e w22 ⟨rfl, hb, hX⟩
          have HG5 := Lib.hid (HG4.out.later hb)
          have HO5 := Lib.hid (HO4.out.later hb)
          have HP5 := Lib.hid (HP4.out.later hb)
          clear hb HG4 HO4 HP4 g0 g1 g2 g3 o0 o1 o2 o3 p0 p1 p2 p3
          obtain ⟨g0, g1, g2, g3⟩ := HG5.out.cells
          obtain ⟨o0, o1, o2, o3⟩ := HO5.out.cells
          obtain ⟨p0, p1, p2, p3⟩ := HP5.out.cells
          clear hX
          go_wp2_with fail
          refine (Hw2.out _ HP5.out.sh).mono ?_
          rintro e w23 ⟨rfl, hb⟩
          have HG6 := Lib.hid (HG5.out.later hb)
          have HO6 := Lib.hid (HO5.out.later hb)
          have HP6 := Lib.hid (HP5.out.later hb)
          clear hb HG5 HO5 HP5 g0 g1 g2 g3 o0 o1 o2 o3 p0 p1 p2 p3
          obtain ⟨g0, g1, g2, g3⟩ := HG6.out.cells
          obtain ⟨o0, o1, o2, o3⟩ := HO6.out.cells
          obtain ⟨p0, p1, p2, p3⟩ := HP6.out.cells
          go_wp2_with fail
          refine (works_any _).mono ?_
          rintro e we ⟨rfl, hbe⟩
          have HBE := Lib.hid (Below.later HG6.out.bel hbe)
          clear hbe
          go_wp2
          go_ret
          exact ⟨rfl, HBE.out⟩
      | true =>
        rw [h1] at Hf1
        have h1' := of_decide_eq_true h1
        rw [worthR_ok h1' hc gl, hwp] at Hw1
        have Hl1' := Lib.hid (Hl1.out h1')
        rw [hc, leastN_can hc, hlp] at Hl1'
        clear h1 h1' Hl1
        go_wp2_with fail
        refine (Hf1.out _ HO2.out.sh).mono ?_
        rintro e w24 ⟨rfl, hb⟩
        have HG3 := Lib.hid (HG2.out.later hb)
        have HO3 := Lib.hid (HO2.out.later hb)
        have HP3 := Lib.hid (HP2.out.later hb)
        clear hb HG2 HO2 HP2 g0 g1 g2 g3 o0 o1 o2 o3 p0 p1 p2 p3
        obtain ⟨g0, g1, g2, g3⟩ := HG3.out.cells
        obtain ⟨o0, o1, o2, o3⟩ := HO3.out.cells
        obtain ⟨p0, p1, p2, p3⟩ := HP3.out.cells
        go_wp2_with fail
        refine (Hl1'.out _ HO3.out.sh).mono ?_
        rintro e w25 ⟨rfl, hb, hX⟩
        have HG4 := Lib.hid (HG3.out.later hb)
        have HO4 := Lib.hid (HO3.out.later hb)
        have HP4 := Lib.hid (HP3.out.later hb)
        clear hb HG3 HO3 HP3 g0 g1 g2 g3 o0 o1 o2 o3 p0 p1 p2 p3
        obtain ⟨g0, g1, g2, g3⟩ := HG4.out.cells
        obtain ⟨o0, o1, o2, o3⟩ := HO4.out.cells
        obtain ⟨p0, p1, p2, p3⟩ := HP4.out.cells
        clear hX
        go_wp2_with fail
        refine (Hw1.out _ HO4.out.sh).mono ?_
        rintro e w26 ⟨rfl, hb⟩
        have HG5 := Lib.hid (HG4.out.later hb)
        have HO5 := Lib.hid (HO4.out.later hb)
        have HP5 := Lib.hid (HP4.out.later hb)
        clear hb HG4 HO4 HP4 g0 g1 g2 g3 o0 o1 o2 o3 p0 p1 p2 p3
        obtain ⟨g0, g1, g2, g3⟩ := HG5.out.cells
        obtain ⟨o0, o1, o2, o3⟩ := HO5.out.cells
        obtain ⟨p0, p1, p2, p3⟩ := HP5.out.cells
        go_wp2_with fail
        refine (Ha.out _ HG5.out.sh).mono ?_
        rintro e w27 ⟨rfl, hb⟩
        have HG6 := Lib.hid (HG5.out.later hb)
        have HO6 := Lib.hid (HO5.out.later hb)
        have HP6 := Lib.hid (HP5.out.later hb)
        clear hb HG5 HO5 HP5 g0 g1 g2 g3 o0 o1 o2 o3 p0 p1 p2 p3
        obtain ⟨g0, g1, g2, g3⟩ := HG6.out.cells
        obtain ⟨o0, o1, o2, o3⟩ := HO6.out.cells
        obtain ⟨p0, p1, p2, p3⟩ := HP6.out.cells
        cases h2 : decide (shopE S P2 O = 0) with
        | false =>
          rw [h2] at Hf2
          clear h2
          go_wp2_with fail
          refine (Hf2.out _ HP6.out.sh).mono ?_
          rintro e w28 ⟨rfl, hb⟩
          have HG7 := Lib.hid (HG6.out.later hb)
          have HO7 := Lib.hid (HO6.out.later hb)
          have HP7 := Lib.hid (HP6.out.later hb)
          clear hb HG6 HO6 HP6 g0 g1 g2 g3 o0 o1 o2 o3 p0 p1 p2 p3
          obtain ⟨g0, g1, g2, g3⟩ := HG7.out.cells
          obtain ⟨o0, o1, o2, o3⟩ := HO7.out.cells
          obtain ⟨p0, p1, p2, p3⟩ := HP7.out.cells
          go_wp2_with fail
          refine (works_any _).mono ?_
          rintro e we ⟨rfl, hbe⟩
          have HBE := Lib.hid (Below.later HG7.out.bel hbe)
          clear hbe
          go_wp2
          go_ret
          exact ⟨rfl, HBE.out⟩
        | true =>
          rw [h2] at Hf2
          have h2' := of_decide_eq_true h2
          rw [worthR_ok h2' hc gl, hwt] at Hw2
          have Hl2' := Lib.hid (Hl2.out h2')
          rw [hc, leastN_can hc, hlt] at Hl2'
          clear h2 h2' Hl2 hc
          go_wp2_with fail
          refine (Hf2.out _ HP6.out.sh).mono ?_
          rintro e w29 ⟨rfl, hb⟩
          have HG7 := Lib.hid (HG6.out.later hb)
          have HO7 := Lib.hid (HO6.out.later hb)
          have HP7 := Lib.hid (HP6.out.later hb)
          clear hb HG6 HO6 HP6 g0 g1 g2 g3 o0 o1 o2 o3 p0 p1 p2 p3
          obtain ⟨g0, g1, g2, g3⟩ := HG7.out.cells
          obtain ⟨o0, o1, o2, o3⟩ := HO7.out.cells
          obtain ⟨p0, p1, p2, p3⟩ := HP7.out.cells
          go_wp2_with fail
          refine (Hl2'.out _ HP7.out.sh).mono ?_
          rintro e w30 ⟨rfl, hb, hX⟩
          have HG8 := Lib.hid (HG7.out.later hb)
          have HO8 := Lib.hid (HO7.out.later hb)
          have HP8 := Lib.hid (HP7.out.later hb)
          clear hb HG7 HO7 HP7 g0 g1 g2 g3 o0 o1 o2 o3 p0 p1 p2 p3
          obtain ⟨g0, g1, g2, g3⟩ := HG8.out.cells
          obtain ⟨o0, o1, o2, o3⟩ := HO8.out.cells
          obtain ⟨p0, p1, p2, p3⟩ := HP8.out.cells
          clear hX
          go_wp2_with fail
          refine (Hw2.out _ HP8.out.sh).mono ?_
          rintro e w31 ⟨rfl, hb⟩
          have HG9 := Lib.hid (HG8.out.later hb)
          have HO9 := Lib.hid (HO8.out.later hb)
          have HP9 := Lib.hid (HP8.out.later hb)
          clear hb HG8 HO8 HP8 g0 g1 g2 g3 o0 o1 o2 o3 p0 p1 p2 p3
          obtain ⟨g0, g1, g2, g3⟩ := HG9.out.cells
          obtain ⟨o0, o1, o2, o3⟩ := HO9.out.cells
          obtain ⟨p0, p1, p2, p3⟩ := HP9.out.cells
          go_wp2_with fail
          refine (works_any _).mono ?_
          rintro e we ⟨rfl, hbe⟩
          have HBE := Lib.hid (Below.later HG9.out.bel hbe)
          clear hbe
          go_wp2
          go_ret
          exact ⟨rfl, HBE.out⟩
end Go.Proofs.Ytmfiggbobaihcaa
