/- Plain law of chapter 3: the greedy filling by latest hour has no more loads up to each hour than a chain of windows needs. No program. -/
namespace Go.Proofs.Ytbbdlebmagknmaa.Fill

section
variable {α : Type} (lo hi : α → Int)
/-- One load at an hour: so much room; those that are taken, and those that are left. -/
def takeL (t : Int) : Nat → List α → List α × List α
  | _, [] => ([], [])
  | 0, l => ([], l)
  | n + 1, x :: l => if t < lo x then ((takeL t (n + 1) l).1, x :: (takeL t (n + 1) l).2) else (x :: (takeL t n l).1, (takeL t n l).2)
/-- The loads: each at the latest hour of the first one that is left. -/
def fillL (L : Nat) : Nat → List α → List Int
  | 0, _ => []
  | _, [] => []
  | f + 1, x :: l => hi x :: fillL L f (takeL lo (hi x) L (x :: l)).2
theorem takeL_zero (t : Int) (l : List α) : takeL lo t 0 l = ([], l) := by cases l <;> rfl
theorem takeL_count (p : α → Bool) (t : Int) : ∀ (l : List α) (n : Nat), l.countP p = (takeL lo t n l).1.countP p + (takeL lo t n l).2.countP p
  | [], n => by cases n <;> simp [takeL]
  | x :: l, 0 => by simp [takeL]
  | x :: l, n + 1 => by
    unfold takeL
    split
    · have := takeL_count p t l (n + 1)
      simp only [List.countP_cons]
      omega
    · have := takeL_count p t l n
      simp only [List.countP_cons]
      omega
theorem takeL_len (t : Int) : ∀ (l : List α) (n : Nat), (takeL lo t n l).1.length ≤ n
  | [], n => by cases n <;> simp [takeL]
  | x :: l, 0 => by simp [takeL]
  | x :: l, n + 1 => by
    unfold takeL
    split
    · exact takeL_len t l (n + 1)
    · have := takeL_len t l n
      simp only [List.length_cons]
      omega
theorem takeL_sub (t : Int) : ∀ (l : List α) (n : Nat), (takeL lo t n l).2.Sublist l
  | [], n => by cases n <;> simp [takeL]
  | x :: l, 0 => by simp [takeL]
  | x :: l, n + 1 => by
    unfold takeL
    split
    · exact (takeL_sub t l (n + 1)).cons_cons x
    · exact (takeL_sub t l n).cons x
theorem takeL_sub1 (t : Int) : ∀ (l : List α) (n : Nat), (takeL lo t n l).1.Sublist l
  | [], n => by cases n <;> simp [takeL]
  | x :: l, 0 => by simp [takeL]
  | x :: l, n + 1 => by
    unfold takeL
    split
    · exact (takeL_sub1 t l (n + 1)).cons x
    · exact (takeL_sub1 t l n).cons_cons x
theorem takeL_lo (t : Int) : ∀ (l : List α) (n : Nat), ∀ x ∈ (takeL lo t n l).1, lo x ≤ t
  | [], n => by cases n <;> simp [takeL]
  | x :: l, 0 => by simp [takeL]
  | x :: l, n + 1 => by
    unfold takeL
    split
    · exact takeL_lo t l (n + 1)
    · intro y hy
      rcases List.mem_cons.1 hy with rfl | hy
      · omega
      · exact takeL_lo t l n y hy
/-- If there is room behind it, all that are left come later. -/
theorem takeL_room (t : Int) : ∀ (l : List α) (n : Nat), (takeL lo t n l).1.length < n → ∀ x ∈ (takeL lo t n l).2, t < lo x
  | [], n => by cases n <;> simp [takeL]
  | x :: l, 0 => by simp [takeL]
  | x :: l, n + 1 => by
    unfold takeL
    split
    · rename_i h
      intro hl y hy
      rcases List.mem_cons.1 hy with rfl | hy
      · exact h
      · exact takeL_room t l (n + 1) hl y hy
    · intro hl
      exact takeL_room t l n (by simpa using hl)
/-- If one is taken that is late, those that are left and are not come later. -/
theorem takeL_late (t h : Int) : ∀ (l : List α) (n : Nat), l.Pairwise (fun a b => hi a ≤ hi b) → ∀ y ∈ (takeL lo t n l).1, h < hi y → ∀ x ∈ (takeL lo t n l).2, hi x ≤ h → t < lo x
  | [], n => by cases n <;> simp [takeL]
  | x :: l, 0 => by simp [takeL]
  | x :: l, n + 1 => by
    intro hs
    obtain ⟨h1, h2⟩ := List.pairwise_cons.1 hs
    unfold takeL
    split
    · rename_i hx
      intro y hy hyh z hz hzh
      rcases List.mem_cons.1 hz with rfl | hz
      · exact hx
      · exact takeL_late t h l (n + 1) h2 y hy hyh z hz hzh
    · intro y hy hyh z hz hzh
      rcases List.mem_cons.1 hy with rfl | hy
      · have := h1 z ((takeL_sub lo t l n).subset hz)
        omega
      · exact takeL_late t h l n h2 y hy hyh z hz hzh
theorem fillL_mem (L : Nat) : ∀ (f : Nat) (l : List α) (t : Int), t ∈ fillL lo hi L f l → ∃ x ∈ l, hi x = t
  | 0, l, t, h => by simp [fillL] at h
  | f + 1, [], t, h => by simp [fillL] at h
  | f + 1, x :: l, t, h => by
    unfold fillL at h
    rcases List.mem_cons.1 h with rfl | h
    · exact ⟨x, by simp, rfl⟩
    · obtain ⟨y, hy, he⟩ := fillL_mem L f _ t h
      exact ⟨y, (takeL_sub lo (hi x) (x :: l) L).subset hy, he⟩

/-! ### Windows -/
/-- Logs within hours that are later than one, and no later than another one. -/
def inW (T h : Int) (x : α) : Bool := decide (T < lo x) && decide (hi x ≤ h)
/-- So many loads are needed by windows, one behind another, up to an hour. -/
inductive Chain (L : Nat) (all : List α) : Int → Nat → Prop
  | nil (h : Int) : Chain L all h 0
  | cons (h : Int) (v n : Nat) (x y : α) : x ∈ all → y ∈ all → lo x ≤ hi y → hi y ≤ h → Chain L all (lo x - 1) v → (n - 1) * L + 1 ≤ all.countP (inW lo hi (lo x - 1) (hi y)) → Chain L all h (v + n)
theorem Chain.mono {L : Nat} {all : List α} {h h' : Int} {v : Nat} (c : Chain lo hi L all h v) (hh : h ≤ h') : Chain lo hi L all h' v := by
  cases c with
  | nil => exact .nil h'
  | cons _ v n x y hx hy h1 h2 h3 h4 => exact .cons h' v n x y hx hy h1 (by omega) h3 h4
/-- The earliest one of some logs. -/
theorem least_lo (p : α → Bool) : ∀ (l : List α) (x : α), x ∈ l → p x = true → ∃ y ∈ l, p y = true ∧ ∀ z ∈ l, p z = true → lo y ≤ lo z
  | [], x, h, _ => by simp at h
  | a :: l, x, h, hp => by
    by_cases hl : ∃ z ∈ l, p z = true
    · obtain ⟨z, hz, hpz⟩ := hl
      obtain ⟨y, hy, hpy, hmin⟩ := least_lo p l z hz hpz
      by_cases ha : p a = true ∧ lo a < lo y
      · refine ⟨a, by simp, ha.1, fun z hz hpz => ?_⟩
        rcases List.mem_cons.1 hz with rfl | hz
        · omega
        · have := hmin z hz hpz; omega
      · refine ⟨y, by simp [hy], hpy, fun z hz hpz => ?_⟩
        rcases List.mem_cons.1 hz with rfl | hz
        · by_cases h2 : lo z < lo y
          · exact absurd ⟨hpz, h2⟩ ha
          · omega
        · exact hmin z hz hpz
    · rcases List.mem_cons.1 h with rfl | h
      · refine ⟨x, by simp, hp, fun z hz hpz => ?_⟩
        rcases List.mem_cons.1 hz with rfl | hz
        · omega
        · exact absurd ⟨z, hz, hpz⟩ hl
      · exact absurd ⟨x, h, hp⟩ hl
theorem inW_iff {T h : Int} {x : α} : inW lo hi T h x = true ↔ T < lo x ∧ hi x ≤ h := by unfold inW; simp
/-- Logs behind a chain of windows are one more window. -/
theorem Chain.more {L : Nat} {all : List α} {T h : Int} {v c : Nat} (hlh : ∀ x ∈ all, lo x ≤ hi x) (ch : Chain lo hi L all T v) {x : α} (hx : x ∈ all) (h1 : T < lo x) (h2 : hi x = h) (hc : c * L + 1 ≤ all.countP (inW lo hi T h)) : Chain lo hi L all h (v + (c + 1)) := by
  obtain ⟨y, hy, hpy, hmin⟩ := least_lo lo (inW lo hi T h) all x hx ((inW_iff lo hi).2 ⟨h1, by omega⟩)
  obtain ⟨hy1, hy2⟩ := (inW_iff lo hi).1 hpy
  have hxl := hlh x hx
  have hyx := hmin x hx ((inW_iff lo hi).2 ⟨h1, by omega⟩)
  refine .cons h v (c + 1) y x hy hx (by omega) (by omega) (ch.mono lo hi (by omega)) ?_
  rw [Nat.add_sub_cancel]
  refine Nat.le_trans hc (List.countP_mono_left fun z hz hp => ?_)
  obtain ⟨p1, p2⟩ := (inW_iff lo hi).1 hp
  have := hmin z hz hp
  exact (inW_iff lo hi).2 ⟨by omega, by omega⟩

/-- **The loads up to each one are no more than a chain of windows needs.** -/
theorem scan (L : Nat) (all : List α) (loads : List Int) (hlh : ∀ x ∈ all, lo x ≤ hi x) (M : Nat) (h : Int) (hprev : ∀ m t, m < M → loads[m]? = some t → ∃ v, m + 1 ≤ v ∧ Chain lo hi L all t v) :
    ∀ (f : Nat) (left : List α) (pre : List Int) (T : Int) (j c v : Nat) (n : Nat), left.Pairwise (fun a b => hi a ≤ hi b) → (∀ x ∈ left, x ∈ all) → (∀ p, left.countP p ≤ all.countP p) → loads = pre ++ fillL lo hi L f left → pre.length = j + c → (∀ x ∈ left, hi x ≤ h → T < lo x) →
      j ≤ v → Chain lo hi L all T v → c * L + left.countP (inW lo hi T h) ≤ all.countP (inW lo hi T h) → M = pre.length + n → (fillL lo hi L f left)[n]? = some h → ∃ v, M + 1 ≤ v ∧ Chain lo hi L all h v := by
  intro f
  induction f with
  | zero => intro left pre T j c v n _ _ _ _ _ _ _ _ _ _ hn; simp [fillL] at hn
  | succ f ih =>
    intro left pre T j c v n hs hall hcall hload hpre hT hjv hch hcnt hM hn
    cases left with
    | nil => simp [fillL] at hn
    | cons x l =>
      have hxall := hall x (by simp)
      cases n with
      | zero =>
        unfold fillL at hn
        simp only [List.getElem?_cons_zero, Option.some.injEq] at hn
        have hxT := hT x (by simp) (by omega)
        have hcx : 1 ≤ (x :: l).countP (inW lo hi T h) := List.countP_pos_iff.2 ⟨x, by simp, (inW_iff lo hi).2 ⟨hxT, by omega⟩⟩
        exact ⟨v + (c + 1), by omega, hch.more lo hi hlh hxall hxT hn (by omega)⟩
      | succ n =>
        have hload' := hload
        unfold fillL at hn hload'
        rw [List.getElem?_cons_succ] at hn
        obtain ⟨tk, htk⟩ : ∃ tk, takeL lo (hi x) L (x :: l) = tk := ⟨_, rfl⟩
        have k1 := fun p => takeL_count lo p (hi x) (x :: l) L
        have k2 := takeL_len lo (hi x) (x :: l) L
        have k3 := takeL_sub lo (hi x) (x :: l) L
        have k4 := takeL_sub1 lo (hi x) (x :: l) L
        have k5 := takeL_room lo (hi x) (x :: l) L
        have k6 := takeL_late lo hi (hi x) h (x :: l) L hs
        rw [htk] at hn hload' k2 k3 k4 k5 k6
        simp only [htk] at k1
        have hload2 : loads = (pre ++ [hi x]) ++ fillL lo hi L f tk.2 := by rw [hload', List.append_assoc]; rfl
        have hall2 : ∀ z ∈ tk.2, z ∈ all := fun z hz => hall z (k3.subset hz)
        have hcall2 : ∀ p, tk.2.countP p ≤ all.countP p := fun p => Nat.le_trans (k3.countP_le (p := p)) (hcall p)
        have hs2 : tk.2.Pairwise (fun a b => hi a ≤ hi b) := hs.sublist k3
        by_cases hA : tk.1.length = L ∧ ∀ y ∈ tk.1, hi y ≤ h
        · -- the load is full, and none of it is late
          refine ih tk.2 (pre ++ [hi x]) T j (c + 1) v n hs2 hall2 hcall2 hload2 (by simp; omega) (fun z hz => hT z (k3.subset hz)) hjv hch ?_ (by simp; omega) hn
          have h1 := k1 (inW lo hi T h)
          have h2 : tk.1.countP (inW lo hi T h) = L := by
            rw [← hA.1, List.countP_eq_length]
            intro y hy
            exact (inW_iff lo hi).2 ⟨hT y (k4.subset hy) (hA.2 y hy), hA.2 y hy⟩
          rw [Nat.add_mul, Nat.one_mul]
          omega
        · -- it begins anew behind this load
          obtain ⟨v', hv', hch'⟩ := hprev pre.length (hi x) (by omega) (by rw [hload']; simp)
          refine ih tk.2 (pre ++ [hi x]) (hi x) (pre.length + 1) 0 v' n hs2 hall2 hcall2 hload2 (by simp) (fun z hz hzh => ?_) hv' hch' ?_ (by simp; omega) hn
          · by_cases hl : tk.1.length = L
            · have hex : ∃ y ∈ tk.1, h < hi y := Classical.byContradiction fun hno => hA ⟨hl, fun y hy => by
                by_cases hyh : hi y ≤ h
                · exact hyh
                · exact absurd ⟨y, hy, by omega⟩ hno⟩
              obtain ⟨y, hy, hyh⟩ := hex
              exact k6 y hy hyh z hz hzh
            · exact k5 (by omega) z hz
          · rw [Nat.zero_mul, Nat.zero_add]
            exact hcall2 _
/-- **Up to the m-th load, a chain of windows that end no later needs m of them.** -/
theorem fill_chain (L : Nat) (all l : List α) (hlh : ∀ x ∈ all, lo x ≤ hi x) (hs : l.Pairwise (fun a b => hi a ≤ hi b)) (hall : ∀ x ∈ l, x ∈ all) (hc : ∀ p, l.countP p ≤ all.countP p) (f : Nat) :
    ∀ m t, (fillL lo hi L f l)[m]? = some t → ∃ v, m + 1 ≤ v ∧ Chain lo hi L all t v := by
  intro m
  induction m using Nat.strongRecOn with
  | _ m ih =>
    intro t ht
    have hne : ∃ T : Int, ∀ x ∈ l, T < lo x := by
      clear hs hall hc ht ih hlh
      induction l with
      | nil => exact ⟨0, by simp⟩
      | cons x l ih =>
        obtain ⟨T, hT⟩ := ih
        refine ⟨min T (lo x - 1), fun y hy => ?_⟩
        rcases List.mem_cons.1 hy with rfl | hy
        · omega
        · have := hT y hy; omega
    obtain ⟨T, hT⟩ := hne
    exact scan lo hi L all (fillL lo hi L f l) hlh m t (fun m' t' hm' ht' => ih m' hm' t' ht') f l [] T 0 0 0 m hs hall hc (by simp) rfl (fun x hx _ => hT x hx) (Nat.le_refl _) (.nil T) (by simpa using hc _) (by simp) ht

/-! ### No fewer loads serve -/
/-- A chain of windows needs no more than there are loads up to an hour, if the loads between two hours have room for all logs of these hours. -/
theorem Chain.le {L : Nat} {all : List α} (S : Int → Nat) (hm : ∀ T b, T ≤ b → S T ≤ S b) (hS : ∀ T b, T ≤ b → all.countP (inW lo hi T b) ≤ (S b - S T) * L) {h : Int} {v : Nat} (c : Chain lo hi L all h v) : v ≤ S h := by
  induction c with
  | nil h => exact Nat.zero_le _
  | cons h v n x y hx hy h1 h2 _ h4 ih =>
    have e1 := hm (lo x - 1) (hi y) (by omega)
    have e2 := hm (hi y) h h2
    have e3 := hS (lo x - 1) (hi y) (by omega)
    have e4 : n - 1 < S (hi y) - S (lo x - 1) := by
      apply Classical.byContradiction
      intro hno
      have : (S (hi y) - S (lo x - 1)) * L ≤ (n - 1) * L := Nat.mul_le_mul_right L (by omega)
      omega
    omega
/-- Which log is steamed when. -/
def fillA (L : Nat) : Nat → List α → List (α × Int)
  | 0, _ => []
  | _, [] => []
  | f + 1, x :: l => (takeL lo (hi x) L (x :: l)).1.map (fun y => (y, hi x)) ++ fillA L f (takeL lo (hi x) L (x :: l)).2
theorem fillA_right (L : Nat) : ∀ (f : Nat) (l : List α), l.Pairwise (fun a b => hi a ≤ hi b) → ∀ p ∈ fillA lo hi L f l, lo p.1 ≤ p.2 ∧ p.2 ≤ hi p.1
  | 0, l, _, p, h => by simp [fillA] at h
  | f + 1, [], _, p, h => by simp [fillA] at h
  | f + 1, x :: l, hs, p, h => by
    unfold fillA at h
    rcases List.mem_append.1 h with h | h
    · obtain ⟨y, hy, rfl⟩ := List.mem_map.1 h
      refine ⟨takeL_lo lo (hi x) (x :: l) L y hy, ?_⟩
      have hyl := (takeL_sub1 lo (hi x) (x :: l) L).subset hy
      rcases List.mem_cons.1 hyl with rfl | hyl
      · exact Int.le_refl _
      · exact (List.pairwise_cons.1 hs).1 y hyl
    · exact fillA_right L f _ (hs.sublist (takeL_sub lo (hi x) (x :: l) L)) p h
theorem countP_map_le {β : Type} (g : α → β) (p : β → Bool) (l : List α) : (l.map g).countP p = l.countP (fun a => p (g a)) := by
  rw [List.countP_map]
  rfl
/-- The loads of some hours have room for their logs. -/
theorem fillA_room (L : Nat) (q : Int → Bool) : ∀ (f : Nat) (l : List α), (fillA lo hi L f l).countP (fun p => q p.2) ≤ (fillL lo hi L f l).countP q * L
  | 0, l => by simp [fillA, fillL]
  | f + 1, [] => by simp [fillA, fillL]
  | f + 1, x :: l => by
    unfold fillA fillL
    have ih := fillA_room L q f (takeL lo (hi x) L (x :: l)).2
    have hl := takeL_len lo (hi x) (x :: l) L
    rw [List.countP_append, countP_map_le, List.countP_cons]
    show (takeL lo (hi x) L (x :: l)).1.countP (fun _ => q (hi x)) + _ ≤ _
    by_cases hq : q (hi x) = true
    · have h1 := List.countP_le_length (p := fun _ : α => q (hi x)) (l := (takeL lo (hi x) L (x :: l)).1)
      rw [if_pos hq, Nat.add_mul, Nat.one_mul]
      omega
    · have h1 : (takeL lo (hi x) L (x :: l)).1.countP (fun _ => q (hi x)) = 0 := List.countP_eq_zero.2 (fun _ _ => hq)
      rw [if_neg hq, Nat.add_zero]
      omega
/-- All logs are steamed. -/
theorem fillA_all (L : Nat) (hL : 1 ≤ L) (q : α → Bool) : ∀ (f : Nat) (l : List α), l.length ≤ f → (∀ x ∈ l, lo x ≤ hi x) → (fillA lo hi L f l).countP (fun p => q p.1) = l.countP q
  | 0, l, hf, _ => by
    have : l = [] := List.length_eq_zero_iff.1 (by omega)
    subst this
    rfl
  | f + 1, [], _, _ => by simp [fillA]
  | f + 1, x :: l, hf, hx => by
    unfold fillA
    have hsub := takeL_sub lo (hi x) (x :: l) L
    have hlen : (takeL lo (hi x) L (x :: l)).2.length ≤ f := by
      obtain ⟨k, rfl⟩ : ∃ k, L = k + 1 := ⟨L - 1, by omega⟩
      unfold takeL
      rw [if_neg (by have := hx x (by simp); omega)]
      have := (takeL_sub lo (hi x) l k).length_le
      simp only [List.length_cons] at hf
      show (takeL lo (hi x) k l).2.length ≤ f
      omega
    rw [List.countP_append, countP_map_le, fillA_all L hL q f _ hlen (fun y hy => hx y (hsub.subset hy))]
    exact (takeL_count lo q (hi x) (x :: l) L).symm
/-- **Up to each hour the greedy filling has at least as many loads as a chain of windows needs.** -/
theorem chain_fill (L : Nat) (hL : 1 ≤ L) (all l : List α) (hlh : ∀ x ∈ l, lo x ≤ hi x) (hs : l.Pairwise (fun a b => hi a ≤ hi b)) (hc : ∀ p, l.countP p = all.countP p) (f : Nat) (hf : l.length ≤ f) {h : Int} {v : Nat} (c : Chain lo hi L all h v) : v ≤ (fillL lo hi L f l).countP (fun t => decide (t ≤ h)) := by
  refine c.le lo hi (fun h => (fillL lo hi L f l).countP (fun t => decide (t ≤ h))) (fun T b hTb => List.countP_mono_left fun t _ ht => ?_) (fun T b hTb => ?_)
  · simp only [decide_eq_true_eq] at ht ⊢; omega
  · have h1 : (fillL lo hi L f l).countP (fun t => decide (t ≤ b)) = (fillL lo hi L f l).countP (fun t => decide (t ≤ T)) + (fillL lo hi L f l).countP (fun t => decide (T < t) && decide (t ≤ b)) := by
      generalize fillL lo hi L f l = ts
      induction ts with
      | nil => rfl
      | cons t ts ih =>
        simp only [List.countP_cons, ih]
        by_cases e1 : t ≤ T
        · simp [e1, show t ≤ b by omega, show ¬ T < t by omega]; omega
        · by_cases e2 : t ≤ b
          · simp [e1, e2, show T < t by omega]; omega
          · simp [e1, e2]
    have h2 := fillA_room lo hi L (fun t => decide (T < t) && decide (t ≤ b)) f l
    have h3 := fillA_all lo hi L hL (inW lo hi T b) f l hf hlh
    have h4 : (fillA lo hi L f l).countP (fun p => inW lo hi T b p.1) ≤ (fillA lo hi L f l).countP (fun p => decide (T < p.2) && decide (p.2 ≤ b)) := List.countP_mono_left fun p hp hq => by
      obtain ⟨r1, r2⟩ := fillA_right lo hi L f l hs p hp
      obtain ⟨q1, q2⟩ := (inW_iff lo hi).1 hq
      simp only [Bool.and_eq_true, decide_eq_true_eq]
      omega
    rw [← hc, ← h3]
    rw [show (fillL lo hi L f l).countP (fun t => decide (t ≤ b)) - (fillL lo hi L f l).countP (fun t => decide (t ≤ T)) = (fillL lo hi L f l).countP (fun t => decide (T < t) && decide (t ≤ b)) by omega]
    exact Nat.le_trans h4 h2
theorem fillL_sorted (L : Nat) : ∀ (f : Nat) (l : List α), l.Pairwise (fun a b => hi a ≤ hi b) → (fillL lo hi L f l).Pairwise (· ≤ ·)
  | 0, l, _ => by simp [fillL]
  | f + 1, [], _ => by simp [fillL]
  | f + 1, x :: l, hs => by
    unfold fillL
    have hsub := takeL_sub lo (hi x) (x :: l) L
    refine List.pairwise_cons.2 ⟨fun t ht => ?_, fillL_sorted L f _ (hs.sublist hsub)⟩
    obtain ⟨y, hy, rfl⟩ := fillL_mem lo hi L f _ t ht
    rcases List.mem_cons.1 (hsub.subset hy) with rfl | hy
    · exact Int.le_refl _
    · exact (List.pairwise_cons.1 hs).1 y hy
theorem sorted_at (h : Int) : ∀ (ts : List Int) (m : Nat), ts.Pairwise (· ≤ ·) → ts.countP (fun t => decide (t ≤ h)) = m + 1 → ∃ t, ts[m]? = some t ∧ t ≤ h
  | [], m, _, hc => by simp at hc
  | t :: ts, m, hs, hc => by
    obtain ⟨h1, h2⟩ := List.pairwise_cons.1 hs
    rw [List.countP_cons] at hc
    by_cases ht : t ≤ h
    · simp only [ht, decide_true, if_true] at hc
      cases m with
      | zero => exact ⟨t, rfl, ht⟩
      | succ m =>
        obtain ⟨u, h3, h4⟩ := sorted_at h ts m h2 (by omega)
        exact ⟨u, by simpa using h3, h4⟩
    · exfalso
      have : ts.countP (fun t => decide (t ≤ h)) = 0 := List.countP_eq_zero.2 (fun u hu => by have := h1 u hu; simp; omega)
      simp [ht, this] at hc
/-- **The greedy loads up to an hour are the most that a chain of windows needs.** -/
theorem fill_max (L : Nat) (hL : 1 ≤ L) (all l : List α) (hlh : ∀ x ∈ all, lo x ≤ hi x) (hs : l.Pairwise (fun a b => hi a ≤ hi b)) (hall : ∀ x ∈ l, x ∈ all) (hc : ∀ p, l.countP p = all.countP p) (f : Nat) (hf : l.length ≤ f) (h : Int) :
    Chain lo hi L all h ((fillL lo hi L f l).countP (fun t => decide (t ≤ h))) ∧ ∀ v, Chain lo hi L all h v → v ≤ (fillL lo hi L f l).countP (fun t => decide (t ≤ h)) := by
  have hle := fun v (c : Chain lo hi L all h v) => chain_fill lo hi L hL all l (fun x hx => hlh x (hall x hx)) hs hc f hf c
  refine ⟨?_, hle⟩
  obtain ⟨g, hg⟩ : ∃ g, (fillL lo hi L f l).countP (fun t => decide (t ≤ h)) = g := ⟨_, rfl⟩
  rw [hg]
  cases g with
  | zero => exact .nil h
  | succ m =>
    obtain ⟨t, h1, h2⟩ := sorted_at h _ m (fillL_sorted lo hi L f l hs) hg
    obtain ⟨v, h3, h4⟩ := fill_chain lo hi L all l hlh hs hall (fun p => by rw [hc]; exact Nat.le_refl _) f m t h1
    have h5 := hle v (h4.mono lo hi h2)
    rw [hg] at h5
    obtain rfl : v = m + 1 := by omega
    exact h4.mono lo hi h2
end
end Go.Proofs.Ytbbdlebmagknmaa.Fill
