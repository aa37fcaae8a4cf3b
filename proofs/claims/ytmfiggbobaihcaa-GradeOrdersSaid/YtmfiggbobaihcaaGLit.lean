/- Lists and shops of the examples; equal lists; too many orders. -/
import Derived.Test.YtmfiggbobaihcaaGRefuse
import Derived.Test.YtmfiggbobaihcaaGRefK
import Derived.Deep.RegionLaw
import Derived.Deep.AppendLies
import Derived.Deep.DeepCutAuto
namespace Go.Proofs.Ytmfiggbobaihcaa
open Go.RowKit Go.Shelf

set_option maxRecDepth 100000 in
set_option maxHeartbeats 2000000 in
theorem longsEq_any (A : Option Addr) (n c : Nat) (xs : List Int) (B : Option Addr) (m d : Nat) (ys : List Int) (w : World) (h1 : Sl 1 encI w w.heap.size A n c xs) (h2 : Sl 1 encI w w.heap.size B m d ys) :
    Calls Try.prog 32 #[.slice A n c, .slice B m d] w fun e w' => e = .returned (.bool (decide (xs = ys))) ∧ Below w.heap.size w w' := by
  obtain rfl := h1.len
  obtain rfl := h2.len
  have hc1 := h1.cap
  have hb1 := h1.big
  by_cases hnm : xs.length = ys.length
  case neg =>
    have hd : ((xs.length : Int) != (ys.length : Int)) = true := by simp; omega
    have HE := Lib.hid (show decide (xs = ys) = false by
      rw [decide_eq_false_iff_not]
      intro e
      rw [e] at hnm
      exact hnm rfl)
    clear h1 h2 hnm
    go_enter Try.func32, Try.ntmps32
    go_wp2
    go_ret
    exact ⟨ret_bool HE.out.symm, brefl _⟩
  have H1 := Lib.hid h1
  have H2 := Lib.hid h2
  obtain ⟨n, hn⟩ : ∃ n, xs.length = n := ⟨_, rfl⟩
  have hn2 : ys.length = n := by omega
  have Hn := Lib.hid hn
  have Hn2 := Lib.hid hn2
  rw [hn] at H1 hc1 ⊢
  rw [hn2] at H2 ⊢
  have hd : ((n : Int) != (n : Int)) = false := by simp
  clear h1 h2 hnm hn hn2
  go_enter Try.func32, Try.ntmps32
  go_wp2_with fail
  clear hd
  refine loop_n (fun k a W => a.defers = [] ∧ ∃ i : Nat, i + k = n ∧ Below w.heap.size w W ∧ Hid (∀ j, j < i → xs[j]? = ys[j]?) ∧ Fits (some (.slice A n c) :: some (.slice B n d) :: none :: none :: none :: some (.int .i64 (i : Nat)) :: none :: none :: none :: none :: none :: none :: none :: none :: none :: none :: none :: none :: none :: none :: none :: none :: none :: none :: none :: none :: []) a.tmps.toList) n ?_ ?_
  · refine ⟨rfl, 0, by omega, brefl _, Lib.hid (fun j hj => by omega), ?_⟩
    repeat (first | exact fits_nil | refine fits_none ?_ | refine fits_some ?_)
  intro k a W hI K hK'
  obtain ⟨hds, i, hik, hb, hno, hfit⟩ := hI
  obtain ⟨f, hf⟩ := fits_act hfit
  rw [hds] at hf
  subst hf
  clear hfit hds
  simp only [fillP, Nat.reduceAdd]
  have HB := Lib.hid hb
  by_cases hlt : i < n
  · obtain ⟨b1, o1, x, rfl, hb1', hx, g0⟩ := (H1.out.later hb).ltI hlt
    obtain ⟨b2, o2, y, rfl, hb2', hy, g1⟩ := (H2.out.later hb).ltI hlt
    have i1 : (i : Int) < (n : Int) := by omega
    have i2 : (0 : Int) ≤ (i : Int) := by omega
    have i3 : IntKind.i64.wrap ((i : Int) + 1) = (i : Int) + 1 := by rw [IntKind.wrap_i64]; omega
    by_cases he : x = y
    · have hne : (x != y) = false := by simpa using he
      have HN := Lib.hid (show ∀ j, j < i + 1 → xs[j]? = ys[j]? from fun j hj => by
        by_cases e : j = i
        · subst e; rw [hx, hy, he]
        · exact hno.out j (by omega))
      clear hb hno hx hy he
      go_wp2_with fail
      refine dag 9 (by kernel_rfl) (by kernel_rfl) (.is ?_ :: .is ?_ :: .is ?_ :: .is ?_ :: .is ?_ :: .is ?_ :: .is ?_ :: .is ?_ :: .is ?_ :: []) rfl ?st1 ?ob1
      case st1 => simp [Spec.ok]
      case ob1 =>
        intro env W' hG
        obtain ⟨hc, hf⟩ := bcell hG
        repeat (refine obls_is ?_ ?_; unfold doesAt; go_simp; (try go_bits); (first | (refine ⟨brefl _, ?_⟩; rfl) | rfl); intro K hK; go_simp; refine hK _ ?_; clear hK K)
        refine obls_nil (fun _ => ?_)
        have HB2 := Lib.hid (Below.later HB.out hG)
        clear hc hf hG
        go_wp2
        refine hK' _ _ (k - 1) (by omega) ⟨rfl, i + 1, by omega, HB2.out, Lib.hid HN.out, ?_⟩
        repeat (first | exact fits_nil | refine fits_none ?_ | refine fits_some ?_)
    · have hne : (x != y) = true := by simpa using he
      have HE := Lib.hid (show decide (xs = ys) = false by
        rw [decide_eq_false_iff_not]
        intro e
        rw [e, hy] at hx
        cases hx
        exact he rfl)
      clear hb hno hx hy he hK'
      go_wp2_with fail
      refine dag 9 (by kernel_rfl) (by kernel_rfl) (.is ?_ :: .is ?_ :: .is ?_ :: .is ?_ :: .is ?_ :: .is ?_ :: .is ?_ :: .is ?_ :: .is ?_ :: []) rfl ?st2 ?ob2
      case st2 => simp [Spec.ok]
      case ob2 =>
        intro env W' hG
        obtain ⟨hc, hf⟩ := bcell hG
        repeat (refine obls_is ?_ ?_; unfold doesAt; go_simp; (try go_bits); (first | (refine ⟨brefl _, ?_⟩; rfl) | rfl); intro K hK; go_simp; refine hK _ ?_; clear hK K)
        refine obls_nil (fun _ => ?_)
        have HB2 := Lib.hid (Below.later HB.out hG)
        clear hc hf hG
        go_wp2
        go_ret
        exact ⟨ret_bool HE.out.symm, HB2.out⟩
  · obtain rfl : i = n := by omega
    have HE := Lib.hid (show decide (xs = ys) = true by
      rw [decide_eq_true_eq]
      apply List.ext_getElem?
      intro j
      by_cases hj : j < i
      · exact hno.out j hj
      · rw [List.getElem?_eq_none (by rw [Hn.out]; omega), List.getElem?_eq_none (by rw [Hn2.out]; omega)])
    clear hK' hb hno
    go_wp2
    go_ret
    exact ⟨ret_bool HE.out.symm, HB.out⟩

set_option maxRecDepth 100000 in
set_option maxHeartbeats 2000000 in
theorem intsEq_any (A : Option Addr) (n c : Nat) (xs : List Int) (B : Option Addr) (m d : Nat) (ys : List Int) (w : World) (h1 : Sl 1 encI w w.heap.size A n c xs) (h2 : Sl 1 encI w w.heap.size B m d ys) :
    Calls Try.prog 42 #[.slice A n c, .slice B m d] w fun e w' => e = .returned (.bool (decide (xs = ys))) ∧ Below w.heap.size w w' := by
  obtain rfl := h1.len
  obtain rfl := h2.len
  have hc1 := h1.cap
  have hb1 := h1.big
  by_cases hnm : xs.length = ys.length
  case neg =>
    have hd : ((xs.length : Int) != (ys.length : Int)) = true := by simp; omega
    have HE := Lib.hid (show decide (xs = ys) = false by
      rw [decide_eq_false_iff_not]
      intro e
      rw [e] at hnm
      exact hnm rfl)
    clear h1 h2 hnm
    go_enter Try.func42, Try.ntmps42
    go_wp2
    go_ret
    exact ⟨ret_bool HE.out.symm, brefl _⟩
  have H1 := Lib.hid h1
  have H2 := Lib.hid h2
  obtain ⟨n, hn⟩ : ∃ n, xs.length = n := ⟨_, rfl⟩
  have hn2 : ys.length = n := by omega
  have Hn := Lib.hid hn
  have Hn2 := Lib.hid hn2
  rw [hn] at H1 hc1 ⊢
  rw [hn2] at H2 ⊢
  have hd : ((n : Int) != (n : Int)) = false := by simp
  clear h1 h2 hnm hn hn2
  go_enter Try.func42, Try.ntmps42
  go_wp2_with fail
  clear hd
  refine loop_n (fun k a W => a.defers = [] ∧ ∃ i : Nat, i + k = n ∧ Below w.heap.size w W ∧ Hid (∀ j, j < i → xs[j]? = ys[j]?) ∧ Fits (some (.slice A n c) :: some (.slice B n d) :: none :: none :: none :: some (.int .i64 (i : Nat)) :: none :: none :: none :: none :: none :: none :: none :: none :: none :: none :: none :: none :: none :: none :: none :: none :: none :: none :: none :: none :: []) a.tmps.toList) n ?_ ?_
  · refine ⟨rfl, 0, by omega, brefl _, Lib.hid (fun j hj => by omega), ?_⟩
    repeat (first | exact fits_nil | refine fits_none ?_ | refine fits_some ?_)
  intro k a W hI K hK'
  obtain ⟨hds, i, hik, hb, hno, hfit⟩ := hI
  obtain ⟨f, hf⟩ := fits_act hfit
  rw [hds] at hf
  subst hf
  clear hfit hds
  simp only [fillP, Nat.reduceAdd]
  have HB := Lib.hid hb
  by_cases hlt : i < n
  · obtain ⟨b1, o1, x, rfl, hb1', hx, g0⟩ := (H1.out.later hb).ltI hlt
    obtain ⟨b2, o2, y, rfl, hb2', hy, g1⟩ := (H2.out.later hb).ltI hlt
    have i1 : (i : Int) < (n : Int) := by omega
    have i2 : (0 : Int) ≤ (i : Int) := by omega
    have i3 : IntKind.i64.wrap ((i : Int) + 1) = (i : Int) + 1 := by rw [IntKind.wrap_i64]; omega
    by_cases he : x = y
    · have hne : (x != y) = false := by simpa using he
      have HN := Lib.hid (show ∀ j, j < i + 1 → xs[j]? = ys[j]? from fun j hj => by
        by_cases e : j = i
        · subst e; rw [hx, hy, he]
        · exact hno.out j (by omega))
      clear hb hno hx hy he
      go_wp2_with fail
      refine dag 9 (by kernel_rfl) (by kernel_rfl) (.is ?_ :: .is ?_ :: .is ?_ :: .is ?_ :: .is ?_ :: .is ?_ :: .is ?_ :: .is ?_ :: .is ?_ :: []) rfl ?st1 ?ob1
      case st1 => simp [Spec.ok]
      case ob1 =>
        intro env W' hG
        obtain ⟨hc, hf⟩ := bcell hG
        repeat (refine obls_is ?_ ?_; unfold doesAt; go_simp; (try go_bits); (first | (refine ⟨brefl _, ?_⟩; rfl) | rfl); intro K hK; go_simp; refine hK _ ?_; clear hK K)
        refine obls_nil (fun _ => ?_)
        have HB2 := Lib.hid (Below.later HB.out hG)
        clear hc hf hG
        go_wp2
        refine hK' _ _ (k - 1) (by omega) ⟨rfl, i + 1, by omega, HB2.out, Lib.hid HN.out, ?_⟩
        repeat (first | exact fits_nil | refine fits_none ?_ | refine fits_some ?_)
    · have hne : (x != y) = true := by simpa using he
      have HE := Lib.hid (show decide (xs = ys) = false by
        rw [decide_eq_false_iff_not]
        intro e
        rw [e, hy] at hx
        cases hx
        exact he rfl)
      clear hb hno hx hy he hK'
      go_wp2_with fail
      refine dag 9 (by kernel_rfl) (by kernel_rfl) (.is ?_ :: .is ?_ :: .is ?_ :: .is ?_ :: .is ?_ :: .is ?_ :: .is ?_ :: .is ?_ :: .is ?_ :: []) rfl ?st2 ?ob2
      case st2 => simp [Spec.ok]
      case ob2 =>
        intro env W' hG
        obtain ⟨hc, hf⟩ := bcell hG
        repeat (refine obls_is ?_ ?_; unfold doesAt; go_simp; (try go_bits); (first | (refine ⟨brefl _, ?_⟩; rfl) | rfl); intro K hK; go_simp; refine hK _ ?_; clear hK K)
        refine obls_nil (fun _ => ?_)
        have HB2 := Lib.hid (Below.later HB.out hG)
        clear hc hf hG
        go_wp2
        go_ret
        exact ⟨ret_bool HE.out.symm, HB2.out⟩
  · obtain rfl : i = n := by omega
    have HE := Lib.hid (show decide (xs = ys) = true by
      rw [decide_eq_true_eq]
      apply List.ext_getElem?
      intro j
      by_cases hj : j < i
      · exact hno.out j hj
      · rw [List.getElem?_eq_none (by rw [Hn.out]; omega), List.getElem?_eq_none (by rw [Hn2.out]; omega)])
    clear hK' hb hno
    go_wp2
    go_ret
    exact ⟨ret_bool HE.out.symm, HB.out⟩

set_option maxHeartbeats 1000000 in
theorem longs_any (A : Option Addr) (n c : Nat) (w : World) : Calls Try.prog 50 #[.slice A n c] w fun e w' => e = .returned (.slice A n c) ∧ Below w.heap.size w w' := by
  go_enter Try.func50, Try.ntmps50
  go_wp2
  go_ret
  exact ⟨rfl, brefl _⟩

set_option maxHeartbeats 1000000 in
theorem of__any (A : Option Addr) (n c : Nat) (w : World) : Calls Try.prog 52 #[.slice A n c] w fun e w' => e = .returned (.slice A n c) ∧ Below w.heap.size w w' := by
  go_enter Try.func52, Try.ntmps52
  go_wp2
  go_ret
  exact ⟨rfl, brefl _⟩

set_option maxHeartbeats 1000000 in
theorem rows_call (A : Option Addr) (n c : Nat) (w : World) : Calls Try.prog 55 #[.slice A n c] w fun e w' => e = .returned (.slice A n c) ∧ Below w.heap.size w w' := by
  go_enter Try.func55, Try.ntmps55
  go_wp2
  go_ret
  exact ⟨rfl, brefl _⟩
/-- Too many grades, or orders, for a statement. -/
def grB (sn pn on : Nat) : Bool := decide ((10 : Int) < (sn : Int)) || decide ((10 : Int) < (pn : Int)) || decide ((12 : Int) < (on : Int))
set_option maxHeartbeats 1000000 in
theorem great_any (SA : Option Addr) (sn sc : Nat) (PA : Option Addr) (pn pc : Nat) (OA : Option Addr) (on oc : Nat) (w : World) : Calls Try.prog 16 #[.agg #[.slice SA sn sc, .slice PA pn pc, .slice OA on oc]] w fun e w' => e = .returned (.bool (grB sn pn on)) ∧ Below w.heap.size w w' := by
  have HB := Lib.hid (balloc (brefl w) (.cells #[.slice SA sn sc, .slice PA pn pc, .slice OA on oc] 25))
  obtain ⟨q1, h1⟩ : ∃ q1, decide ((10 : Int) < (sn : Int)) = q1 := ⟨_, rfl⟩
  obtain ⟨q2, h2⟩ : ∃ q2, decide ((10 : Int) < (pn : Int)) = q2 := ⟨_, rfl⟩
  obtain ⟨q3, h3⟩ : ∃ q3, decide ((12 : Int) < (on : Int)) = q3 := ⟨_, rfl⟩
  have HE := Lib.hid (show grB sn pn on = (q1 || q2 || q3) by unfold grB; rw [h1, h2, h3])
  rw [HE.out]
  cases q1 with
  | true =>
    go_enter Try.func16, Try.ntmps16
    go_wp2
    go_ret
    exact ⟨ret_bool (by simp), HB.out⟩
  | false =>
  cases q2 with
  | true =>
    go_enter Try.func16, Try.ntmps16
    go_wp2
    go_ret
    exact ⟨ret_bool (by simp), HB.out⟩
  | false =>
    go_enter Try.func16, Try.ntmps16
    go_wp2
    go_ret
    exact ⟨ret_bool (by simp), HB.out⟩
/-- A fill that is too wide for a statement. -/
def widM (L : List Rw) : Nat → Int
  | 0 => (L.length : Int)
  | i + 1 => max (widM L i) ((L.getD i ⟨none, 0, 0, []⟩).n : Int)
def widB (L : List Rw) : Bool := decide ((12 : Int) < widM L L.length)
theorem widM_le {L : List Rw} {b : Int} (h0 : (L.length : Int) ≤ b) (h : ∀ r ∈ L, (r.n : Int) ≤ b) : ∀ i, i ≤ L.length → (L.length : Int) ≤ widM L i ∧ widM L i ≤ b
  | 0, _ => ⟨Int.le_refl _, h0⟩
  | i + 1, hi => by
    have h1 := widM_le h0 h i (by omega)
    have hx := List.getElem?_eq_getElem (show i < L.length by omega)
    have h2 := h _ (List.mem_of_getElem? hx)
    have h3 : L.getD i ⟨none, 0, 0, []⟩ = L[i] := by simp [List.getD, hx]
    unfold widM
    rw [h3]
    omega
theorem widM_ge {L : List Rw} : ∀ i, i ≤ L.length → ∀ j r, j < i → L[j]? = some r → (r.n : Int) ≤ widM L i
  | 0, _, j, r, hj, _ => by omega
  | i + 1, hi, j, r, hj, hr => by
    unfold widM
    by_cases e : j = i
    · subst e
      have h3 : L.getD j ⟨none, 0, 0, []⟩ = r := by simp [List.getD, hr]
      rw [h3]
      omega
    · have := widM_ge i (by omega) j r (by omega) hr
      omega
theorem wid_no {L : List Rw} (h0 : L.length ≤ 12) (h : ∀ r ∈ L, r.n ≤ 12) : widB L = false := by
  unfold widB
  have h1 := (widM_le (L := L) (b := 12) (by omega) (fun r hr => by have := h r hr; omega) L.length (Nat.le_refl _)).2
  rw [decide_eq_false_iff_not]
  omega
set_option maxRecDepth 100000 in
set_option maxHeartbeats 2000000 in
theorem wide_any (FA : Option Addr) (fn fc : Nat) (L : List Rw) (w : World) (hl : Sl 1 encW w w.heap.size FA fn fc L) : Calls Try.prog 17 #[.slice FA fn fc] w fun e w' => e = .returned (.bool (widB L)) ∧ Below w.heap.size w w' := by
  obtain rfl := hl.len
  have Hl := Lib.hid hl
  have hcap := hl.cap
  have hbig := hl.big
  have HB0 := Lib.hid (brefl w)
  clear hl
  go_enter Try.func17, Try.ntmps17
  go_wp2_with fail
  refine loop_n (fun m b W => b.defers = [] ∧ ∃ i : Nat, i + m = L.length ∧ Hid (Below w.heap.size w W) ∧ Fits (some (.slice FA L.length fc) :: none :: none :: some (.int .i64 (widM L i)) :: some (.int .i64 (i : Nat)) :: none :: none :: none :: none :: none :: none :: none :: none :: none :: none :: none :: none :: none :: none :: none :: none :: none :: []) b.tmps.toList) L.length ?_ ?_
  · refine ⟨rfl, 0, by omega, HB0, ?_⟩
    repeat (first | exact fits_nil | refine fits_none ?_ | refine fits_some ?_)
  clear HB0
  intro m b W hI K hK
  obtain ⟨hds, i, him, HB, hfit⟩ := hI
  obtain ⟨f, hf⟩ := fits_act hfit
  rw [hds] at hf
  subst hf
  clear hfit hds
  simp only [fillP, Nat.reduceAdd]
  by_cases hlt : i < L.length
  · obtain ⟨rb, ro, r, rfl, hrb, hr, p0⟩ := (Hl.out.later HB.out).ltW (i := i) hlt
    have i1 : (i : Int) < (L.length : Int) := by omega
    have i2 : (0 : Int) ≤ (i : Int) := by omega
    have i3 : IntKind.i64.wrap ((i : Int) + 1) = (i : Int) + 1 := by rw [IntKind.wrap_i64]; omega
    have Him := Lib.hid (show i + m = L.length ∧ i < L.length from ⟨him, hlt⟩)
    have hst : widM L (i + 1) = max (widM L i) (r.n : Int) := by rw [widM, show L.getD i ⟨none, 0, 0, []⟩ = r by simp [List.getD, hr]]
    obtain ⟨mx, hmx⟩ : ∃ mx, widM L (i + 1) = mx := ⟨_, rfl⟩
    have hmn := max_if (widM L i) (r.n : Int)
    rw [← hst, hmx] at hmn
    have Hmx := Lib.hid hmx
    generalize widM L i = wd at *
    clear him hlt hr hst hmx
    go_wp2
    refine hK _ _ (m - 1) (by have := Him.out; omega) ⟨rfl, i + 1, by have := Him.out; omega, HB, ?_⟩
    rw [Hmx.out]
    repeat (first | exact fits_nil | refine fits_none ?_ | refine fits_some ?_)
  · obtain rfl : i = L.length := by omega
    have i1 : ¬ (L.length : Int) < (L.length : Int) := by omega
    have hwb : widB L = decide ((12 : Int) < widM L L.length) := rfl
    generalize widM L L.length = wd at *
    have Hwb := Lib.hid hwb
    clear hK him hlt hwb
    go_wp2
    go_ret
    exact ⟨ret_bool Hwb.out.symm, HB.out⟩
/-- Two numbers for each order. -/
def flatO (O : List Od) : List Int := O.flatMap fun o => [o.g, o.m]
theorem flatO_get (O : List Od) : ∀ (i : Nat) (o : Od), O[i]? = some o → (flatO O)[2 * i]? = some o.g ∧ (flatO O)[2 * i + 1]? = some o.m := by
  induction O with
  | nil => intro i o h; simp at h
  | cons x O ih =>
    intro i o h
    cases i with
    | zero =>
      obtain rfl : x = o := by simpa using h
      exact ⟨rfl, rfl⟩
    | succ i =>
      have h1 := ih i o (by simpa using h)
      unfold flatO at h1 ⊢
      rw [List.flatMap_cons, show 2 * (i + 1) = 2 * i + 2 by omega, show 2 * i + 2 + 1 = 2 * i + 1 + 2 by omega]
      exact h1
theorem flatO_len (O : List Od) : (flatO O).length = 2 * O.length := by
  induction O with
  | nil => rfl
  | cons x O ih => unfold flatO at ih ⊢; rw [List.flatMap_cons, List.length_append, ih]; simp; omega
/-- Block N the result, N + 1 the shop. -/
structure SW (w W : World) (SA : Option Addr) (sn sc : Nat) (PA : Option Addr) (pn pc : Nat) (v : Value) (xs : List Od) : Prop where
  bel : Below w.heap.size w W
  b1 : Blk W w.heap.size 25 #[.slice none 0 0, .slice none 0 0, .slice none 0 0]
  bp : Blk W (w.heap.size + 1) 25 #[.slice SA sn sc, .slice PA pn pc, v]
  own : W.ownsRow w.heap.size 66 2 v xs.length (xs.flatMap encO)
section
variable {w W W' : World} {SA : Option Addr} {sn sc : Nat} {PA : Option Addr} {pn pc : Nat} {v v' : Value} {xs : List Od}
theorem SW.later (h : SW w W SA sn sc PA pn pc v xs) (hb : Below W.heap.size W W') : SW w W' SA sn sc PA pn pc v xs := ⟨Below.later h.bel hb, h.b1.later hb, h.bp.later hb, own_later h.own hb⟩
theorem SW.grown (h : SW w W SA sn sc PA pn pc v xs) {x : Od} (hg : W.grownBy W' v.ownBlock) (ho : W'.ownsRow w.heap.size 66 2 v' (xs.length + 1) (xs.flatMap encO ++ encO x)) : SW w (W'.setCell ⟨w.heap.size + 1, 2, none⟩ v') SA sn sc PA pn pc v' (xs ++ [x]) := by
  have hlt := own_base h.own
  have hb : Below w.heap.size w W' := h.bel.trans ⟨hg.os, hg.tape, hg.output, hg.size, fun k hk => hg.block k (by have := h.bel.size; omega) (fun e => by have := hlt k e.symm; omega)⟩
  have h1 := h.b1.grown hg (h.b1.notRow h.own (by decide))
  have hp := h.bp.grown hg (h.bp.notRow h.own (by decide))
  refine ⟨bset hb (p := ⟨w.heap.size + 1, 2, none⟩) (by show w.heap.size ≤ w.heap.size + 1; omega) v', h1.other (by show w.heap.size + 1 ≠ w.heap.size; omega) _, hp.set 2 v', own_other ?_ _ (hp.notRow ho (by decide)) _⟩
  rw [List.length_append, List.flatMap_append]
  simpa using ho
end
set_option maxRecDepth 100000 in
set_option maxHeartbeats 8000000 in
theorem shop_any (SA : Option Addr) (sn sc : Nat) (PA : Option Addr) (pn pc : Nat) (A : Option Addr) (n c : Nat) (O : List Od) (w : World) (hs : Sl 1 encI w w.heap.size A n c (flatO O)) (h8 : O.length ≤ 100) : Calls Try.prog 82 #[.slice SA sn sc, .slice PA pn pc, .slice A n c] w fun e w' => ∃ OA oc, e = .returned (.agg #[.slice SA sn sc, .slice PA pn pc, .slice OA O.length oc]) ∧ Below w.heap.size w w' ∧ w'.ownsRow w.heap.size 66 2 (.slice OA O.length oc) O.length (O.flatMap encO) := by
  have hnl : n = 2 * O.length := by rw [← hs.len]; exact flatO_len O
  have Hs := Lib.hid hs
  have hb1 := (Blk.new w 25 #[.slice none 0 0, .slice none 0 0, .slice none 0 0]).alloc (.cells #[.slice SA sn sc, .slice PA pn pc, .slice none 0 0] 25)
  have hb2 := Blk.new (w.alloc (.cells #[.slice none 0 0, .slice none 0 0, .slice none 0 0] 25)) 25 #[.slice SA sn sc, .slice PA pn pc, .slice none 0 0]
  rw [World.size_alloc] at hb2
  have HK0 := Lib.hid (show SW w ((w.alloc (.cells #[.slice none 0 0, .slice none 0 0, .slice none 0 0] 25)).alloc (.cells #[.slice SA sn sc, .slice PA pn pc, .slice none 0 0] 25)) SA sn sc PA pn pc (.slice none 0 0) (O.take 0) from ⟨balloc (balloc (brefl w) _) _, hb1, hb2, World.ownsRow_nil _ _ _ _⟩)
  have Hnl := Lib.hid hnl
  clear hs hb1 hb2 hnl
  go_enter Try.func82, Try.ntmps82
  go_wp2_with fail
  refine loop_n (fun q a W => a.defers = [] ∧ ∃ (i : Nat) (v : Value), i + q = O.length ∧ Hid (SW w W SA sn sc PA pn pc v (O.take i)) ∧ Fits (none :: none :: some (.slice A n c) :: none :: none :: none :: some (.pointer (some ⟨w.heap.size, 0, none⟩)) :: some (.pointer (some ⟨w.heap.size + 1, 0, none⟩)) :: some (.int .i64 (2 * (i : Int))) :: none :: none :: none :: none :: none :: none :: none :: none :: none :: none :: none :: none :: none :: none :: none :: none :: none :: none :: none :: none :: none :: none :: none :: none :: none :: none :: []) a.tmps.toList) O.length ?_ ?_
  · refine ⟨rfl, 0, _, by omega, HK0, ?_⟩
    repeat (first | exact fits_nil | refine fits_none ?_ | refine fits_some ?_)
  clear HK0
  intro q a W hI K hK
  obtain ⟨hds, i, v, hiq, HK, hfit⟩ := hI
  obtain ⟨f, hf⟩ := fits_act hfit
  rw [hds] at hf
  subst hf
  clear hfit hds
  simp only [fillP, Nat.reduceAdd]
  have j3 : IntKind.i64.wrap (2 * (i : Int) + 1) = 2 * (i : Int) + 1 := by rw [IntKind.wrap_i64]; omega
  by_cases hlt : i < O.length
  · obtain ⟨x, hx⟩ : ∃ x, O[i]? = some x := ⟨_, List.getElem?_eq_getElem hlt⟩
    obtain ⟨y0, y1⟩ := flatO_get O i x hx
    obtain ⟨rb, ro, z0, rfl, hrb, hz0', p0⟩ := (Hs.out.later HK.out.bel).ltI (i := 2 * i) (by have := Hnl.out; omega)
    obtain ⟨rb', ro', z1, hA', _, hz1', p1⟩ := (Hs.out.later HK.out.bel).ltI (i := 2 * i + 1) (by have := Hnl.out; omega)
    simp only [Option.some.injEq, Addr.mk.injEq, and_true] at hA'
    obtain ⟨rfl, rfl⟩ := hA'
    rw [y0] at hz0'; cases hz0'
    rw [y1] at hz1'; cases hz1'
    have Hadd := Lib.hid (show O.take (i + 1) = O.take i ++ [x] by
      obtain ⟨h1, h2⟩ := List.getElem?_eq_some_iff.1 hx
      rw [List.take_succ_eq_append_getElem h1, h2])
    have Hiq := Lib.hid (show i + q = O.length ∧ i < O.length from ⟨hiq, hlt⟩)
    have hnl := Hnl.out
    have hxl : (O.take i).length ≤ 100 := by simp; omega
    generalize O.take i = xs at *
    have i1 : 2 * (i : Int) + 1 < (n : Int) := by omega
    have i2 : (0 : Int) ≤ 2 * (i : Int) := by omega
    have i4 : 2 * (i : Int) < (n : Int) := by omega
    have i5 : (0 : Int) ≤ 2 * (i : Int) + 1 := by omega
    have i6 : (2 * (i : Int)).toNat = 2 * i := by omega
    have i7 : (2 * (i : Int) + 1).toNat = 2 * i + 1 := by omega
    have i8 : IntKind.i64.wrap (2 * (i : Int) + 2) = 2 * (i : Int) + 2 := by rw [IntKind.wrap_i64]; omega
    have hne1 := HK.out.b1.notRow HK.out.own (by decide)
    have hne2 := HK.out.bp.notRow HK.out.own (by decide)
    have hnr : v.ownBlock ≠ some rb := fun e => by
      obtain ⟨b0, o0, _, hA0, hb0, _⟩ := Hs.out.ltI (i := 2 * i) (by omega)
      cases hA0
      have := own_base HK.out.own _ e
      omega
    have Hrow := Lib.hid (show ∀ r, v.ownBlock = some r → r < W.heap.size from fun r hr => own_lt HK.out.own r hr)
    have e1 := HK.out.bp.cell 2
    have e2 := HK.out.bp.lt
    clear hx hiq hlt y0 y1 hnl
    go_wp2_with fail
    refine dagRow 15 13 v.ownBlock (by kernel_rfl) (by kernel_rfl) (.is ?_ :: .is ?_ :: .is ?_ :: .is ?_ :: .is ?_ :: .is ?_ :: .is ?_ :: .is ?_ :: .is ?_ :: .is ?_ :: .is ?_ :: .is ?_ :: .like (OneO W.heap.size x) :: .like (RowO w.heap.size (xs ++ [x])) :: .is ?_ :: []) rfl ?st1 ?gd1 ?stb1 ?ob1
    case st1 => repeat (first | exact stab_nil | refine stab_is ?_ | refine stab_like OneO.stab ?_ | refine stab_like RowO.stab ?_)
    case gd1 => intro o ho; cases ho; rfl
    case stb1 => repeat (first | exact stabT_nil | refine stabT_is ?_ | refine stabT_like (fun _ _ _ h1 h2 => h2.grown h1.2 Hrow.out) ?_)
    case ob1 =>
    intro env V hG
    have hP1 := HK.out.bp.grown hG hne2
    have f2 := hP1.cell 2
    have f3 := hP1.lt
    have f4 := hP1.frozen 2
    have h0 := (World.cell?_of_block (a := ⟨rb, ro + 2 * i, none⟩) (hG.block rb hrb (Ne.symm hnr))).trans p0
    have h1 := (World.cell?_of_block (a := ⟨rb, ro + (2 * i + 1), none⟩) (hG.block rb hrb (Ne.symm hnr))).trans p1
    have h2 := Nat.lt_of_lt_of_le hrb hG.size
    have HG := Lib.hid hG
    clear hP1
    iterate 12 (refine oblsA_is (show _ ≠ (13 : Nat) by decide) ?_ ?_; unfold doesAt; go_simp; (try go_bits); (first | (refine ⟨brefl _, ?_⟩; rfl) | rfl); intro K hK; go_simp; refine hK _ ?_; clear hK K)
    refine oblsA_like (show _ ≠ (13 : Nat) by decide) (fun _ => ?_) ?_
    · unfold doesAt
      go_simp
      have hbn := Blk.new V 66 #[.int .i64 x.g, .int .i64 x.m]
      exact ⟨balloc (brefl V) _, V.heap.size, rfl, HG.out.size, hbn.lt, hbn.cell 0, hbn.cell 1⟩
    intro K hK
    go_simp
    refine hK _ ?_
    clear hK K
    refine oblsA_app rfl (fun hl hp => ?_) ?_
    · obtain ⟨g, hE, hg1, hg2, hg3, hg4⟩ : OneO W.heap.size x (env 12) V := hl ⟨12, .data⟩ (by simp) rfl (.inl rfl)
      refine app_of_run rfl (.tmp 20) (.tmp 31) 23 rfl rfl hE ?_
      exact run_app_o _ (own_later HK.out.own hp) (one_newsO hg3 hg4) (by omega) (by have := hp.size; have := HK.out.bel.size; omega)
    intro K hK
    go_simp
    refine hK _ ?_
    clear hK K
    (refine oblsA_is (show _ ≠ (13 : Nat) by decide) ?_ ?_; unfold doesAt; go_simp; (try go_bits); (first | (refine ⟨brefl _, ?_⟩; rfl) | rfl); intro K hK; go_simp; refine hK _ ?_; clear hK K)
    refine oblsA_last (fun hok => ?_)
    have hrw : RowO w.heap.size (xs ++ [x]) (env 13) V := hok 13 _ rfl (.inl rfl)
    have hrw' := hrw
    unfold RowO at hrw'
    rw [List.length_append, List.flatMap_append] at hrw'
    obtain ⟨v', hv'⟩ : ∃ v', env 13 = v' := ⟨_, rfl⟩
    rw [hv'] at hrw hrw' ⊢
    obtain ⟨gg, cap, rfl⟩ := own_succ hrw'
    have HK4 := Lib.hid (HK.out.grown (x := x) HG.out (by simpa using hrw'))
    clear hrw hrw' hv' hok hG h0 h1 h2 hne1 hne2 hnr hrb HK
    unfold doesAt
    go_simp
    clear f2 f3 f4
    generalize V.setCell ⟨w.heap.size + 1, 2, none⟩ (.slice (some ⟨gg, 0, none⟩) (xs.length + [x].length) cap) = V2 at *
    go_wp2
    refine hK _ _ (q - 1) (by have := Hiq.out; omega) ⟨rfl, i + 1, _, by have := Hiq.out; omega, by rw [Hadd.out]; exact HK4, ?_⟩
    rw [show 2 * ((i + 1 : Nat) : Int) = 2 * (i : Int) + 2 by omega]
    repeat (first | exact fits_nil | refine fits_none ?_ | refine fits_some ?_)
  · obtain rfl : i = O.length := by omega
    have j4 : ¬ (2 * (O.length : Int) + 1 < (n : Int)) := by have := Hnl.out; omega
    rw [List.take_length] at HK
    obtain ⟨A', c', rfl, -⟩ := own_slG (k := 2) (enc := encO) (fun _ => rfl) HK.out.own rfl
    have x0 := HK.out.bp.cell 0
    have x1 := HK.out.bp.cell 1
    have x2 := HK.out.bp.cell 2
    have x3 := HK.out.bp.lt
    have y0 := HK.out.b1.cell 0
    have y1 := HK.out.b1.cell 1
    have y2 := HK.out.b1.cell 2
    have y3 := HK.out.b1.frozen 0
    have y4 := HK.out.b1.frozen 1
    have y5 := HK.out.b1.frozen 2
    have y6 := HK.out.b1.lt
    clear hK hiq hlt
    go_wp2
    have hzf := ((HK.out.b1.set 0 (.slice SA sn sc)).set 1 (.slice PA pn pc)).set 2 (.slice A' O.length c')
    have s0 := hzf.cell 0
    have s1 := hzf.cell 1
    have s2 := hzf.cell 2
    have hn1 := HK.out.b1.notRow HK.out.own (by decide)
    refine bodyPost_ret (v := .agg #[.slice SA sn sc, .slice PA pn pc, .slice A' O.length c']) ?_ rfl ⟨A', c', rfl, ?_, ?_⟩
    · simp [results, Try.results82, go_sem, s0, s1, s2]
    · exact ((HK.out.bel.setCell (p := ⟨w.heap.size, 0, none⟩) (Nat.le_refl _) _).setCell (p := ⟨w.heap.size, 1, none⟩) (Nat.le_refl _) _).setCell (p := ⟨w.heap.size, 2, none⟩) (Nat.le_refl _) _
    · exact own_other (own_other (own_other HK.out.own ⟨w.heap.size, 0, none⟩ hn1 (.slice SA sn sc)) ⟨w.heap.size, 1, none⟩ hn1 (.slice PA pn pc)) ⟨w.heap.size, 2, none⟩ hn1 (.slice A' O.length c')
end Go.Proofs.Ytmfiggbobaihcaa
