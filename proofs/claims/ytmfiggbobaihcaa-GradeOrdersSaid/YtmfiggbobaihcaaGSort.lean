/- slices.SortStableFunc of numbers of orders; lists of numbers of the call's own. -/
import Derived.Test.YtmfiggbobaihcaaGNum
namespace Go.Proofs.Ytmfiggbobaihcaa
open Go.RowKit Go.Shelf

/-- The numbers up to i are in order, but for that at j, which belongs before all behind it. -/
structure Ins (cf : Nat → Nat → Int) (i j : Nat) (l : List Nat) : Prop where
  le : ∀ p q x y, p < q → q ≤ i → p ≠ j → q ≠ j → l[p]? = some x → l[q]? = some y → cf x y ≤ 0
  lt : ∀ q x y, j < q → q ≤ i → l[j]? = some x → l[q]? = some y → cf x y ≤ 0
def Srt (cf : Nat → Nat → Int) (i : Nat) (l : List Nat) : Prop := ∀ p q x y, p < q → q < i → l[p]? = some x → l[q]? = some y → cf x y ≤ 0
def swapL (l : List Nat) (i j x y : Nat) : List Nat := (l.set i y).set j x
theorem swapL_len (l : List Nat) (i j x y : Nat) : (swapL l i j x y).length = l.length := by simp [swapL]
theorem swapL_perm {l : List Nat} {i j x y : Nat} (hi : l[i]? = some x) (hj : l[j]? = some y) : (swapL l i j x y).Perm l := by
  obtain ⟨h1, rfl⟩ := List.getElem?_eq_some_iff.1 hi
  obtain ⟨h2, rfl⟩ := List.getElem?_eq_some_iff.1 hj
  exact List.set_set_perm h1 h2
theorem swapL_get {l : List Nat} {j x y : Nat} (hi : l[j + 1]? = some x) (hj : l[j]? = some y) (p : Nat) : (swapL l (j + 1) j x y)[p]? = if p = j then some x else if p = j + 1 then some y else l[p]? := by
  have h1 := (List.getElem?_eq_some_iff.1 hi).1
  have h2 := (List.getElem?_eq_some_iff.1 hj).1
  unfold swapL
  rw [List.getElem?_set, List.getElem?_set]
  simp only [List.length_set]
  by_cases e : p = j
  · subst e; simp [h2]
  · by_cases e2 : p = j + 1
    · subst e2
      simp [h1]
    · rw [if_neg (fun h => e h.symm), if_neg (fun h => e2 h.symm), if_neg e, if_neg e2]
theorem Ins.start {cf : Nat → Nat → Int} {i : Nat} {l : List Nat} (h : Srt cf i l) : Ins cf i i l :=
  ⟨fun p q x y h1 h2 _ h4 hx hy => h p q x y h1 (by omega) hx hy, fun q x y h1 h2 => by omega⟩
theorem Ins.swap {cf : Nat → Nat → Int} (hsym : ∀ x y, cf x y < 0 → cf x y ≤ 0) {i j : Nat} {l : List Nat} (h : Ins cf i (j + 1) l) (hji : j + 1 ≤ i) {x y : Nat} (hx : l[j + 1]? = some x) (hy : l[j]? = some y) (hc : cf x y < 0) : Ins cf i j (swapL l (j + 1) j x y) := by
  refine ⟨fun p q u v h1 h2 h3 h4 hu hv => ?_, fun q u v h1 h2 hu hv => ?_⟩
  · rw [swapL_get hx hy] at hu hv
    rw [if_neg h3] at hu
    rw [if_neg h4] at hv
    by_cases e1 : p = j + 1
    · subst e1
      rw [if_pos rfl] at hu
      rw [if_neg (by omega)] at hv
      cases hu
      exact h.le j q y v (by omega) h2 (by omega) (by omega) hy hv
    · rw [if_neg e1] at hu
      by_cases e2 : q = j + 1
      · subst e2
        rw [if_pos rfl] at hv
        cases hv
        exact h.le p j u y (by omega) (by omega) e1 (by omega) hu hy
      · rw [if_neg e2] at hv
        exact h.le p q u v h1 h2 e1 e2 hu hv
  · rw [swapL_get hx hy] at hu hv
    rw [if_pos rfl] at hu
    rw [if_neg (by omega)] at hv
    cases hu
    by_cases e2 : q = j + 1
    · subst e2
      rw [if_pos rfl] at hv
      cases hv
      exact hsym _ _ hc
    · rw [if_neg e2] at hv
      exact h.lt q x v (by omega) h2 hx hv
theorem Ins.done {cf : Nat → Nat → Int} {i j : Nat} {l : List Nat} (h : Ins cf i j l) (htr : ∀ x y z, cf x y ≤ 0 → cf y z ≤ 0 → cf x z ≤ 0) (hil : i < l.length) (hc : ∀ k x y, j = k + 1 → l[j]? = some x → l[k]? = some y → cf y x ≤ 0) : Srt cf (i + 1) l := by
  intro p q x y h1 h2 hx hy
  by_cases e1 : p = j
  · subst e1; exact h.lt q x y h1 (by omega) hx hy
  · by_cases e2 : q = j
    · subst e2
      obtain ⟨k, rfl⟩ : ∃ k, q = k + 1 := ⟨q - 1, by omega⟩
      obtain ⟨z, hz⟩ : ∃ z, l[k]? = some z := ⟨l[k]'(by omega), List.getElem?_eq_getElem (by omega)⟩
      have h3 := hc k y z rfl hy hz
      by_cases e3 : p = k
      · subst e3
        rw [hx] at hz; cases hz
        exact h3
      · exact htr x z y (h.le p k x z (by omega) (by omega) e1 (by omega) hx hz) h3
    · exact h.le p q x y h1 (by omega) e1 e2 hx hy

/-! ### The row that is sorted -/
def encN (n : Nat) : Value := .int .i64 (n : Int)
def lArr (l : List Nat) (tail : List Value) : Array Value := (l.map encN ++ tail).toArray
theorem lArr_get {l : List Nat} {tail : List Value} {j x : Nat} (h : l[j]? = some x) : (lArr l tail)[j]? = some (.int .i64 (x : Int)) := by
  have hj := (List.getElem?_eq_some_iff.1 h).1
  simp only [lArr, List.getElem?_toArray]
  rw [List.getElem?_append_left (by simpa using hj), List.getElem?_map, h]; rfl
theorem lArr_set {l : List Nat} {tail : List Value} {j : Nat} (h : j < l.length) (x : Nat) : (lArr l tail).setIfInBounds j (.int .i64 (x : Int)) = lArr (l.set j x) tail := by
  unfold lArr
  rw [List.setIfInBounds_toArray, List.set_append_left _ _ (by simpa using h), List.map_set]; rfl
structure SR (w W : World) (b : Nat) (l : List Nat) (tail : List Value) : Prop where
  gr : w.grownBy W (some b)
  blk : Blk W b 3 (lArr l tail)
section
variable {w W W' : World} {b : Nat} {l : List Nat} {tail : List Value}
theorem SR.later (h : SR w W b l tail) (hb : Below W.heap.size W W') : SR w W' b l tail :=
  ⟨⟨hb.os.trans h.gr.os, hb.tape.trans h.gr.tape, hb.output.trans h.gr.output, Nat.le_trans h.gr.size hb.size, fun k hk hne => (hb.block k (Nat.lt_of_lt_of_le hk h.gr.size)).trans (h.gr.block k hk hne)⟩, h.blk.later hb⟩
theorem SR.set (h : SR w W b l tail) {j : Nat} (hj : j < l.length) (x : Nat) : SR w (W.setCell ⟨b, j, none⟩ (.int .i64 (x : Int))) b (l.set j x) tail := by
  refine ⟨⟨h.gr.os, h.gr.tape, h.gr.output, by have := h.gr.size; simp [World.setCell]; omega, fun k hk hne => ?_⟩, ?_⟩
  · exact (Below.heap_setCell W ⟨b, j, none⟩ _ k (fun e => hne (by simp at e; simp [e]))).trans (h.gr.block k hk hne)
  · have h1 := h.blk.set j (.int .i64 (x : Int))
    rw [lArr_set hj] at h1
    exact h1
end

set_option maxRecDepth 100000 in
set_option maxHeartbeats 4000000 in
theorem insSort_any (g : Nat) (lb : Array Value) (eg : ∀ args w, (callFunc g args).run Try.prog w = .ok (.enter g args) w) (cf : Nat → Nat → Int) (b c : Nat) (l : List Nat) (tail : List Value) (w : World) (hb : Blk w b 3 (lArr l tail)) (hl : l.length ≤ 20)
    (htr : ∀ x y z, cf x y ≤ 0 → cf y z ≤ 0 → cf x z ≤ 0) (hsym : ∀ x y, 0 ≤ cf x y → cf y x ≤ 0)
    (hc : ∀ x y W, x ∈ l → y ∈ l → w.grownBy W (some b) → Calls Try.prog g (#[.int .i64 (x : Int), .int .i64 (y : Int)] ++ lb) W fun e W' => e = .returned (.int .i64 (cf x y)) ∧ Below W.heap.size W W') :
    Calls Try.prog 95 #[.slice (some ⟨b, 0, none⟩) l.length c, .int .i64 0, .int .i64 (l.length : Nat), .func (.func g) #[] lb] w fun e w' => e = .returned (.tuple #[]) ∧ ∃ l', l'.Perm l ∧ Srt cf l'.length l' ∧ SR w w' b l' tail := by
  have Hc := Lib.hid hc
  have Htr := Lib.hid htr
  have Hsym := Lib.hid hsym
  have HS := Lib.hid (show SR w w b l tail from ⟨World.grownBy.refl w _, hb⟩)
  clear hc htr hsym hb
  obtain ⟨n, hn⟩ : ∃ n, l.length = n := ⟨_, rfl⟩
  have Hn := Lib.hid hn
  rw [hn] at hl ⊢
  clear hn
  go_enter Try.func95, Try.ntmps95
  go_wp2_with fail
  refine loop_n (fun m a W => a.defers = [] ∧ ∃ (i : Nat) (l1 : List Nat), 1 ≤ i ∧ i + m = n + 1 ∧ l1.Perm l ∧ Hid (Srt cf i l1) ∧ SR w W b l1 tail ∧ Fits (some (.slice (some ⟨b, 0, none⟩) n c) :: some (.int .i64 0) :: some (.int .i64 (n : Nat)) :: some (.func (.func g) #[] lb) :: none :: none :: none :: none :: some (.int .i64 (i : Nat)) :: none :: none :: none :: none :: none :: none :: none :: none :: none :: none :: none :: none :: none :: none :: none :: none :: none :: none :: none :: none :: none :: none :: none :: none :: none :: none :: none :: none :: none :: none :: none :: none :: none :: none :: none :: none :: none :: none :: none :: none :: none :: none :: none :: none :: []) a.tmps.toList) n ?_ ?_
  · refine ⟨rfl, 1, l, by omega, by omega, List.Perm.refl _, Lib.hid (fun p q x y h1 h2 => by omega), HS.out, ?_⟩
    repeat (first | exact fits_nil | refine fits_none ?_ | refine fits_some ?_)
  clear HS
  intro m a W hI K hK
  obtain ⟨hds, i, l1, hi1, him, hp, hsr, hS, hfit⟩ := hI
  obtain ⟨f, hf⟩ := fits_act hfit
  rw [hds] at hf
  subst hf
  clear hfit hds
  simp only [fillP, Nat.reduceAdd]
  have HS := Lib.hid hS
  have Hp := Lib.hid hp
  have Hll := Lib.hid (show l1.length = n by rw [hp.length_eq]; exact Hn.out)
  clear hp
  by_cases hlt : i < n
  · have i1 : (i : Int) < (n : Int) := by omega
    have i3 : IntKind.i64.wrap ((i : Int) + 1) = (i : Int) + 1 := by rw [IntKind.wrap_i64]; omega
    clear hS
    go_wp2_with fail
    refine loop_n (fun r a W => a.defers = [] ∧ ∃ (j : Nat) (l2 : List Nat), j ≤ r ∧ j ≤ i ∧ l2.Perm l ∧ Hid (Ins cf i j l2) ∧ SR w W b l2 tail ∧ Fits (some (.slice (some ⟨b, 0, none⟩) n c) :: some (.int .i64 0) :: some (.int .i64 (n : Nat)) :: some (.func (.func g) #[] lb) :: none :: none :: none :: none :: some (.int .i64 (i : Nat)) :: some (.int .i64 (j : Nat)) :: none :: none :: none :: none :: none :: none :: none :: none :: none :: none :: none :: none :: none :: none :: none :: none :: none :: none :: none :: none :: none :: none :: none :: none :: none :: none :: none :: none :: none :: none :: none :: none :: none :: none :: none :: none :: none :: none :: none :: none :: none :: none :: none :: []) a.tmps.toList) i ?_ ?_
    · refine ⟨rfl, i, l1, Nat.le_refl _, Nat.le_refl _, Hp.out, Lib.hid (Ins.start hsr.out), HS.out, ?_⟩
      repeat (first | exact fits_nil | refine fits_none ?_ | refine fits_some ?_)
    clear HS Hp Hll hsr
    clear W l1
    intro r a W hI K2 hK2
    obtain ⟨hds, j, l2, hjr, hji, hp, hin, hS, hfit⟩ := hI
    obtain ⟨f, hf⟩ := fits_act hfit
    rw [hds] at hf
    subst hf
    clear hfit hds
    simp only [fillP, Nat.reduceAdd]
    have HS := Lib.hid hS
    have Hp := Lib.hid hp
    have Hll := Lib.hid (show l2.length = n by rw [hp.length_eq]; exact Hn.out)
    clear hp
    cases j with
    | zero =>
      have hdone := Lib.hid (hin.out.done Htr.out (by rw [Hll.out]; omega) (fun k x y h => by omega))
      clear hK2 hin hS
      go_wp2_with fail
      refine dag 17 (by kernel_rfl) (by kernel_rfl) (.is ?_ :: .is ?_ :: .is ?_ :: .is ?_ :: .is ?_ :: .is ?_ :: .is ?_ :: .is ?_ :: .is ?_ :: .is ?_ :: .is ?_ :: .is ?_ :: .is ?_ :: .is ?_ :: .is ?_ :: .is ?_ :: .is ?_ :: []) rfl ?st1 ?ob1
      case st1 => simp [Spec.ok]
      case ob1 =>
        intro env W' hG
        obtain ⟨hc, hf⟩ := bcell hG
        repeat (refine obls_is ?_ ?_; unfold doesAt; go_simp; (try go_bits); (first | (refine ⟨brefl _, ?_⟩; rfl) | rfl); intro K hK; go_simp; refine hK _ ?_; clear hK K)
        refine obls_nil (fun _ => ?_)
        have HS2 := Lib.hid (HS.out.later hG)
        clear hc hf hG
        go_wp2
        refine hK _ _ (m - 1) (by omega) ⟨rfl, i + 1, l2, by omega, by omega, Hp.out, hdone, HS2.out, ?_⟩
        repeat (first | exact fits_nil | refine fits_none ?_ | refine fits_some ?_)
    | succ k =>
      obtain ⟨x, hx⟩ : ∃ x, l2[k + 1]? = some x := ⟨_, List.getElem?_eq_getElem (by rw [Hll.out]; omega)⟩
      obtain ⟨y, hy⟩ : ∃ y, l2[k]? = some y := ⟨_, List.getElem?_eq_getElem (by rw [Hll.out]; omega)⟩
      have c0 := (hS.blk.cell (k + 1)).trans (lArr_get hx)
      have c1 := (hS.blk.cell k).trans (lArr_get hy)
      have c2 := hS.blk.lt
      have c3 := hS.blk.frozen (k + 1)
      have c4 := hS.blk.frozen k
      have hcm := Hc.out x y
      have i4 : IntKind.i64.wrap ((k : Int) + 1 - 1) = (k : Int) := by rw [IntKind.wrap_i64]; omega
      have i5 : (k : Int) + 1 < (n : Int) := by omega
      have i6 : (k : Int) < (n : Int) := by omega
      have i7 : (0 : Int) ≤ (k : Int) := by omega
      have i8 : (0 : Int) ≤ (k : Int) + 1 := by omega
      have i9 : ((k : Int) + 1).toNat = k + 1 := by omega
      have i10 : (0 : Int) < (k : Int) + 1 := by omega
      have HS := Lib.hid hS
      have Hcm := Lib.hid (fun W (h : w.grownBy W (some b)) => Hc.out x y W ((Hp.out.mem_iff).1 (List.mem_of_getElem? hx)) ((Hp.out.mem_iff).1 (List.mem_of_getElem? hy)) h)
      have Hx := Lib.hid hx
      have Hy := Lib.hid hy
      have Hin := Lib.hid hin.out
      clear hS hin hx hy hcm
      cases hd : decide (cf x y < 0) with
      | true =>
        have Hd := Lib.hid (of_decide_eq_true hd)
        go_wp2_with fail
        refine dag 17 (by kernel_rfl) (by kernel_rfl) (.is ?_ :: .is ?_ :: .is ?_ :: .is ?_ :: .is ?_ :: .is ?_ :: .is ?_ :: .is ?_ :: .is ?_ :: .is ?_ :: .is ?_ :: .is ?_ :: .is ?_ :: .is ?_ :: .is ?_ :: .is ?_ :: .is ?_ :: []) rfl ?st2 ?ob2
        case st2 => simp [Spec.ok]
        case ob2 =>
          intro env W' hG
          obtain ⟨hc, hf⟩ := bcell hG
          iterate 14 (refine obls_is ?_ ?_; unfold doesAt; go_simp; (try go_bits); (first | (refine ⟨brefl _, ?_⟩; rfl) | rfl); intro K hK; go_simp; refine hK _ ?_; clear hK K)
          refine obls_is ?_ ?_
          · unfold doesAt
            go_simp
            refine (Hcm.out W' (HS.out.later hG).gr).mono ?_
            rintro e w1 ⟨rfl, hb1⟩
            refine ⟨?_, hb1⟩
            rfl
          intro K hK
          go_simp
          refine hK _ ?_
          clear hK K
          repeat (refine obls_is ?_ ?_; unfold doesAt; go_simp; (try go_bits); (first | (refine ⟨brefl _, ?_⟩; rfl) | rfl); intro K hK; go_simp; refine hK _ ?_; clear hK K)
          refine obls_nil (fun _ => ?_)
          have hS2 := HS.out.later hG
          have d0 := (hS2.blk.cell (k + 1)).trans (lArr_get Hx.out)
          have d1 := (hS2.blk.cell k).trans (lArr_get Hy.out)
          have d2 := hS2.blk.lt
          have d3 := hS2.blk.frozen (k + 1)
          have d4 := hS2.blk.frozen k
          have hS3 := (hS2.set (j := k + 1) (by rw [Hll.out]; omega) y).set (j := k) (by simp; rw [Hll.out]; omega) x
          have HS3 := Lib.hid hS3
          clear hc hf hG hS2 hS3 c0 c1 c2 c3 c4
          go_wp2_with fail
          go_region
          go_wp2
          refine hK2 _ _ k (by omega) ⟨rfl, k, _, Nat.le_refl _, by omega, (swapL_perm Hx.out Hy.out).trans Hp.out, Lib.hid (Hin.out.swap (fun x y h => by omega) (by omega) Hx.out Hy.out Hd.out), HS3.out.later (brefl _).drew, ?_⟩
          repeat (first | exact fits_nil | refine fits_none ?_ | refine fits_some ?_)
      | false =>
        have Hd := Lib.hid (of_decide_eq_false hd)
        have hdone := Lib.hid (Hin.out.done Htr.out (by rw [Hll.out]; omega) (fun k' x' y' h hx' hy' => by
          obtain rfl : k' = k := by omega
          rw [Hx.out] at hx'; rw [Hy.out] at hy'
          cases hx'; cases hy'
          have := Hd.out
          exact Hsym.out _ _ (by omega)))
        clear hK2
        go_wp2_with fail
        refine dag 17 (by kernel_rfl) (by kernel_rfl) (.is ?_ :: .is ?_ :: .is ?_ :: .is ?_ :: .is ?_ :: .is ?_ :: .is ?_ :: .is ?_ :: .is ?_ :: .is ?_ :: .is ?_ :: .is ?_ :: .is ?_ :: .is ?_ :: .is ?_ :: .is ?_ :: .is ?_ :: []) rfl ?st3 ?ob3
        case st3 => simp [Spec.ok]
        case ob3 =>
          intro env W' hG
          obtain ⟨hc, hf⟩ := bcell hG
          iterate 14 (refine obls_is ?_ ?_; unfold doesAt; go_simp; (try go_bits); (first | (refine ⟨brefl _, ?_⟩; rfl) | rfl); intro K hK; go_simp; refine hK _ ?_; clear hK K)
          refine obls_is ?_ ?_
          · unfold doesAt
            go_simp
            refine (Hcm.out W' (HS.out.later hG).gr).mono ?_
            rintro e w1 ⟨rfl, hb1⟩
            refine ⟨?_, hb1⟩
            rfl
          intro K' hK'
          go_simp
          refine hK' _ ?_
          clear hK' K'
          repeat (refine obls_is ?_ ?_; unfold doesAt; go_simp; (try go_bits); (first | (refine ⟨brefl _, ?_⟩; rfl) | rfl); intro K hK; go_simp; refine hK _ ?_; clear hK K)
          refine obls_nil (fun _ => ?_)
          have HS2 := Lib.hid (HS.out.later hG)
          clear hc hf hG
          go_wp2
          refine hK _ _ (m - 1) (by omega) ⟨rfl, i + 1, l2, by omega, by omega, Hp.out, hdone, HS2.out, ?_⟩
          repeat (first | exact fits_nil | refine fits_none ?_ | refine fits_some ?_)
  · have hin : n ≤ i := by omega
    have HE := Lib.hid (show Srt cf l1.length l1 from fun p q x y h1 h2 => hsr.out p q x y h1 (by rw [Hll.out] at h2; omega))
    clear hK hS
    go_wp2
    go_end0
    exact ⟨rfl, l1, Hp.out, HE.out, HS.out⟩

set_option maxRecDepth 100000 in
set_option maxHeartbeats 4000000 in
theorem stableCmp_any (g : Nat) (lb : Array Value) (eg : ∀ args w, (callFunc g args).run Try.prog w = .ok (.enter g args) w) (cf : Nat → Nat → Int) (b c : Nat) (l : List Nat) (tail : List Value) (w : World) (hb : Blk w b 3 (lArr l tail)) (hl : l.length < 20)
    (htr : ∀ x y z, cf x y ≤ 0 → cf y z ≤ 0 → cf x z ≤ 0) (hsym : ∀ x y, 0 ≤ cf x y → cf y x ≤ 0)
    (hc : ∀ x y W, x ∈ l → y ∈ l → w.grownBy W (some b) → Calls Try.prog g (#[.int .i64 (x : Int), .int .i64 (y : Int)] ++ lb) W fun e W' => e = .returned (.int .i64 (cf x y)) ∧ Below W.heap.size W W') :
    Calls Try.prog 93 #[.slice (some ⟨b, 0, none⟩) l.length c, .int .i64 (l.length : Nat), .func (.func g) #[] lb] w fun e w' => e = .returned (.tuple #[]) ∧ ∃ l', l'.Perm l ∧ Srt cf l'.length l' ∧ SR w w' b l' tail := by
  have H := Lib.hid (insSort_any g lb eg cf b c l tail w hb (by omega) htr hsym hc)
  obtain ⟨n, hn⟩ : ∃ n, l.length = n := ⟨_, rfl⟩
  rw [hn] at hl H ⊢
  have i1 : (n : Int) < 20 := by omega
  have i2 : ¬ (20 : Int) ≤ (n : Int) := by omega
  have i3 : ¬ (20 : Int) < (n : Int) := by omega
  clear hb hc htr hsym hn
  go_enter Try.func93, Try.ntmps93
  go_wp2_with fail
  refine wp_loop_rounds 1 ?_
  rw [rounds_succ]
  go_wp2_with fail
  refine H.out.mono ?_
  rintro e w1 ⟨rfl, hR⟩
  have HR := Lib.hid hR
  clear hR
  go_wp2_with fail
  refine wp_loop_rounds 1 ?_
  rw [rounds_succ]
  go_wp2
  go_end0
  exact ⟨rfl, HR.out⟩
set_option maxHeartbeats 4000000 in
theorem sortStable_any (g : Nat) (lb : Array Value) (eg : ∀ args w, (callFunc g args).run Try.prog w = .ok (.enter g args) w) (cf : Nat → Nat → Int) (b c : Nat) (l : List Nat) (tail : List Value) (w : World) (hb : Blk w b 3 (lArr l tail)) (hl : l.length < 20)
    (htr : ∀ x y z, cf x y ≤ 0 → cf y z ≤ 0 → cf x z ≤ 0) (hsym : ∀ x y, 0 ≤ cf x y → cf y x ≤ 0)
    (hc : ∀ x y W, x ∈ l → y ∈ l → w.grownBy W (some b) → Calls Try.prog g (#[.int .i64 (x : Int), .int .i64 (y : Int)] ++ lb) W fun e W' => e = .returned (.int .i64 (cf x y)) ∧ Below W.heap.size W W') :
    Calls Try.prog 88 #[.slice (some ⟨b, 0, none⟩) l.length c, .func (.func g) #[] lb] w fun e w' => e = .returned (.tuple #[]) ∧ ∃ l', l'.Perm l ∧ Srt cf l'.length l' ∧ SR w w' b l' tail := by
  have H := Lib.hid (stableCmp_any g lb eg cf b c l tail w hb hl htr hsym hc)
  clear hb hc htr hsym
  go_enter Try.func88, Try.ntmps88
  go_wp2_with fail
  refine H.out.mono ?_
  rintro e w1 ⟨rfl, hR⟩
  have HR := Lib.hid hR
  clear hR
  go_wp2
  go_end0
  exact ⟨rfl, HR.out⟩
set_option maxHeartbeats 1000000 in
theorem insSort_nil (f : Value) (w : World) :
    Calls Try.prog 95 #[.slice none 0 0, .int .i64 0, .int .i64 0, f] w fun e w' => e = .returned (.tuple #[]) ∧ Below w.heap.size w w' := by
  go_enter Try.func95, Try.ntmps95
  go_wp2_with fail
  refine wp_loop_rounds 1 ?_
  rw [rounds_succ]
  go_wp2
  go_end0
  exact ⟨rfl, brefl _⟩
set_option maxHeartbeats 1000000 in
theorem stableCmp_nil (f : Value) (w : World) :
    Calls Try.prog 93 #[.slice none 0 0, .int .i64 0, f] w fun e w' => e = .returned (.tuple #[]) ∧ Below w.heap.size w w' := by
  go_enter Try.func93, Try.ntmps93
  go_wp2_with fail
  refine wp_loop_rounds 1 ?_
  rw [rounds_succ]
  go_wp2_with fail
  refine (insSort_nil f _).mono ?_
  rintro e w1 ⟨rfl, hR⟩
  have HR := Lib.hid hR
  clear hR
  go_wp2_with fail
  refine wp_loop_rounds 1 ?_
  rw [rounds_succ]
  go_wp2
  go_end0
  exact ⟨rfl, HR.out⟩
set_option maxHeartbeats 1000000 in
/-- No number at all: a nil slice. -/
theorem sortStable_nil (f : Value) (w : World) :
    Calls Try.prog 88 #[.slice none 0 0, f] w fun e w' => e = .returned (.tuple #[]) ∧ Below w.heap.size w w' := by
  go_enter Try.func88, Try.ntmps88
  go_wp2_with fail
  refine (stableCmp_nil f _).mono ?_
  rintro e w1 ⟨rfl, hR⟩
  have HR := Lib.hid hR
  clear hR
  go_wp2
  go_end0
  exact ⟨rfl, HR.out⟩
/-- A list of numbers in a block that is known whole. -/
def LeftV (W : World) (base : Nat) (l : List Nat) (v : Value) : Prop :=
  (l = [] ∧ v = .slice none 0 0) ∨ ∃ g cap tail, v = .slice (some ⟨g, 0, none⟩) l.length cap ∧ (base ≤ g ∧ l.length ≤ cap) ∧ Blk W g 3 (lArr l tail)
theorem LeftV.later {W W' : World} {base : Nat} {l : List Nat} {v : Value} (h : LeftV W base l v) (hb : Below W.heap.size W W') : LeftV W' base l v := by
  rcases h with h | ⟨g, cap, tail, h1, h2, h3⟩
  · exact .inl h
  · exact .inr ⟨g, cap, tail, h1, h2, h3.later hb⟩
theorem LeftV.grown {W W' : World} {base : Nat} {l : List Nat} {v : Value} {row : Option Nat} (h : LeftV W base l v) (hg : W.grownBy W' row) (hne : ∀ g, v.ownBlock = some g → row ≠ some g) : LeftV W' base l v := by
  rcases h with h | ⟨g, cap, tail, rfl, h2, h3⟩
  · exact .inl h
  · exact .inr ⟨g, cap, tail, rfl, h2, h3.grown hg (hne g rfl)⟩
theorem LeftV.own {W : World} {base : Nat} {l : List Nat} {v : Value} (h : W.ownsRow base 3 1 v l.length (l.map encN)) : LeftV W base l v := by
  rcases h.2 with ⟨rfl, h0⟩ | ⟨g, cap, cur, rfl, h1, hg, hc, _, _, ht⟩
  · exact .inl ⟨List.eq_nil_of_length_eq_zero h0, rfl⟩
  · refine .inr ⟨g, cap, cur.toList.drop l.length, rfl, ⟨h1, hc⟩, ?_⟩
    unfold Blk
    rw [hg]
    congr 2
    unfold lArr
    rw [Nat.mul_one] at ht
    rw [← ht, List.take_append_drop]
theorem LeftV.at_ {W : World} {base : Nat} {l : List Nat} {v : Value} (h : LeftV W base l v) {i : Nat} (hi : i < l.length) : ∃ g cap x, v = .slice (some ⟨g, 0, none⟩) l.length cap ∧ base ≤ g ∧ g < W.heap.size ∧ l[i]? = some x ∧ W.cell? ⟨g, i, none⟩ = some (.int .i64 (x : Int)) := by
  rcases h with ⟨rfl, _⟩ | ⟨g, cap, tail, rfl, h2, h3⟩
  · simp at hi
  · have hx := List.getElem?_eq_getElem hi
    exact ⟨g, cap, _, rfl, h2.1, h3.lt, hx, (h3.cell i).trans (lArr_get hx)⟩
end Go.Proofs.Ytmfiggbobaihcaa
