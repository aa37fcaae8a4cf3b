/- clip.within and clip.CheckRibbon, clip.CheckKinds. -/
import Derived.Test.YtjmphmnimnbgkaaIndex
namespace Go.Proofs.Ytjmphmnimnbgkaa
open Go.RowKit Go.Shelf

def outB (lo hi x : Int) : Bool := decide (x < lo) || decide (hi < x)
@[irreducible] def outR (lo hi x : Int) : Bool := outB lo hi x
theorem outR_eq (lo hi x : Int) : outR lo hi x = outB lo hi x := by unfold outR; rfl

set_option maxHeartbeats 400000 in
theorem withinC (B1 B2 : Nat) (lo hi x : Int) (w : World) (h1 : w.cell? ⟨B1, 0, none⟩ = some (.int .i64 lo)) (h2 : w.cell? ⟨B2, 0, none⟩ = some (.int .i64 hi)) :
    Calls Try.prog 76 #[.int .i64 x, .pointer (some ⟨B1, 0, none⟩), .pointer (some ⟨B2, 0, none⟩)] w fun e w' => e = .returned (.bool (outR lo hi x)) ∧ Below w.heap.size w w' := by
  have H := Lib.hid (outR_eq lo hi x)
  by_cases c1 : x < lo
  · go_enter Try.func76, Try.ntmps76
    go_wp2
    go_ret
    exact ⟨ret_bool (by rw [H.out]; simp [outB, c1]), Below.refl _ _⟩
  · by_cases c2 : hi < x
    · go_enter Try.func76, Try.ntmps76
      go_wp2
      go_ret
      exact ⟨ret_bool (by rw [H.out]; simp [outB, c2]), Below.refl _ _⟩
    · go_enter Try.func76, Try.ntmps76
      go_wp2
      go_ret
      exact ⟨ret_bool (by rw [H.out]; simp [outB, c1, c2]), Below.refl _ _⟩

set_option maxHeartbeats 400000 in
theorem within_any (lo hi : Int) (A : Option Addr) (n c : Nat) (xs : List Int) (w : World) (hs : Sl 1 encI w w.heap.size A n c xs) :
    Calls Try.prog 55 #[.int .i64 lo, .int .i64 hi, .slice A n c] w fun e w' => e = .returned (.bool (!(xs.any (outR lo hi)))) ∧ Below w.heap.size w w' := by
  have Hs := Lib.hid hs
  clear hs
  go_enter Try.func55, Try.ntmps55
  go_wp2_with (go_at_call 75; refine (containsI 76 #[.pointer (some ⟨w.heap.size, 0, none⟩), .pointer (some ⟨w.heap.size + 1, 0, none⟩)] (enters_of Try.func76 (by kernel_rfl) rfl) (outR lo hi) A n c xs _ (Hs.out.later ?_) ?_).mono ?_)
  · exact ((Below.refl _ _).alloc (Nat.le_refl _) _).alloc (by simp) _
  · intro x W _ hb
    exact withinC _ _ lo hi x W ((hb.cell (p := ⟨w.heap.size, 0, none⟩) (by simp; omega)).trans (by go_simp)) ((hb.cell (p := ⟨w.heap.size + 1, 0, none⟩) (by simp)).trans (by go_simp))
  · rintro e w1 ⟨rfl, hb1⟩
    have Hb1 := Lib.hid hb1
    clear hb1
    go_wp2
    go_ret
    exact ⟨rfl, Below.later (((Below.refl _ _).alloc (Nat.le_refl _) _).alloc (by simp) _) Hb1.out⟩

/-- Whether a number is from one to another one. -/
@[irreducible] def inR (lo hi x : Int) : Bool := decide (lo ≤ x) && decide (x ≤ hi)
theorem inR_iff (lo hi x : Int) : inR lo hi x = true ↔ lo ≤ x ∧ x ≤ hi := by unfold inR; simp
theorem inR_no (lo hi x : Int) : inR lo hi x = false ↔ x < lo ∨ hi < x := by
  rw [Bool.eq_false_iff, ne_eq, inR_iff]; omega
theorem inR_any (lo hi x : Int) : (!([x].any (outR lo hi))) = inR lo hi x := by
  rw [Bool.eq_iff_iff, inR_iff]; simp [outR_eq, outB]

theorem Sl.one {w : World} {B b : Nat} {x : Int} (hb : b < B) (h : w.cell? ⟨b, 0, none⟩ = some (.int .i64 x)) : Sl 1 encI w B (some ⟨b, 0, none⟩) 1 1 [x] :=
  ⟨rfl, by omega, by omega, fun _ => ⟨b, 0, rfl, hb, fun i y hy j u hu => by
    match i, hy with
    | 0, rfl => match j, hu with
      | 0, rfl => simpa using h⟩⟩

theorem within_one (lo hi x : Int) (b : Nat) (w : World) (hb : b < w.heap.size) (h : w.cell? ⟨b, 0, none⟩ = some (.int .i64 x)) :
    Calls Try.prog 55 #[.int .i64 lo, .int .i64 hi, .slice (some ⟨b, 0, none⟩) 1 1] w fun e w' => e = .returned (.bool (inR lo hi x)) ∧ Below w.heap.size w w' :=
  (within_any lo hi _ _ _ [x] w (Sl.one hb h)).mono fun _ _ ⟨he, hw⟩ => ⟨by rw [he, inR_any], hw⟩

/-- Fault number j is a unit, and behind the one before it. -/
def gdB (L : Int) (fs : List Int) (j : Nat) : Bool := decide (0 ≤ fs.getD j 0) && decide (fs.getD j 0 < L) && (decide (j = 0) || decide (fs.getD (j - 1) 0 < fs.getD j 0))
/-- The error of a ribbon. -/
def ribE (L : Int) (fs : List Int) : Int := if inR 1 24 L then (if (List.range fs.length).all (gdB L fs) then 0 else 3) else 6

theorem ribE_len {L : Int} {fs : List Int} (h : inR 1 24 L = false) : ribE L fs = 6 := by simp [ribE, h]
theorem ribE_ok {L : Int} {fs : List Int} (h : inR 1 24 L = true) (hg : ∀ j, j < fs.length → gdB L fs j = true) : ribE L fs = 0 := by
  have : (List.range fs.length).all (gdB L fs) = true := by rw [List.all_eq_true]; intro j hj; exact hg j (List.mem_range.1 hj)
  simp [ribE, h, this]
theorem ribE_bad {L : Int} {fs : List Int} (h : inR 1 24 L = true) {j : Nat} (hj : j < fs.length) (hg : gdB L fs j = false) : ribE L fs = 3 := by
  have : (List.range fs.length).all (gdB L fs) = false := by
    rw [List.all_eq_false]; exact ⟨j, List.mem_range.2 hj, by simp [hg]⟩
  simp [ribE, h, this]

/-- What the next fault has to be at least, behind k of them. -/
def nextF (fs : List Int) (k : Nat) : Int := if k = 0 then 0 else fs.getD (k - 1) 0 + 1
theorem nextF_in {L : Int} {fs : List Int} {k : Nat} {x : Int} (hx : fs[k]? = some x) (hg : ∀ j, j < k → gdB L fs j = true) : inR (nextF fs k) (L - 1) x = gdB L fs k := by
  have hd : fs.getD k 0 = x := by simp [List.getD, hx]
  rw [Bool.eq_iff_iff, inR_iff]
  by_cases h0 : k = 0
  · subst h0; unfold gdB; rw [hd]; simp [nextF]; omega
  · have h1 := hg (k - 1) (by omega)
    have hd2 : 0 ≤ fs.getD (k - 1) 0 := by
      simp only [gdB, Bool.and_eq_true, decide_eq_true_eq] at h1; exact h1.1.1
    simp only [nextF, gdB, hd, h0, if_false, Bool.and_eq_true, Bool.or_eq_true, decide_eq_true_eq, false_or]; omega
theorem nextF_bd {L : Int} {fs : List Int} {k : Nat} (hL : inR 1 24 L = true) (hg : ∀ j, j < k → gdB L fs j = true) : 0 ≤ nextF fs k ∧ nextF fs k ≤ 25 := by
  rw [inR_iff] at hL
  by_cases h0 : k = 0
  · subst h0; simp [nextF]
  · have h1 := hg (k - 1) (by omega)
    simp only [gdB, Bool.and_eq_true, decide_eq_true_eq] at h1
    simp only [nextF, h0, if_false]; omega
theorem nextF_succ {fs : List Int} {k : Nat} {x : Int} (hx : fs[k]? = some x) : nextF fs (k + 1) = x + 1 := by
  simp [nextF, List.getD, hx]
theorem gd_succ {L : Int} {fs : List Int} {k : Nat} (h : ∀ j, j < k → gdB L fs j = true) (hk : gdB L fs k = true) : ∀ j, j < k + 1 → gdB L fs j = true := by
  intro j hj
  by_cases e : j = k
  · subst e; exact hk
  · exact h j (by omega)

set_option maxHeartbeats 1000000 in
theorem ribbon_any (L : Int) (A : Option Addr) (n c : Nat) (fs : List Int) (w : World) (hs : Sl 1 encI w w.heap.size A n c fs) :
    Calls Try.prog 20 #[.agg #[.int .i64 L, .slice A n c]] w fun e w' => e = .returned (.int .i64 (ribE L fs)) ∧ Below w.heap.size w w' := by
  have hl := hs.len
  have hcap := hs.cap
  have hbig := hs.big
  cases hL : inR 1 24 L with
  | false =>
    have HE := Lib.hid (ribE_len (fs := fs) hL)
    clear hs
    go_enter Try.func20, Try.ntmps20
    go_wp2_with (go_at_call 55; refine (within_one _ _ L (w.heap.size + 1) _ (by simp) (by go_simp)).mono ?_; rintro e w1 ⟨rfl, hb1⟩)
    go_ret
    exact ⟨ret_int HE.out.symm, Below.later (((Below.refl _ _).alloc (Nat.le_refl _) _).alloc (by simp) _) hb1⟩
  | true =>
    have Hs := Lib.hid hs
    have HL := Lib.hid hL
    obtain ⟨hL1, hL2⟩ := (inR_iff 1 24 L).1 hL
    clear hs
    go_enter Try.func20, Try.ntmps20
    go_wp2_with (go_at_call 55; refine (within_one _ _ L (w.heap.size + 1) _ (by simp) (by go_simp)).mono ?_; rintro e w1 ⟨rfl, hb1⟩; obtain ⟨hc1, hf1⟩ := bcell hb1)
    have hz : w.heap.size < w1.heap.size := by have := hb1.size; simp at this; omega
    have k0 : w1.cell? ⟨w.heap.size, 0, none⟩ = some (.int .i64 L) := by rw [hc1 _ _ (by simp; omega)]; go_simp
    have k1 : w1.cell? ⟨w.heap.size, 1, none⟩ = some (.slice A n c) := by rw [hc1 _ _ (by simp; omega)]; go_simp
    have HB := Lib.hid (Below.later (((Below.refl _ w).alloc (Nat.le_refl _) (Obj.cells #[.int .i64 L, .slice A n c] 24)).alloc (by simp) _) hb1)
    clear hb1 hc1 hf1 hL
    go_wp2_with fail
    go_loopw [3, 14] (fun x i wr => ∃ k : Nat, k ≤ n ∧ x = .int .i64 (nextF fs k) ∧ i = .int .i64 k ∧ (∀ j, j < k → gdB L fs j = true) ∧ Below w1.heap.size w1 wr) (fun _ i _ => n - (intOf i).toNat)
    case atStart => exact ⟨0, by omega, rfl, rfl, by omega, Below.refl _ _⟩
    case round =>
      obtain ⟨k, hk, rfl, rfl, hno, hb⟩ := hrel
      obtain ⟨hc, hf⟩ := bcell hb
      have hzr := hb.size
      have hsz : w.heap.size < wr.heap.size := by omega
      by_cases hlt : k < n
      · obtain ⟨b, o, x, rfl, hB, hx, hc0⟩ := ((Hs.out.below HB.out).below (hb.mono HB.out.size)).ltI hlt
        have hin := nextF_in hx hno
        obtain ⟨hn1, hn2⟩ := nextF_bd HL.out hno
        have HS := Lib.hid (nextF_succ hx)
        have Hno := Lib.hid hno
        have Hb := Lib.hid hb
        clear hno hb hx
        cases hg : gdB L fs k with
        | false =>
          rw [hg] at hin
          have HE := Lib.hid (ribE_bad HL.out (by rw [hl]; exact hlt) hg)
          clear hg
          generalize nextF fs k = nx at *
          go_wp2_with (go_at_call 55; refine (within_one nx _ x wr.heap.size _ (by simp) (by go_simp)).mono ?_; rintro e w2 ⟨rfl, hb2⟩; obtain ⟨hc2, hf2⟩ := bcell hb2)
          go_ret
          exact ⟨ret_int HE.out.symm, Below.later (balloc (Below.later HB.out Hb.out) _) hb2⟩
        | true =>
          rw [hg] at hin
          have Hno1 := Lib.hid (gd_succ Hno.out hg)
          obtain ⟨hx1, hx2⟩ := (inR_iff _ _ _).1 hin
          clear hg
          generalize nextF fs k = nx at *
          go_wp2_with (go_at_call 55; refine (within_one nx _ x wr.heap.size _ (by simp) (by go_simp)).mono ?_; rintro e w2 ⟨rfl, hb2⟩; obtain ⟨hc2, hf2⟩ := bcell hb2)
          go_roundw
          case rel => exact ⟨k + 1, by omega, by rw [HS.out], by go_num, Hno1.out, Below.later (balloc Hb.out _) hb2⟩
          case measure => simp [intOf]; omega
      · obtain rfl : k = n := by omega
        have HE := Lib.hid (ribE_ok HL.out (by rw [hl]; exact hno))
        have Hb := Lib.hid hb
        clear hno hb
        go_wp2
        go_ret
        exact ⟨ret_int HE.out.symm, Below.later HB.out Hb.out⟩

/-- A kind of which a number is not as described. -/
@[irreducible] def badK (x : Kd) : Bool := !inR 1 24 x.w || decide (x.p < 1) || decide (1000 < x.p) || !inR 0 24 x.m
theorem badK_iff (x : Kd) : badK x = false ↔ (1 ≤ x.w ∧ x.w ≤ 24) ∧ (1 ≤ x.p ∧ x.p ≤ 1000) ∧ (0 ≤ x.m ∧ x.m ≤ 24) := by
  unfold badK
  rw [Bool.or_eq_false_iff, Bool.or_eq_false_iff, Bool.or_eq_false_iff]
  simp only [Bool.not_eq_false', inR_iff, decide_eq_false_iff_not]
  omega
theorem badK_of1 {x : Kd} (h : inR 1 24 x.w = false) : badK x = true := by unfold badK; simp [h]
theorem badK_of2 {x : Kd} (h : x.p < 1) : badK x = true := by unfold badK; simp [h]
theorem badK_of3 {x : Kd} (h : 1000 < x.p) : badK x = true := by unfold badK; simp [h]
theorem badK_of4 {x : Kd} (h : inR 0 24 x.m = false) : badK x = true := by unfold badK; simp [h]

set_option maxHeartbeats 1000000 in
theorem stray_any (x : Kd) (w : World) :
    Calls Try.prog 61 #[.agg #[.int .i64 x.w, .int .i64 x.p, .int .i64 x.m]] w fun e w' => e = .returned (.bool (badK x)) ∧ Below w.heap.size w w' := by
  obtain ⟨kw, kp, km⟩ := x
  cases h1 : inR 1 24 kw with
  | false =>
    have HE := Lib.hid (badK_of1 (x := ⟨kw, kp, km⟩) h1)
    go_enter Try.func61, Try.ntmps61
    go_wp2_with (go_at_call 55; refine (within_one _ _ kw (w.heap.size + 1) _ (by simp) (by go_simp)).mono ?_; rintro e w1 ⟨rfl, hb1⟩)
    go_ret
    exact ⟨ret_bool HE.out.symm, Below.later (balloc (balloc (brefl _) _) _) hb1⟩
  | true =>
    by_cases h2 : kp < 1
    · have HE := Lib.hid (badK_of2 (x := ⟨kw, kp, km⟩) h2)
      go_enter Try.func61, Try.ntmps61
      go_wp2_with (go_at_call 55; refine (within_one _ _ kw (w.heap.size + 1) _ (by simp) (by go_simp)).mono ?_; rintro e w1 ⟨rfl, hb1⟩; obtain ⟨hc1, hf1⟩ := bcell hb1)
      go_ret
      exact ⟨ret_bool HE.out.symm, Below.later (balloc (balloc (brefl _) _) _) hb1⟩
    · by_cases h3 : 1000 < kp
      · have HE := Lib.hid (badK_of3 (x := ⟨kw, kp, km⟩) h3)
        go_enter Try.func61, Try.ntmps61
        go_wp2_with (go_at_call 55; refine (within_one _ _ kw (w.heap.size + 1) _ (by simp) (by go_simp)).mono ?_; rintro e w1 ⟨rfl, hb1⟩; obtain ⟨hc1, hf1⟩ := bcell hb1)
        go_ret
        exact ⟨ret_bool HE.out.symm, Below.later (balloc (balloc (brefl _) _) _) hb1⟩
      · cases h4 : inR 0 24 km with
        | false =>
          have HE := Lib.hid (badK_of4 (x := ⟨kw, kp, km⟩) h4)
          go_enter Try.func61, Try.ntmps61
          go_wp2_with fail
          refine (within_one 1 24 kw (w.heap.size + 1) _ (by simp) (by go_simp)).mono ?_
          rintro e w1 ⟨rfl, hb1⟩
          obtain ⟨hc1, hf1⟩ := bcell hb1
          go_wp2_with fail
          refine (within_one 0 24 km w1.heap.size _ (by simp) (by go_simp)).mono ?_
          rintro e w2 ⟨rfl, hb2⟩
          go_wp2_with fail
          go_ret
          exact ⟨ret_bool HE.out.symm, Below.later (balloc (Below.later (balloc (balloc (brefl _) _) _) hb1) _) hb2⟩
        | true =>
          have HE := Lib.hid ((badK_iff ⟨kw, kp, km⟩).2 ⟨(inR_iff _ _ _).1 h1, ⟨by show 1 ≤ kp; omega, by show kp ≤ 1000; omega⟩, (inR_iff _ _ _).1 h4⟩)
          go_enter Try.func61, Try.ntmps61
          go_wp2_with fail
          refine (within_one 1 24 kw (w.heap.size + 1) _ (by simp) (by go_simp)).mono ?_
          rintro e w1 ⟨rfl, hb1⟩
          obtain ⟨hc1, hf1⟩ := bcell hb1
          go_wp2_with fail
          refine (within_one 0 24 km w1.heap.size _ (by simp) (by go_simp)).mono ?_
          rintro e w2 ⟨rfl, hb2⟩
          go_wp2_with fail
          go_ret
          exact ⟨ret_bool (by rw [HE.out]; simp; omega), Below.later (balloc (Below.later (balloc (balloc (brefl _) _) _) hb1) _) hb2⟩

/-- The error of kinds. -/
def kndE (ks : List Kd) : Int := if inR 1 6 ks.length then (if ks.any badK then 3 else 0) else 6
theorem kndE_len {ks : List Kd} (h : inR 1 6 ks.length = false) : kndE ks = 6 := by simp [kndE, h]
theorem kndE_of {ks : List Kd} (h : inR 1 6 ks.length = true) : kndE ks = if ks.any badK then 3 else 0 := by simp [kndE, h]

set_option maxHeartbeats 1000000 in
theorem kinds_any (A : Option Addr) (n c : Nat) (ks : List Kd) (w : World) (hs : Sl 3 encK w w.heap.size A n c ks) :
    Calls Try.prog 22 #[.slice A n c] w fun e w' => e = .returned (.int .i64 (kndE ks)) ∧ Below w.heap.size w w' := by
  obtain rfl := hs.len
  have hcap := hs.cap
  have hbig := hs.big
  have Hs := Lib.hid hs
  clear hs
  cases hL : inR 1 6 ks.length with
  | false =>
    have HE := Lib.hid (kndE_len hL)
    go_enter Try.func22, Try.ntmps22
    go_wp2_with fail
    refine (within_one 1 6 (ks.length : Int) w.heap.size _ (by simp) (by go_simp)).mono ?_
    rintro e w1 ⟨rfl, hb1⟩
    go_wp2_with fail
    go_ret
    exact ⟨ret_int HE.out.symm, Below.later (balloc (brefl _) _) hb1⟩
  | true =>
    have HE := Lib.hid (kndE_of hL)
    go_enter Try.func22, Try.ntmps22
    go_wp2_with fail
    refine (within_one 1 6 (ks.length : Int) w.heap.size _ (by simp) (by go_simp)).mono ?_
    rintro e w1 ⟨rfl, hb1⟩
    go_wp2_with fail
    have HB := Lib.hid (Below.later (balloc (brefl w) _) hb1)
    refine (containsK 61 #[] (enters_of Try.func61 (by kernel_rfl) rfl) badK A _ c ks _ (Hs.out.later HB.out) (fun x W _ _ => stray_any x W)).mono ?_
    rintro e w2 ⟨rfl, hb2⟩
    clear hb1
    cases hk : ks.any badK with
    | false =>
      rw [hk] at HE
      go_wp2_with fail
      go_ret
      exact ⟨ret_int HE.out.symm, Below.later HB.out hb2⟩
    | true =>
      rw [hk] at HE
      go_wp2_with fail
      go_ret
      exact ⟨ret_int HE.out.symm, Below.later HB.out hb2⟩
end Go.Proofs.Ytjmphmnimnbgkaa
