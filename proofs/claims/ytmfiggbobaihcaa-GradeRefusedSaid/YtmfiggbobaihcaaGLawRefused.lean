/- The walk of GradeRefused. -/
import Derived.Test.YtmfiggbobaihcaaGFilled
namespace Go.Proofs.Ytmfiggbobaihcaa
open Go.RowKit Go.Shelf

/-! ### The plain law -/
theorem woT_nil (O : List Od) : ∀ i, i ≤ O.length → woT O [] i = O.take i
  | 0, _ => by rw [List.take_zero]; rfl
  | i + 1, h => by
    unfold woT
    rw [woT_nil O i (by omega), List.take_succ_eq_append_getElem (by omega)]
    congr 1
    rw [if_neg (by simp), List.getD_eq_getElem?_getD, List.getElem?_eq_getElem (by omega)]
    rfl
theorem woO_nil (O : List Od) : woO O [] = O := by
  unfold woO
  rw [woT_nil O _ (Nat.le_refl _), List.take_length]
/-- A list less one of its numbers. -/
def lessI (R : List Int) (i : Nat) : List Int := R.take i ++ R.drop (i + 1)
theorem RefL.less {m k : Nat} {R : List Int} (h : RefL m k R) {i : Nat} (hi : i < k) : RefL m (k - 1) (lessI R i) := by
  have hl := h.len
  have he : lessI R i = R.eraseIdx i := (List.eraseIdx_eq_take_drop_succ R i).symm
  rw [he]
  refine ⟨by rw [List.length_eraseIdx]; split <;> omega, fun x hx => h.inn x ((List.eraseIdx_sublist R i).subset hx), h.up.sublist (List.eraseIdx_sublist R i)⟩
/-- What is known of the orders that are refused. -/
structure RefIs (n : Nat) (O : List Od) (M : Nat → Int) (R : List Int) : Prop where
  le : R.length ≤ O.length
  is : RefL O.length R.length R
  ok : canB n (woO O R) M = true
  min : ∀ l, RefL O.length l.length l → canB n (woO O l) M = true → R.length ≤ l.length
theorem refIs {n : Nat} {O : List Od} {M : Nat → Int} (hM : ∀ j, 0 ≤ M j) : RefIs n O M (refR n O M) := by
  obtain ⟨k, h1, h2, h3, h4⟩ := refR_is (n := n) (O := O) hM
  have hl := h2.len
  rw [← hl] at h1 h2
  exact ⟨h1, h2, h3, fun l hl2 ho => by rw [hl]; exact h4 l _ hl2 ho⟩
section
variable {n : Nat} {O : List Od} {M : Nat → Int} {R : List Int}
theorem RefIs.none (h : RefIs n O M R) : R.length = 0 ↔ canB n O M = true := by
  constructor
  · intro h0
    have h1 := h.ok
    rw [List.length_eq_zero_iff.1 h0, woO_nil] at h1
    exact h1
  · intro hc
    have h1 := h.min [] ⟨rfl, fun x hx => (by cases hx), List.Pairwise.nil⟩ (by rw [woO_nil]; exact hc)
    simpa using h1
theorem RefIs.less (h : RefIs n O M R) {i : Nat} (hi : i < R.length) : canB n (woO O (lessI R i)) M = false := by
  cases hc : canB n (woO O (lessI R i)) M with
  | false => rfl
  | true =>
    have h1 := h.is.less hi
    have h2 := h1.len
    rw [← h2] at h1
    have h3 := h.min _ h1 hc
    omega
theorem RefIs.more {M' : Nat → Int} {R' : List Int} (h : RefIs n O M R) (h' : RefIs n O M' R') (hM : ∀ j, M j ≤ M' j) : R'.length ≤ R.length := h'.min _ h.is (can_add h.ok hM)
theorem RefIs.at_ (h : RefIs n O M R) {i : Nat} {x : Int} (hx : R[i]? = some x) : 0 ≤ x ∧ x < O.length := h.is.inn x (List.mem_of_getElem? hx)
theorem RefIs.up_ (h : RefIs n O M R) {i : Nat} {x y : Int} (hx : R[i]? = some x) (hy : R[i + 1]? = some y) : x < y := by
  obtain ⟨h1, rfl⟩ := List.getElem?_eq_some_iff.1 hx
  obtain ⟨h2, rfl⟩ := List.getElem?_eq_some_iff.1 hy
  exact (List.pairwise_iff_getElem.1 h.is.up) i (i + 1) h1 h2 (by omega)
end
/-- Rising numbers under i. -/
def Up (i : Nat) (l : List Int) : Prop := l.Pairwise (· < ·) ∧ (∀ x ∈ l, 0 ≤ x ∧ x < (i : Int)) ∧ l.length ≤ i
theorem Up.next {i : Nat} {l : List Int} (h : Up i l) : Up (i + 1) l := ⟨h.1, fun x hx => by have := h.2.1 x hx; omega, by have := h.2.2; omega⟩
theorem Up.snoc {i : Nat} {l : List Int} (h : Up i l) : Up (i + 1) (l ++ [(i : Int)]) := by
  refine ⟨List.pairwise_append.2 ⟨h.1, List.pairwise_singleton _ _, fun a ha b hb => ?_⟩, fun x hx => ?_, by have := h.2.2; simp; omega⟩
  · rw [List.mem_singleton] at hb
    subst hb
    exact (h.2.1 a ha).2
  · rcases List.mem_append.1 hx with hx | hx
    · have := h.2.1 x hx; omega
    · rw [List.mem_singleton] at hx
      omega
theorem Up.is {i : Nat} {l : List Int} (h : Up i l) : RefL i l.length l := ⟨rfl, h.2.1, h.1⟩
theorem sl_take {W : World} {B n c : Nat} {A : Option Addr} {xs : List Int} (h : Sl 1 encI W B A n c xs) {i : Nat} (hi : i ≤ n) : Sl 1 encI W B A i c (xs.take i) := by
  refine ⟨by rw [List.length_take, h.len]; omega, Nat.le_trans hi h.cap, h.big, fun h0 => ?_⟩
  obtain ⟨b, o, h1, h2, h3⟩ := h.at_ (by omega)
  refine ⟨b, o, h1, h2, fun j x hx k u hu => h3 j x ?_ k u hu⟩
  rw [List.getElem?_take] at hx
  split at hx
  · exact hx
  · cases hx
theorem sl_drop {W : World} {B n c b o : Nat} {xs : List Int} (h : Sl 1 encI W B (some ⟨b, o, none⟩) n c xs) {i : Nat} (hi : i ≤ n) : Sl 1 encI W B (some ⟨b, o + i, none⟩) (n - i) (c - i) (xs.drop i) := by
  refine ⟨by rw [List.length_drop, h.len], by have := h.cap; omega, by have := h.big; omega, fun h0 => ?_⟩
  obtain ⟨b', o', h1, h2, h3⟩ := h.at_ (by omega)
  cases h1
  refine ⟨b, o + i, rfl, h2, fun j x hx k u hu => ?_⟩
  rw [List.getElem?_drop] at hx
  have := h3 (i + j) x hx k u hu
  rw [show o + i + j * 1 + k = o + (i + j) * 1 + k by omega]
  exact this

/-- A list behind a place: the address stays where nothing is left. -/
theorem sl_drop2 {W : World} {B n c b o : Nat} {xs : List Int} (h : Sl 1 encI W B (some ⟨b, o, none⟩) n c xs) {i : Nat} (hi : i ≤ n) : Sl 1 encI W B (if c = i then some ⟨b, o, none⟩ else some ⟨b, o + i, none⟩) (n - i) (c - i) (xs.drop i) := by
  by_cases e : c = i
  · rw [if_pos e]
    exact ⟨by rw [List.length_drop, h.len], by have := h.cap; omega, by have := h.big; omega, fun h0 => by have := h.cap; omega⟩
  · rw [if_neg e]
    exact sl_drop h hi
/-! ### The walk -/
/-- While orders' numbers are gathered. -/
structure OWN (V W : World) (v : Value) (xs : List Int) : Prop where
  be : Below V.heap.size V W
  own : RowN V.heap.size xs v W
section
variable {V W W' : World} {v v' : Value} {xs : List Int}
theorem OWN.later (h : OWN V W v xs) (hb : Below W.heap.size W W') : OWN V W' v xs := ⟨Below.later h.be hb, own_later h.own hb⟩
theorem OWN.app (h : OWN V W v xs) {x : Int} (hg : W.grownBy W' v.ownBlock) (ho : W'.ownsRow V.heap.size 3 1 v' (xs.length + 1) (xs.map (Value.int .i64) ++ [.int .i64 x])) : OWN V W' v' (xs ++ [x]) := by
  have hlt := own_base (show W.ownsRow V.heap.size 3 1 v xs.length (xs.map (Value.int .i64)) from h.own)
  refine ⟨h.be.trans ⟨hg.os, hg.tape, hg.output, hg.size, fun k hk => hg.block k (by have := h.be.size; omega) (fun e => by have := hlt k e.symm; omega)⟩, ?_⟩
  unfold RowN
  simpa using ho
end
/-- An append of any list to nil, or to a list of the call's own. -/
theorem run_app_l {W : World} {n c B : Nat} {A : Option Addr} {v : Value} {xs ys : List Int} (ty : TypeId) (hB : B ≤ W.heap.size) (h : RowN B xs v W) (hs : Sl 1 encI W W.heap.size A n c ys) (h1 : xs.length + n ≤ 1000) :
    ∃ v' W', (Builtin.append_ #[48, 48] ty #[v, .slice A n c]).run Try.prog W = .ok v' W' ∧ (W.grownBy W' v.ownBlock ∧ RowN B (xs ++ ys) v' W') := by
  have hfl : ∀ l : List Int, l.flatMap encI = l.map (.int .i64) := fun l => by
    induction l with
    | nil => rfl
    | cons t l ih => rw [List.flatMap_cons, ih]; rfl
  obtain ⟨i0, hi0, hz0, hz1, hz2⟩ := info_parts info_int
  unfold RowN at h
  obtain ⟨v', W', e1, e2, e3⟩ := run_app_sl (P := Try.prog) (enc := encI) (k := 1) (fun _ => rfl) (fun x u hu => by rw [List.mem_singleton.1 hu]; rfl) (by omega) 48 3 ty und_ints hi0 hz0 hz1 hz2 (by rfl) (base := B) (by rw [hfl]; exact h) hs (by omega) (by omega) hB
  refine ⟨v', W', e1, e2, ?_⟩
  unfold RowN
  rw [hfl] at e3
  exact e3
/-- A shop that is new. -/
def NewB (B : Nat) (v : Value) (W : World) : Prop := ∃ b, v = .pointer (some ⟨b, 0, none⟩) ∧ B ≤ b ∧ Blk W b 25 #[.slice none 0 0, .slice none 0 0, .slice none 0 0]
theorem NewB.stab {B : Nat} : ∀ v W W', Gr W W' → NewB B v W → NewB B v W' := fun _ _ _ hG ⟨b, h1, h2, h3⟩ => ⟨b, h1, h2, h3.later hG⟩
/-- A shop with more of a grade. -/
def WiS (n : Nat) (pv ov : Value) (S' : List Int) (v : Value) (W : World) : Prop := ∃ A c, v = .agg #[.slice A n c, pv, ov] ∧ Sl 1 encI W W.heap.size A n c S'
theorem WiS.stab {n : Nat} {pv ov : Value} {S' : List Int} : ∀ v W W', Gr W W' → WiS n pv ov S' v W → WiS n pv ov S' v W' := fun _ _ _ hG ⟨A, c, h1, h2⟩ => ⟨A, c, h1, h2.later hG⟩
theorem fine_set {S P : List Int} {O : List Od} (hF : Fine S P O) {g : Nat} {v : Int} (hv : 0 ≤ v ∧ v ≤ 50) : Fine (S.set g v) P O :=
  ⟨by rw [List.length_set]; exact hF.n1, by rw [List.length_set]; exact hF.n5, hF.o8, by rw [List.length_set]; exact hF.len, fun x hx => by
    rcases List.mem_or_eq_of_mem_set hx with h | rfl
    · exact hF.stk x h
    · exact hv, hF.prc, fun o ho => by rw [List.length_set]; exact hF.ord o ho, hF.fall⟩
/-- A shop without some orders. -/
def WoS (SA : Option Addr) (n sc : Nat) (PA : Option Addr) (pn pc : Nat) (S P : List Int) (X : List Od) (v : Value) (W : World) : Prop := ∃ A c, v = .agg #[.slice SA n sc, .slice PA pn pc, .slice A X.length c] ∧ ShopIn W W.heap.size SA n sc PA pn pc A X.length c S P X
theorem WoS.stab {SA : Option Addr} {n sc : Nat} {PA : Option Addr} {pn pc : Nat} {S P : List Int} {X : List Od} : ∀ v W W', Gr W W' → WoS SA n sc PA pn pc S P X v W → WoS SA n sc PA pn pc S P X v W' := fun _ _ _ hG ⟨A, c, h1, h2⟩ => ⟨A, c, h1, h2.later hG⟩
set_option maxRecDepth 100000 in
set_option maxHeartbeats 16000000 in
theorem refused_law (SA : Option Addr) (sn sc : Nat) (PA : Option Addr) (pn pc : Nat) (OA : Option Addr) (on oc : Nat) (S P : List Int) (O : List Od) (u1 u2 u3 : Int) (w : World) (hs : ShopIn w w.heap.size SA sn sc PA pn pc OA on oc S P O) (hu1 : 0 ≤ u1 ∧ u1 ≤ 255) (hu2 : 0 ≤ u2 ∧ u2 ≤ 255) (hu3 : 0 ≤ u3 ∧ u3 ≤ 255) : Calls Try.prog 14 #[.agg #[.slice SA sn sc, .slice PA pn pc, .slice OA on oc], .int .u8 u1, .int .u8 u2, .int .u8 u3] w fun e w' => e = .returned (.bool true) ∧ Below w.heap.size w w' := by
  have Hs := Lib.hid hs
  obtain rfl := hs.stk.len
  obtain rfl := hs.prc.len
  obtain rfl := hs.ord.len
  have HG0 := Lib.hid (GW.start hs)
  obtain ⟨g0, g1, g2, g3⟩ := HG0.out.cells
  have Hf := Lib.hid (fun W (h : ShopIn W W.heap.size SA S.length sc PA P.length pc OA O.length oc S P O) => fine_any SA S.length sc PA P.length pc OA O.length oc S P O W h)
  by_cases he : shopE S P O = 0
  case neg =>
    rw [decide_eq_false he] at Hf
    clear hs he hu1 hu2 hu3 Hs
    go_enter Try.func14, Try.ntmps14
    go_wp2_with fail
    refine (Hf.out _ HG0.out.sh).mono ?_
    rintro e w1 ⟨rfl, hb⟩
    have HG1 := Lib.hid (HG0.out.later hb)
    clear hb HG0 g0 g1 g2 g3
    obtain ⟨g0, g1, g2, g3⟩ := HG1.out.cells
    go_wp2_with fail
    refine (works_any _).mono ?_
    rintro e we ⟨rfl, hbe⟩
    have HBE := Lib.hid (Below.later HG1.out.bel hbe)
    clear hbe
    go_wp2
    go_ret
    exact ⟨rfl, HBE.out⟩
  case pos =>
  rw [decide_eq_true he] at Hf
  have hF := fine_of he
  have n5 := hF.n5
  have n1 := hF.n1
  have o8 := hF.o8
  have HF := Lib.hid hF
  have hM := fun j => (stockM_bound hF.stk (by omega) j).1
  have hri := refIs (n := S.length) (O := O) hM
  have Href := Lib.hid (fun W (h : ShopIn W W.heap.size SA S.length sc PA P.length pc OA O.length oc S P O) => refuse_ok SA S.length sc PA P.length pc OA O.length oc S P O W h he)
  have Hl := Lib.hid (fun W (h : ShopIn W W.heap.size SA S.length sc PA P.length pc OA O.length oc S P O) => least_both SA S.length sc PA P.length pc OA O.length oc S P O W h he)
  have Hlw := Lib.hid (fun (R : List Int) (A : Option Addr) (c : Nat) W (h : ShopIn W W.heap.size SA S.length sc PA P.length pc A (woO O R).length c S P (woO O R)) => least_both SA S.length sc PA P.length pc A (woO O R).length c S P (woO O R) W h (fine_iff (hF.wo R)))
  have Hwo := Lib.hid (fun (R : List Int) (A : Option Addr) (n c : Nat) W (h : ShopIn W W.heap.size SA S.length sc PA P.length pc OA O.length oc S P O) (hr : Sl 1 encI W W.heap.size A n c R) (h2 : R.length ≤ 1000) => refWithout_any SA S.length sc PA P.length pc OA O.length oc S P O A n c R W h hr (by omega) h2)
  obtain ⟨R, hR⟩ : ∃ R, refR S.length O (stockM S) = R := ⟨_, rfl⟩
  rw [hR] at hri Href
  have hno := hri.none
  have Hri := Lib.hid hri
  obtain ⟨cb, hcb⟩ : ∃ cb, canB S.length O (stockM S) = cb := ⟨_, rfl⟩
  rw [hcb] at Hl hno
  generalize leastN S P O = nS at *
  have hle := hri.le
  have Hu := Lib.hid (And.intro hu1 (And.intro hu2 hu3))
  clear hs he hF hu1 hu2 hu3 hri hR hcb hM
  go_enter Try.func14, Try.ntmps14
  go_wp2_with fail
  refine (Hf.out _ HG0.out.sh).mono ?_
  rintro e w2 ⟨rfl, hb⟩
  have HG1 := Lib.hid (HG0.out.later hb)
  clear hb HG0 g0 g1 g2 g3
  obtain ⟨g0, g1, g2, g3⟩ := HG1.out.cells
  go_wp2_with fail
  refine (Href.out _ HG1.out.sh).mono ?_
  rintro e w3 ⟨RA, rn, rc, rfl, hb, hsl⟩
  have HG2 := Lib.hid (HG1.out.later hb)
  clear hb HG1 g0 g1 g2 g3
  obtain ⟨g0, g1, g2, g3⟩ := HG2.out.cells
  obtain rfl := hsl.len
  have HR2 := Lib.hid hsl
  clear hsl
  go_wp2_with fail
  refine (Hl.out _ HG2.out.sh).mono ?_
  rintro e w4 ⟨rfl, hb, hX⟩
  have HG3 := Lib.hid (HG2.out.later hb)
  have HR3 := Lib.hid (HR2.out.later hb)
  clear hb HG2 HR2 g0 g1 g2 g3
  obtain ⟨g0, g1, g2, g3⟩ := HG3.out.cells
  clear hX
  have q1 : ((R.length : Int) == 0) = cb := by rw [Bool.eq_iff_iff, beq_iff_eq, ← hno]; omega
  have q2 : decide ((R.length : Int) = 0) = cb := by rw [Bool.eq_iff_iff, decide_eq_true_eq, ← hno]; omega
  have q3 : decide (R.length = 0) = cb := by rw [Bool.eq_iff_iff, decide_eq_true_eq, ← hno]
  have q4 : decide (R = []) = cb := by rw [Bool.eq_iff_iff, decide_eq_true_eq, ← hno, List.length_eq_zero_iff]
  have q5 : ¬ (O.length : Int) < (R.length : Int) := by omega
  clear hno
  go_wp2_with fail
  clear q1 q2 q3 q4 q5
  refine loop_n (fun m b W => b.defers = [] ∧ ∃ i : Nat, i + m = R.length ∧ Hid (Below w4.heap.size w4 W) ∧ Fits (none :: some (.int .u8 u1) :: some (.int .u8 u2) :: some (.int .u8 u3) :: some (.pointer (some ⟨w.heap.size, 0, none⟩)) :: none :: none :: none :: none :: some (.slice RA R.length rc) :: none :: none :: none :: none :: some (.int .i64 (i : Nat)) :: none :: none :: none :: none :: none :: none :: none :: none :: none :: none :: none :: none :: none :: none :: none :: none :: none :: none :: none :: none :: none :: none :: none :: none :: none :: none :: none :: none :: none :: none :: none :: none :: none :: none :: none :: none :: none :: none :: none :: none :: none :: none :: none :: none :: none :: none :: none :: none :: none :: none :: none :: none :: none :: none :: none :: none :: none :: none :: none :: none :: none :: none :: none :: none :: none :: none :: none :: none :: none :: none :: none :: none :: none :: none :: none :: none :: none :: none :: none :: none :: none :: none :: none :: none :: none :: none :: none :: none :: none :: none :: none :: none :: none :: none :: none :: none :: none :: none :: none :: none :: none :: none :: none :: none :: none :: none :: none :: none :: none :: none :: none :: none :: none :: none :: none :: none :: none :: none :: none :: none :: none :: none :: none :: none :: none :: none :: none :: none :: none :: none :: none :: none :: none :: none :: none :: none :: none :: none :: none :: none :: none :: none :: none :: none :: none :: none :: none :: none :: none :: none :: none :: none :: none :: none :: none :: none :: none :: none :: none :: none :: none :: none :: none :: none :: none :: none :: none :: none :: none :: none :: none :: none :: none :: none :: none :: none :: none :: none :: none :: none :: none :: none :: none :: none :: none :: none :: none :: none :: none :: none :: none :: none :: none :: none :: none :: none :: []) b.tmps.toList) R.length ?_ ?_
  · refine ⟨rfl, 0, by omega, Lib.hid (brefl _), ?_⟩
    repeat (first | exact fits_nil | refine fits_none ?_ | refine fits_some ?_)
  clear g0 g1 g2 g3
  intro m b W hI K hK
  obtain ⟨hds, i, him, HE, hfit⟩ := hI
  obtain ⟨f, hf⟩ := fits_act hfit
  rw [hds] at hf
  subst hf
  clear hfit hds
  simp only [fillP, Nat.reduceAdd]
  have HGl := Lib.hid (HG3.out.later HE.out)
  have HRl := Lib.hid (Sl.later HR3.out HE.out)
  obtain ⟨g0, g1, g2, g3⟩ := HGl.out.cells
  by_cases hlt : i < R.length
  · have i1 : (i : Int) < (R.length : Int) := by omega
    have i2 : (0 : Int) ≤ (i : Int) := by omega
    have i3 : IntKind.i64.wrap ((i : Int) + 1) = (i : Int) + 1 := by rw [IntKind.wrap_i64]; omega
    obtain ⟨rb, ro, x, rfl, hrb, hx, r0⟩ := HRl.out.ltI (i := i) hlt
    have hxb := Hri.out.at_ hx
    have x1 : ¬ x < 0 := by omega
    have x2 : ¬ (O.length : Int) ≤ x := by omega
    have x3 : decide (x < 0) = false := by simp; omega
    have x4 : decide ((O.length : Int) ≤ x) = false := by simp; omega
    have Him := Lib.hid (show i + m = R.length ∧ i < R.length from ⟨him, hlt⟩)
    have Hx := Lib.hid hx
    clear hxb hx
    by_cases hi0 : i = 0
    · have y6 : ¬ (0 : Int) < (i : Int) := by omega
      have y7 : decide ((0 : Int) < (i : Int)) = false := by simp; omega
      have y8 : decide (0 < i) = false := by simp; omega
      have y9 : ¬ 0 < i := by omega
      clear hlt him hi0
      go_wp2_with fail
      refine dag 31 (by kernel_rfl) (by kernel_rfl) (.is ?_ :: .is ?_ :: .is ?_ :: .is ?_ :: .is ?_ :: .is ?_ :: .is ?_ :: .is ?_ :: .is ?_ :: .is ?_ :: .is ?_ :: .is ?_ :: .is ?_ :: .is ?_ :: .is ?_ :: .is ?_ :: .is ?_ :: .is ?_ :: .is ?_ :: .is ?_ :: .is ?_ :: .is ?_ :: .is ?_ :: .is ?_ :: .is ?_ :: .is ?_ :: .is ?_ :: .is ?_ :: .is ?_ :: .is ?_ :: .is ?_ :: []) rfl ?st1 ?ob1
      case st1 => simp [Spec.ok]
      case ob1 =>
      intro env1 V1 hG
      obtain ⟨hc, hf⟩ := bcell hG
      repeat (refine obls_is ?_ ?_; unfold doesAt; go_simp; (try go_bits); (first | (refine ⟨brefl _, ?_⟩; rfl) | rfl); intro K hK; go_simp; refine hK _ ?_; clear hK K)
      refine obls_nil (fun _ => ?_)
      have HE1 := Lib.hid (Below.later HE.out hG)
      clear hc hf hG g0 g1 g2 g3 r0 HGl HRl
      have HGl := Lib.hid (HG3.out.later HE1.out)
      have HRl := Lib.hid (Sl.later HR3.out HE1.out)
      obtain ⟨g0, g1, g2, g3⟩ := HGl.out.cells
      have hcap := HRl.out.cap
      have hbig := HRl.out.big
      have z1 : (i : Int) ≤ (rc : Int) := by have := Him.out; omega
      have z2 : (i : Int) + 1 ≤ (R.length : Int) := by have := Him.out; omega
      have z3 : (R.length : Int) ≤ (rc : Int) := by omega
      have z4 : (0 : Int) ≤ (i : Int) + 1 := by omega
      go_wp2_with fail
      refine dagFresh 20 10 3 (fun i => !(i == 5) && !(i == 10)) (fun i => i == 11) (by kernel_rfl) (by kernel_rfl) (.is ?_ :: .is (.slice none 0 0) :: .is ?_ :: .is ?_ :: .is ?_ :: .like (RowN V1.heap.size (R.take i)) :: .is ?_ :: .is ?_ :: .is ?_ :: .is ?_ :: .like (RowN V1.heap.size (lessI R i)) :: .like (WoS SA S.length sc PA P.length pc S P (woO O (lessI R i))) :: .is (.tuple #[.int .i64 (leastN S P (woO O (lessI R i))), .bool false, .bool true]) :: .is ?_ :: .is ?_ :: .is ?_ :: .is ?_ :: .is ?_ :: .is ?_ :: .is ?_ :: []) rfl ?su1 ?gu1 (by kernel_rfl) ?tu1 ?ou1
      case su1 => repeat (first | exact stab_nil | refine stab_is ?_ | refine stab_like RowN.stab ?_ | refine stab_like WoS.stab ?_)
      case gu1 => intro o ho; cases ho; rfl
      case tu1 => repeat (first | exact trivial | refine ⟨fun h => absurd h (by decide), ?_⟩ | refine ⟨fun _ _ _ _ _ h => h, ?_⟩)
      case ou1 =>
      intro envu1 U1 hG
      obtain ⟨hc, hf⟩ := bcell hG
      have HV := Lib.hid hG
      have HG2 := Lib.hid (HGl.out.later hG)
      have HR2 := Lib.hid (Sl.later HRl.out hG)
      (refine oblsA_is (show _ ≠ (10 : Nat) by decide) ?_ ?_; unfold doesAt; go_simp; (try go_bits); (first | (refine ⟨brefl _, ?_⟩; rfl) | rfl); intro K hK; go_simp; refine hK _ ?_; clear hK K)
      refine oblsA_is (show _ ≠ (10 : Nat) by decide) ?_ ?_
      · unfold doesAt
        go_simp
        refine (of__any _ _ _ U1).mono ?_
        rintro e w1 ⟨rfl, hb1⟩
        (exact ⟨rfl, hb1⟩)
      intro K hK
      go_simp
      refine hK _ ?_
      clear hK K
      iterate 3 (refine oblsA_is (show _ ≠ (10 : Nat) by decide) ?_ ?_; unfold doesAt; go_simp; (try go_bits); (first | (refine ⟨brefl _, ?_⟩; rfl) | rfl); intro K hK; go_simp; refine hK _ ?_; clear hK K)
      refine oblsA_like (show _ ≠ (10 : Nat) by decide) (fun hl => ?_) ?_
      · refine app_of_run rfl (.tmp 104) (.tmp 107) 48 rfl rfl rfl ?_
        have h0 : RowN V1.heap.size [] (.slice none 0 0) U1 := World.ownsRow_nil _ _ _ _
        obtain ⟨v', W', e1, e2, e3⟩ := run_app_l _ HV.out.size h0 (sl_take HR2.out (i := i) (by have := Him.out; omega)) (by have := Him.out; simp; omega)
        exact ⟨v', W', e1, ⟨e2.os, e2.tape, e2.output, e2.size, fun k hk => e2.block k hk (by simp [Value.ownBlock])⟩, e3⟩
      intro K hK
      go_simp
      refine hK _ ?_
      clear hK K
      iterate 4 (refine oblsA_is (show _ ≠ (10 : Nat) by decide) ?_ ?_; unfold doesAt; go_simp; (try go_bits); (first | (refine ⟨brefl _, ?_⟩; rfl) | rfl); intro K hK; go_simp; refine hK _ ?_; clear hK K)
      refine oblsA_app rfl (fun hl hp => ?_) ?_
      · have h5 : RowN V1.heap.size (R.take i) (envu1 5) U1 := hl ⟨5, .data⟩ (by simp) rfl (.inl rfl)
        refine app_of_run rfl (.tmp 108) (.tmp 112) 48 rfl rfl rfl ?_
        obtain ⟨v', W', e1, e2, e3⟩ := run_app_l _ HV.out.size h5 (sl_drop2 HR2.out (i := i + 1) (by have := Him.out; omega)) (by have := Him.out; simp; omega)
        exact ⟨v', W', e1, grT_of_own e2 h5 (Nat.le_refl _), e3⟩
      intro K hK
      go_simp
      refine hK _ ?_
      clear hK K
      refine oblsA_like (show _ ≠ (10 : Nat) by decide) (fun hl => ?_) ?_
      · have h10 : RowN V1.heap.size (lessI R i) (envu1 10) U1 := hl ⟨10, .data⟩ (by simp) rfl (.inr (.inl rfl))
        unfold RowN at h10
        obtain ⟨A, c, hE, hsl⟩ := own_slI h10 rfl
        have Hsl := Lib.hid hsl
        have hll : (lessI R i).length ≤ 1000 := by unfold lessI; simp; omega
        clear hsl h10
        unfold doesAt
        simp only [hE]
        go_simp
        refine (Hwo.out (lessI R i) A _ c U1 HG2.out.sh Hsl.out hll).mono ?_
        rintro e w3 ⟨A', c', rfl, hb3, hx⟩
        exact ⟨_, rfl, hb3, A', c', rfl, ⟨(HG2.out.sh.later hb3).stk, (HG2.out.sh.later hb3).prc, hx⟩⟩
      intro K hK
      go_simp
      refine hK _ ?_
      clear hK K
      refine oblsA_isL (show _ ≠ (10 : Nat) by decide) (fun hl => ?_) ?_
      · obtain ⟨A', c', hE, hx⟩ : WoS SA S.length sc PA P.length pc S P (woO O (lessI R i)) (envu1 11) U1 := hl ⟨11, .data⟩ (by simp) rfl (.inr (.inr rfl))
        have hq := Hlw.out (lessI R i) A' c' U1 hx
        rw [Hri.out.less Him.out.2] at hq
        have Hq := Lib.hid hq
        clear hq hx
        unfold doesAt
        simp only [hE]
        go_simp
        refine Hq.out.mono ?_
        rintro e w3 ⟨rfl, hb3, -⟩
        exact ⟨rfl, hb3⟩
      intro K hK
      go_simp
      refine hK _ ?_
      clear hK K
      repeat (refine oblsA_is (show _ ≠ (10 : Nat) by decide) ?_ ?_; unfold doesAt; go_simp; (try go_bits); (first | (refine ⟨brefl _, ?_⟩; rfl) | rfl); intro K hK; go_simp; refine hK _ ?_; clear hK K)
      refine oblsA_nil (fun _ => ?_)
      clear hc hf hG g0 g1 g2 g3
      generalize (if rc = i + 1 then (some ⟨rb, ro, none⟩ : Option Addr) else some ⟨rb, ro + (i + 1), none⟩) = DA
      go_wp2_with fail
      refine hK _ _ (m - 1) (by have := Him.out; omega) ⟨rfl, i + 1, by have := Him.out; omega, Lib.hid (Below.later HE1.out HV.out), ?_⟩
      repeat (first | exact fits_nil | refine fits_none ?_ | refine fits_some ?_)
    · obtain ⟨j, hj⟩ : ∃ j, j + 1 = i := ⟨i - 1, by omega⟩
      obtain ⟨rb2, ro2, y, hA2, -, hy, r1⟩ := HRl.out.ltI (i := j) (by omega)
      cases hA2
      have hup := Hri.out.up_ hy (by rw [hj]; exact Hx.out)
      have y1 : ¬ x ≤ y := by omega
      have y2 : decide (x ≤ y) = false := by simp; omega
      have y3 : IntKind.i64.wrap ((i : Int) - 1) = (j : Int) := by rw [IntKind.wrap_i64]; omega
      have y4 : (j : Int) < (R.length : Int) := by omega
      have y5 : (0 : Int) ≤ (j : Int) := by omega
      have y6 : (0 : Int) < (i : Int) := by omega
      have y7 : decide ((0 : Int) < (i : Int)) = true := by simp; omega
      have y8 : decide (0 < i) = true := by simp; omega
      have y9 : 0 < i := by omega
      clear hlt him hi0 hj hy hup
      go_wp2_with fail
      refine dag 31 (by kernel_rfl) (by kernel_rfl) (.is ?_ :: .is ?_ :: .is ?_ :: .is ?_ :: .is ?_ :: .is ?_ :: .is ?_ :: .is ?_ :: .is ?_ :: .is ?_ :: .is ?_ :: .is ?_ :: .is ?_ :: .is ?_ :: .is ?_ :: .is ?_ :: .is ?_ :: .is ?_ :: .is ?_ :: .is ?_ :: .is ?_ :: .is ?_ :: .is ?_ :: .is ?_ :: .is ?_ :: .is ?_ :: .is ?_ :: .is ?_ :: .is ?_ :: .is ?_ :: .is ?_ :: []) rfl ?st2 ?ob2
      case st2 => simp [Spec.ok]
      case ob2 =>
      intro env2 V2 hG
      obtain ⟨hc, hf⟩ := bcell hG
      repeat (refine obls_is ?_ ?_; unfold doesAt; go_simp; (try go_bits); (first | (refine ⟨brefl _, ?_⟩; rfl) | rfl); intro K hK; go_simp; refine hK _ ?_; clear hK K)
      refine obls_nil (fun _ => ?_)
      have HE1 := Lib.hid (Below.later HE.out hG)
      clear hc hf hG g0 g1 g2 g3 r0 HGl HRl
      have HGl := Lib.hid (HG3.out.later HE1.out)
      have HRl := Lib.hid (Sl.later HR3.out HE1.out)
      obtain ⟨g0, g1, g2, g3⟩ := HGl.out.cells
      have hcap := HRl.out.cap
      have hbig := HRl.out.big
      have z1 : (i : Int) ≤ (rc : Int) := by have := Him.out; omega
      have z2 : (i : Int) + 1 ≤ (R.length : Int) := by have := Him.out; omega
      have z3 : (R.length : Int) ≤ (rc : Int) := by omega
      have z4 : (0 : Int) ≤ (i : Int) + 1 := by omega
      go_wp2_with fail
      refine dagFresh 20 10 3 (fun i => !(i == 5) && !(i == 10)) (fun i => i == 11) (by kernel_rfl) (by kernel_rfl) (.is ?_ :: .is (.slice none 0 0) :: .is ?_ :: .is ?_ :: .is ?_ :: .like (RowN V2.heap.size (R.take i)) :: .is ?_ :: .is ?_ :: .is ?_ :: .is ?_ :: .like (RowN V2.heap.size (lessI R i)) :: .like (WoS SA S.length sc PA P.length pc S P (woO O (lessI R i))) :: .is (.tuple #[.int .i64 (leastN S P (woO O (lessI R i))), .bool false, .bool true]) :: .is ?_ :: .is ?_ :: .is ?_ :: .is ?_ :: .is ?_ :: .is ?_ :: .is ?_ :: []) rfl ?su2 ?gu2 (by kernel_rfl) ?tu2 ?ou2
      case su2 => repeat (first | exact stab_nil | refine stab_is ?_ | refine stab_like RowN.stab ?_ | refine stab_like WoS.stab ?_)
      case gu2 => intro o ho; cases ho; rfl
      case tu2 => repeat (first | exact trivial | refine ⟨fun h => absurd h (by decide), ?_⟩ | refine ⟨fun _ _ _ _ _ h => h, ?_⟩)
      case ou2 =>
      intro envu2 U2 hG
      obtain ⟨hc, hf⟩ := bcell hG
      have HV := Lib.hid hG
      have HG2 := Lib.hid (HGl.out.later hG)
      have HR2 := Lib.hid (Sl.later HRl.out hG)
      (refine oblsA_is (show _ ≠ (10 : Nat) by decide) ?_ ?_; unfold doesAt; go_simp; (try go_bits); (first | (refine ⟨brefl _, ?_⟩; rfl) | rfl); intro K hK; go_simp; refine hK _ ?_; clear hK K)
      refine oblsA_is (show _ ≠ (10 : Nat) by decide) ?_ ?_
      · unfold doesAt
        go_simp
        refine (of__any _ _ _ U2).mono ?_
        rintro e w1 ⟨rfl, hb1⟩
        (exact ⟨rfl, hb1⟩)
      intro K hK
      go_simp
      refine hK _ ?_
      clear hK K
      iterate 3 (refine oblsA_is (show _ ≠ (10 : Nat) by decide) ?_ ?_; unfold doesAt; go_simp; (try go_bits); (first | (refine ⟨brefl _, ?_⟩; rfl) | rfl); intro K hK; go_simp; refine hK _ ?_; clear hK K)
      refine oblsA_like (show _ ≠ (10 : Nat) by decide) (fun hl => ?_) ?_
      · refine app_of_run rfl (.tmp 104) (.tmp 107) 48 rfl rfl rfl ?_
        have h0 : RowN V2.heap.size [] (.slice none 0 0) U2 := World.ownsRow_nil _ _ _ _
        obtain ⟨v', W', e1, e2, e3⟩ := run_app_l _ HV.out.size h0 (sl_take HR2.out (i := i) (by have := Him.out; omega)) (by have := Him.out; simp; omega)
        exact ⟨v', W', e1, ⟨e2.os, e2.tape, e2.output, e2.size, fun k hk => e2.block k hk (by simp [Value.ownBlock])⟩, e3⟩
      intro K hK
      go_simp
      refine hK _ ?_
      clear hK K
      iterate 4 (refine oblsA_is (show _ ≠ (10 : Nat) by decide) ?_ ?_; unfold doesAt; go_simp; (try go_bits); (first | (refine ⟨brefl _, ?_⟩; rfl) | rfl); intro K hK; go_simp; refine hK _ ?_; clear hK K)
      refine oblsA_app rfl (fun hl hp => ?_) ?_
      · have h5 : RowN V2.heap.size (R.take i) (envu2 5) U2 := hl ⟨5, .data⟩ (by simp) rfl (.inl rfl)
        refine app_of_run rfl (.tmp 108) (.tmp 112) 48 rfl rfl rfl ?_
        obtain ⟨v', W', e1, e2, e3⟩ := run_app_l _ HV.out.size h5 (sl_drop2 HR2.out (i := i + 1) (by have := Him.out; omega)) (by have := Him.out; simp; omega)
        exact ⟨v', W', e1, grT_of_own e2 h5 (Nat.le_refl _), e3⟩
      intro K hK
      go_simp
      refine hK _ ?_
      clear hK K
      refine oblsA_like (show _ ≠ (10 : Nat) by decide) (fun hl => ?_) ?_
      · have h10 : RowN V2.heap.size (lessI R i) (envu2 10) U2 := hl ⟨10, .data⟩ (by simp) rfl (.inr (.inl rfl))
        unfold RowN at h10
        obtain ⟨A, c, hE, hsl⟩ := own_slI h10 rfl
        have Hsl := Lib.hid hsl
        have hll : (lessI R i).length ≤ 1000 := by unfold lessI; simp; omega
        clear hsl h10
        unfold doesAt
        simp only [hE]
        go_simp
        refine (Hwo.out (lessI R i) A _ c U2 HG2.out.sh Hsl.out hll).mono ?_
        rintro e w3 ⟨A', c', rfl, hb3, hx⟩
        exact ⟨_, rfl, hb3, A', c', rfl, ⟨(HG2.out.sh.later hb3).stk, (HG2.out.sh.later hb3).prc, hx⟩⟩
      intro K hK
      go_simp
      refine hK _ ?_
      clear hK K
      refine oblsA_isL (show _ ≠ (10 : Nat) by decide) (fun hl => ?_) ?_
      · obtain ⟨A', c', hE, hx⟩ : WoS SA S.length sc PA P.length pc S P (woO O (lessI R i)) (envu2 11) U2 := hl ⟨11, .data⟩ (by simp) rfl (.inr (.inr rfl))
        have hq := Hlw.out (lessI R i) A' c' U2 hx
        rw [Hri.out.less Him.out.2] at hq
        have Hq := Lib.hid hq
        clear hq hx
        unfold doesAt
        simp only [hE]
        go_simp
        refine Hq.out.mono ?_
        rintro e w3 ⟨rfl, hb3, -⟩
        exact ⟨rfl, hb3⟩
      intro K hK
      go_simp
      refine hK _ ?_
      clear hK K
      repeat (refine oblsA_is (show _ ≠ (10 : Nat) by decide) ?_ ?_; unfold doesAt; go_simp; (try go_bits); (first | (refine ⟨brefl _, ?_⟩; rfl) | rfl); intro K hK; go_simp; refine hK _ ?_; clear hK K)
      refine oblsA_nil (fun _ => ?_)
      clear hc hf hG g0 g1 g2 g3
      generalize (if rc = i + 1 then (some ⟨rb, ro, none⟩ : Option Addr) else some ⟨rb, ro + (i + 1), none⟩) = DA
      go_wp2_with fail
      refine hK _ _ (m - 1) (by have := Him.out; omega) ⟨rfl, i + 1, by have := Him.out; omega, Lib.hid (Below.later HE1.out HV.out), ?_⟩
      repeat (first | exact fits_nil | refine fits_none ?_ | refine fits_some ?_)
  · obtain rfl : i = R.length := by omega
    have i1 : ¬ (R.length : Int) < (R.length : Int) := by omega
    have HO0 := Lib.hid (show OWN w4 W (.slice none 0 0) [] from ⟨HE.out, World.ownsRow_nil _ _ _ _⟩)
    clear him hlt hK HGl HRl
    go_wp2_with fail
    refine loop_n (fun m b W2 => b.defers = [] ∧ ∃ (k : Nat) (v : Value) (l : List Int), k + m = O.length ∧ Hid (OWN w4 W2 v l) ∧ Hid (Up k l) ∧ Fits (none :: some (.int .u8 u1) :: some (.int .u8 u2) :: some (.int .u8 u3) :: some (.pointer (some ⟨w.heap.size, 0, none⟩)) :: none :: none :: none :: none :: some (.slice RA R.length rc) :: none :: none :: none :: none :: none :: none :: none :: none :: some (v) :: some (.int .i64 (k : Nat)) :: none :: none :: none :: none :: none :: none :: none :: none :: none :: none :: none :: none :: none :: none :: none :: none :: none :: none :: none :: none :: none :: none :: none :: none :: none :: none :: none :: none :: none :: none :: none :: none :: none :: none :: none :: none :: none :: none :: none :: none :: none :: none :: none :: none :: none :: none :: none :: none :: none :: none :: none :: none :: none :: none :: none :: none :: none :: none :: none :: none :: none :: none :: none :: none :: none :: none :: none :: none :: none :: none :: none :: none :: none :: none :: none :: none :: none :: none :: none :: none :: none :: none :: none :: none :: none :: none :: none :: none :: none :: none :: none :: none :: none :: none :: none :: none :: none :: none :: none :: none :: none :: none :: none :: none :: none :: none :: none :: none :: none :: none :: none :: none :: none :: none :: none :: none :: none :: none :: none :: none :: none :: none :: none :: none :: none :: none :: none :: none :: none :: none :: none :: none :: none :: none :: none :: none :: none :: none :: none :: none :: none :: none :: none :: none :: none :: none :: none :: none :: none :: none :: none :: none :: none :: none :: none :: none :: none :: none :: none :: none :: none :: none :: none :: none :: none :: none :: none :: none :: none :: none :: none :: none :: none :: none :: none :: none :: none :: none :: none :: none :: none :: none :: none :: none :: none :: none :: none :: none :: none :: none :: none :: []) b.tmps.toList) O.length ?_ ?_
    · refine ⟨rfl, 0, _, [], by omega, HO0, Lib.hid ⟨List.Pairwise.nil, fun x hx => (by cases hx), Nat.le_refl _⟩, ?_⟩
      repeat (first | exact fits_nil | refine fits_none ?_ | refine fits_some ?_)
    clear HO0 HE g0 g1 g2 g3
    clear W
    intro m b W hI K hK
    obtain ⟨hds, k, v, l, him, HW0, HU, hfit⟩ := hI
    obtain ⟨f, hf⟩ := fits_act hfit
    rw [hds] at hf
    subst hf
    clear hfit hds
    simp only [fillP, Nat.reduceAdd]
    have HG0 := Lib.hid (HG3.out.later HW0.out.be)
    obtain ⟨g0, g1, g2, g3⟩ := HG0.out.cells
    by_cases hlt : k < O.length
    · have j1 : (k : Int) < (O.length : Int) := by omega
      have j2 : (0 : Int) ≤ (k : Int) := by omega
      have j3 : IntKind.i64.wrap ((k : Int) + 1) = (k : Int) + 1 := by rw [IntKind.wrap_i64]; omega
      have Him := Lib.hid (show k + m = O.length ∧ k < O.length from ⟨him, hlt⟩)
      have hll : l.length ≤ 100 := by have := HU.out.2.2; omega
      have HRa := Lib.hid (HW0.out.later (balloc (brefl W) (.cells #[.int .i64 (k : Int)] 3)))
      obtain ⟨i0, hi0, hz0, hz1, hz2⟩ := info_parts info_int
      have hsz := HW0.out.be.size
      clear him hlt
      go_wp2_with (at_builtin; refine wpList_append_own _ rfl _ _ 48 rfl w4.heap.size 3 i0 (.int .i64 0) 1 8 und_ints hi0 hz0 hz1 hz2 rfl (by decide) v l.length _ rfl HRa.out.own ⟨W.heap.size, 0, none⟩ 1 1 [.int .i64 (k : Int)] rfl rfl (one_new _ _ _) (by simp [Value.oneCell']) (by simp only [maxLen]; omega) (by omega) (by simp; omega) ?_; intro v' W3 hown' hgr _; have HR4 := Lib.hid (HRa.out.app hgr hown'); clear hown' hgr)
      · refine hK _ _ (m - 1) (by have := Him.out; omega) ⟨rfl, k + 1, v', l ++ [(k : Int)], by have := Him.out; omega, HR4, Lib.hid HU.out.snoc, ?_⟩
        repeat (first | exact fits_nil | refine fits_none ?_ | refine fits_some ?_)
      · refine hK _ _ (m - 1) (by have := Him.out; omega) ⟨rfl, k + 1, v, l, by have := Him.out; omega, HW0, Lib.hid HU.out.next, ?_⟩
        repeat (first | exact fits_nil | refine fits_none ?_ | refine fits_some ?_)
    · obtain rfl : k = O.length := by omega
      have j1 : ¬ (O.length : Int) < (O.length : Int) := by omega
      have HR0 := Lib.hid (Sl.later HR3.out HW0.out.be)
      obtain ⟨LA, lc, rfl, hsl⟩ := own_slI HW0.out.own rfl
      have HL0 := Lib.hid hsl
      have Hup := Lib.hid (And.intro HU.out.is HU.out.2.2)
      clear him hlt hK hsl HW0 HU
      go_wp2_with fail
      refine (Hwo.out R _ _ _ _ HG0.out.sh HR0.out (by omega)).mono ?_
      rintro e w5 ⟨A1, c1, rfl, hb, hx⟩
      have HG1 := Lib.hid (HG0.out.later hb)
      have HR1 := Lib.hid (HR0.out.later hb)
      have HL1 := Lib.hid (HL0.out.later hb)
      clear hb HG0 HR0 HL0 g0 g1 g2 g3
      obtain ⟨g0, g1, g2, g3⟩ := HG1.out.cells
      have HX1 := Lib.hid (show ShopIn w5 w5.heap.size SA S.length sc PA P.length pc A1 (woO O R).length c1 S P (woO O R) from ⟨HG1.out.sh.stk, HG1.out.sh.prc, hx⟩)
      have hq := Hlw.out R A1 c1 _ HX1.out
      rw [Hri.out.ok] at hq
      have Hq1 := Lib.hid hq
      clear hx hq
      go_wp2_with fail
      refine (Hq1.out).mono ?_
      rintro e w6 ⟨rfl, hb, hX⟩
      have HG2 := Lib.hid (HG1.out.later hb)
      have HR2 := Lib.hid (HR1.out.later hb)
      have HL2 := Lib.hid (HL1.out.later hb)
      clear hb HG1 HR1 HL1 g0 g1 g2 g3
      obtain ⟨g0, g1, g2, g3⟩ := HG2.out.cells
      clear hX HX1 Hq1
      go_wp2_with fail
      refine (Hwo.out l _ _ _ _ HG2.out.sh HL2.out (by have := Hup.out.2; omega)).mono ?_
      rintro e w7 ⟨A2, c2, rfl, hb, hx⟩
      have HG3 := Lib.hid (HG2.out.later hb)
      have HR3 := Lib.hid (HR2.out.later hb)
      have HL3 := Lib.hid (HL2.out.later hb)
      clear hb HG2 HR2 HL2 g0 g1 g2 g3
      obtain ⟨g0, g1, g2, g3⟩ := HG3.out.cells
      have HX1 := Lib.hid (show ShopIn w7 w7.heap.size SA S.length sc PA P.length pc A2 (woO O l).length c2 S P (woO O l) from ⟨HG3.out.sh.stk, HG3.out.sh.prc, hx⟩)
      have Hq1 := Lib.hid (Hlw.out l A2 c2 _ HX1.out)
      clear hx
      have hmin := Hri.out.min l Hup.out.1
      generalize canB S.length (woO O l) (stockM S) = b2 at *
      go_wp2_with fail
      refine (Hq1.out).mono ?_
      rintro e w8 ⟨rfl, hb, hX⟩
      have HG4 := Lib.hid (HG3.out.later hb)
      have HR4 := Lib.hid (HR3.out.later hb)
      have HL4 := Lib.hid (HL3.out.later hb)
      clear hb HG3 HR3 HL3 g0 g1 g2 g3
      obtain ⟨g0, g1, g2, g3⟩ := HG4.out.cells
      clear hX HX1 Hq1
      have hu := Hu.out
      obtain ⟨g, hg⟩ : ∃ g : Nat, u2.tmod (S.length : Int) = (g : Int) := ⟨(u2.tmod (S.length : Int)).toNat, by
        rw [Int.tmod_eq_emod_of_nonneg hu.2.1.1]
        have := Int.emod_nonneg u2 (show (S.length : Int) ≠ 0 by omega)
        omega⟩
      have gl : g < S.length := by
        have h1 := Int.emod_lt_of_pos u2 (show (0 : Int) < (S.length : Int) by omega)
        rw [Int.tmod_eq_emod_of_nonneg hu.2.1.1] at hg
        omega
      have t1 : IntKind.i64.wrap u2 = u2 := by rw [IntKind.wrap_i64]; omega
      have t2 : IntKind.i64.wrap (g : Int) = (g : Int) := by rw [IntKind.wrap_i64]; omega
      have t3 : ¬ (S.length : Int) = 0 := by omega
      have t4 : IntKind.i64.wrap u3 = u3 := by rw [IntKind.wrap_i64]; omega
      have t5 : (g : Int) < (S.length : Int) := by omega
      have t6 : (0 : Int) ≤ (g : Int) := by omega
      obtain ⟨sb, so, x, rfl, hsb, hx, q0⟩ := HG4.out.sh.stk.ltI (i := g) gl
      have hx50 := HF.out.stk x (List.mem_of_getElem? hx)
      have hxg : S.getD g 0 = x := sl_getD hx
      obtain ⟨d, hdd⟩ : ∃ d, 50 - x = d := ⟨_, rfl⟩
      have t7 : IntKind.i64.wrap (50 - x) = d := by rw [IntKind.wrap_i64]; omega
      obtain ⟨mm, hmm⟩ : ∃ mm, (if d < u3 then d else u3) = mm := ⟨_, rfl⟩
      have hmb : 0 ≤ mm ∧ x + mm ≤ 50 := by rw [← hmm]; split <;> omega
      have hfx := fine_set HF.out (g := g) (v := S.getD g 0 + mm) (by rw [hxg]; omega)
      have hrx := refIs (n := S.length) (O := O) (M := stockM (S.set g (S.getD g 0 + mm))) (fun j => (stockM_bound hfx.stk (by omega) j).1)
      have hle2 := Hri.out.more hrx (fun j => by
        rw [stockM_set gl]
        unfold Gr9.upd
        split
        · rename_i e; subst e; omega
        · exact Int.le_refl _)
      have Hwi := Lib.hid (fun W (h : ShopIn W W.heap.size (some ⟨sb, so, none⟩) S.length sc PA P.length pc OA O.length oc S P O) => refWith_any (some ⟨sb, so, none⟩) S.length sc PA P.length pc OA O.length oc S P O g mm W h gl (by omega) (fun y hy => by have := HF.out.stk y hy; omega) (by omega))
      have Hre := Lib.hid (fun A c W (h : ShopIn W W.heap.size A S.length c PA P.length pc OA O.length oc (S.set g (S.getD g 0 + mm)) P O) => refuse_ok A S.length c PA P.length pc OA O.length oc (S.set g (S.getD g 0 + mm)) P O W h (fine_iff hfx))
      rw [List.length_set] at Hre
      generalize S.set g (S.getD g 0 + mm) = S2 at *
      generalize refR S.length O (stockM S2) = R2 at *
      clear hu gl hx hx50 hxg hdd hfx hrx
      go_wp2_with fail
      refine dag 13 (by kernel_rfl) (by kernel_rfl) (.is ?_ :: .is ?_ :: .is ?_ :: .is ?_ :: .is ?_ :: .is ?_ :: .is ?_ :: .is ?_ :: .is ?_ :: .is ?_ :: .is ?_ :: .like (WiS S.length (.slice PA P.length pc) (.slice OA O.length oc) S2) :: .like (NewB w8.heap.size) :: []) rfl ?st9 ?ob9
      case st9 => repeat (first | exact stab_nil | refine stab_is ?_ | refine stab_like WiS.stab ?_ | refine stab_like NewB.stab ?_)
      case ob9 =>
      intro env V hG
      obtain ⟨hc, hf⟩ := bcell hG
      have HGd := Lib.hid (HG4.out.later hG)
      have HGr := Lib.hid hG
      iterate 11 (refine obls_is ?_ ?_; unfold doesAt; go_simp; (try go_bits); (first | (refine ⟨brefl _, ?_⟩; rfl) | rfl); intro K hK; go_simp; refine hK _ ?_; clear hK K)
      refine obls_like (fun _ => ?_) ?_
      · unfold doesAt
        go_simp
        refine (Hwi.out V HGd.out.sh).mono ?_
        rintro e w3 ⟨A, c, rfl, hb3, hsl⟩
        exact ⟨_, rfl, hb3, A, c, rfl, hsl⟩
      intro K hK
      go_simp
      refine hK _ ?_
      clear hK K
      refine obls_like (fun hl => ?_) ?_
      · unfold doesAt
        go_simp
        exact ⟨balloc (brefl V) _, V.heap.size, rfl, HGr.out.size, Blk.new V 25 #[.slice none 0 0, .slice none 0 0, .slice none 0 0]⟩
      intro K hK
      go_simp
      refine hK _ ?_
      clear hK K
      refine obls_last (fun hok => ?_)
      obtain ⟨A, c, hE11, hsl⟩ : WiS S.length (.slice PA P.length pc) (.slice OA O.length oc) S2 (env 11) V := hok 11 _ rfl
      obtain ⟨XB, hE12, hXB, hz⟩ : NewB w8.heap.size (env 12) V := hok 12 _ rfl
      have hno := hsl.notShop hz
      have hb' := bset (bset (bset hG (p := ⟨XB, 0, none⟩) hXB (.slice A S.length c)) (p := ⟨XB, 1, none⟩) hXB (.slice PA P.length pc)) (p := ⟨XB, 2, none⟩) hXB (.slice OA O.length oc)
      have hbx := ((hz.set 0 (.slice A S.length c)).set 1 (.slice PA P.length pc)).set 2 (.slice OA O.length oc)
      have hsl2 := ((hsl.setO (p := ⟨XB, 0, none⟩) hno (.slice A S.length c)).setO (p := ⟨XB, 1, none⟩) hno (.slice PA P.length pc)).setO (p := ⟨XB, 2, none⟩) hno (.slice OA O.length oc)
      have HGf := Lib.hid (HG4.out.later hb')
      have HO0 := Lib.hid (show GW w _ XB A S.length c PA P.length pc OA O.length oc S2 P O from ⟨HGf.out.bel, hbx, ⟨hsl2.more (by simp), HGf.out.sh.prc, HGf.out.sh.ord⟩⟩)
      have y0 := hz.cell 0
      have y1 := hz.cell 1
      have y2 := hz.cell 2
      have y3 := hz.frozen 0
      have y4 := hz.frozen 1
      have y5 := hz.frozen 2
      have y6 := hz.lt
      clear hok hsl hz hno hb' hbx hsl2 HGf hG hc hf HGd HGr hXB q0 hg
      unfold doesAt
      simp only [hE11, hE12]
      go_simp
      clear y0 y1 y2 y3 y4 y5 y6 hE11 hE12 g0 g1 g2 g3
      generalize (((V.setCell ⟨XB, 0, none⟩ (.slice A S.length c)).setCell ⟨XB, 1, none⟩ (.slice PA P.length pc)).setCell ⟨XB, 2, none⟩ (.slice OA O.length oc)) = VX at *
      obtain ⟨o0, o1, o2, o3⟩ := HO0.out.cells
      have k1 : (R2.length : Int) ≤ (R.length : Int) := by omega
      cases hb2 : b2 with
      | true =>
        have k2 : (R.length : Int) ≤ (l.length : Int) := by have := hmin hb2; omega
        clear hmin hle2
        go_wp2_with fail
        refine (Hre.out _ _ _ HO0.out.sh).mono ?_
        rintro e w9 ⟨A9, n9, c9, rfl, hb, hsl⟩
        have HO1 := Lib.hid (HO0.out.later hb)
        clear hb HO0 o0 o1 o2 o3
        obtain ⟨o0, o1, o2, o3⟩ := HO1.out.cells
        obtain rfl := hsl.len
        clear hsl
        go_wp2_with fail
        refine (works_any _).mono ?_
        rintro e we ⟨rfl, hbe⟩
        have HBE := Lib.hid (Below.later HO1.out.bel hbe)
        clear hbe
        go_wp2
        go_ret
        exact ⟨rfl, HBE.out⟩
      | false =>
        clear hmin hle2
        go_wp2_with fail
        refine (Hre.out _ _ _ HO0.out.sh).mono ?_
        rintro e w10 ⟨A9, n9, c9, rfl, hb, hsl⟩
        have HO1 := Lib.hid (HO0.out.later hb)
        clear hb HO0 o0 o1 o2 o3
        obtain ⟨o0, o1, o2, o3⟩ := HO1.out.cells
        obtain rfl := hsl.len
        clear hsl
        go_wp2_with fail
        refine (works_any _).mono ?_
        rintro e we ⟨rfl, hbe⟩
        have HBE := Lib.hid (Below.later HO1.out.bel hbe)
        clear hbe
        go_wp2
        go_ret
        exact ⟨rfl, HBE.out⟩
end Go.Proofs.Ytmfiggbobaihcaa
