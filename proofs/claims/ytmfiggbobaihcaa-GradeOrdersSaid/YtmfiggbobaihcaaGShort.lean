/- The store's short, can, cost. -/
import Derived.Test.YtmfiggbobaihcaaGOpen
namespace Go.Proofs.Ytmfiggbobaihcaa
open Go.RowKit Go.Shelf

/-- What orders ask for, of a grade or of better ones. -/
def askI (O : List Od) (g : Int) : Int := (O.map fun o => if o.g ≤ g then o.m else 0).sum
def sumN (M : Nat → Int) : Nat → Int
  | 0 => 0
  | n + 1 => sumN M n + M n
/-- What is short up to a grade. -/
def shortI (O : List Od) (M : Nat → Int) (g : Nat) : Int := askI O g - sumN M (g + 1)
theorem askI_take {O : List Od} {i : Nat} {x : Od} (g : Int) (h : O[i]? = some x) : askI (O.take (i + 1)) g = askI (O.take i) g + if x.g ≤ g then x.m else 0 := by
  unfold askI
  rw [List.take_add_one, h, Option.toList_some, List.map_append, List.sum_append]
  simp
theorem askI_bound : ∀ (O : List Od) (g : Int), (∀ o ∈ O, 0 ≤ o.m ∧ o.m ≤ 20) → 0 ≤ askI O g ∧ askI O g ≤ 20 * O.length
  | [], _, _ => ⟨by simp [askI], by simp [askI]⟩
  | o :: O, g, h => by
    have h1 := askI_bound O g fun x hx => h x (by simp [hx])
    have h2 := h o (by simp)
    have h3 : askI (o :: O) g = (if o.g ≤ g then o.m else 0) + askI O g := rfl
    rw [h3, List.length_cons]
    split <;> omega
theorem sumN_bound {M : Nat → Int} {b : Int} : ∀ n : Nat, (∀ j, j < n → 0 ≤ M j ∧ M j ≤ b) → 0 ≤ sumN M n ∧ sumN M n ≤ b * n
  | 0, _ => ⟨Int.le_refl _, by simp [sumN]⟩
  | n + 1, h => by
    have h1 := sumN_bound n fun j hj => h j (by omega)
    have h2 := h n (by omega)
    have h3 : sumN M (n + 1) = sumN M n + M n := rfl
    have h4 : b * ((n + 1 : Nat) : Int) = b * n + b := by rw [Int.natCast_add, Int.natCast_one, Int.mul_add, Int.mul_one]
    rw [h3, h4]
    omega
set_option maxRecDepth 100000 in
set_option maxHeartbeats 4000000 in
theorem short_any (T g : Nat) (SA : Option Addr) (sn sc : Nat) (PA : Option Addr) (pn pc : Nat) (OA : Option Addr) (on oc : Nat) (S P : List Int) (O : List Od) (M : Nat → Int) (w : World) (hs : StIn w T SA sn sc PA pn pc OA on oc S P O M) (hg : g < 5) (h8 : O.length ≤ 8) (hO : ∀ o ∈ O, 0 ≤ o.m ∧ o.m ≤ 20) (hM : ∀ j, j < 5 → 0 ≤ M j ∧ M j ≤ 150) :
    Calls Try.prog 63 #[.pointer (some ⟨T, 0, none⟩), .int .i64 (g : Int)] w fun e w' => e = .returned (.int .i64 (shortI O M g)) ∧ Below w.heap.size w w' := by
  obtain rfl := hs.sh.stk.len
  obtain rfl := hs.sh.prc.len
  obtain rfl := hs.sh.ord.len
  have HO0 := Lib.hid hs
  have HB0 := Lib.hid (brefl w)
  have HM := Lib.hid hM
  have HO := Lib.hid hO
  obtain ⟨o0, o1, o2, o3⟩ := HO0.out.cells
  obtain ⟨gi, hgi⟩ : ∃ gi : Int, gi = (g : Int) := ⟨_, rfl⟩
  rw [← hgi]
  have Hgi := Lib.hid hgi
  have hR : shortI O M g = askI O gi - sumN M (g + 1) := by rw [hgi]; rfl
  rw [hR]
  clear hs hM hO hgi hR
  go_enter Try.func63, Try.ntmps63
  go_wp2_with fail
  refine loop_n (fun m b W => b.defers = [] ∧ ∃ i : Nat, i + m = O.length ∧ Hid (StIn W T SA S.length sc PA P.length pc OA O.length oc S P O M) ∧ Hid (Below w.heap.size w W) ∧ Fits (some (.pointer (some ⟨T, 0, none⟩)) :: some (.int .i64 gi) :: none :: none :: none :: some (.int .i64 (askI (O.take i) gi)) :: none :: none :: none :: none :: none :: none :: none :: none :: some (.slice OA O.length oc) :: some (.int .i64 (O.length : Int)) :: some (.int .i64 (i : Nat)) :: none :: none :: none :: none :: none :: none :: none :: none :: none :: none :: none :: none :: none :: none :: none :: none :: none :: none :: none :: none :: none :: none :: none :: none :: none :: none :: none :: none :: []) b.tmps.toList) O.length ?_ ?_
  · refine ⟨rfl, 0, by omega, HO0, HB0, ?_⟩
    repeat (first | exact fits_nil | refine fits_none ?_ | refine fits_some ?_)
  clear HO0 HB0 o0 o1 o2 o3
  intro m b W hI K hK
  obtain ⟨hds, i, him, HO1, HB1, hfit⟩ := hI
  obtain ⟨f, hf⟩ := fits_act hfit
  rw [hds] at hf
  subst hf
  clear hfit hds
  simp only [fillP, Nat.reduceAdd]
  obtain ⟨o0, o1, o2, o3⟩ := HO1.out.cells
  by_cases hlt : i < O.length
  · obtain ⟨rb, ro, x, rfl, hrb, hx, p0, p1⟩ := HO1.out.sh.ord.ltO (i := i) hlt
    have hb := askI_bound (O.take i) gi fun o ho => HO.out o (List.mem_of_mem_take ho)
    have hxm := HO.out x (List.mem_of_getElem? hx)
    have ht := askI_take gi hx
    have hl : (O.take i).length ≤ 8 := by rw [List.length_take]; omega
    obtain ⟨a, b⟩ := x
    simp only at p0 p1 hxm ht
    have i1 : (i : Int) < (O.length : Int) := by omega
    have i2 : (0 : Int) ≤ (i : Int) := by omega
    have i3 : IntKind.i64.wrap ((i : Int) + 1) = (i : Int) + 1 := by rw [IntKind.wrap_i64]; omega
    have i4 : IntKind.i64.wrap (askI (O.take i) gi + b) = askI (O.take i) gi + b := by rw [IntKind.wrap_i64]; omega
    have Him := Lib.hid (show i + m = O.length ∧ i < O.length from ⟨him, hlt⟩)
    have HO2 := Lib.hid (HO1.out.later (balloc (brefl _) (.cells #[.int .i64 a, .int .i64 b] 66)))
    have HB2 := Lib.hid (Below.later HB1.out (balloc (brefl _) (.cells #[.int .i64 a, .int .i64 b] 66)))
    have j1 : rb < W.heap.size + 1 := by omega
    have j2 : W.heap.size ≠ rb := by omega
    generalize askI (O.take i) gi = q at *
    have Ht := Lib.hid ht
    clear hx him hlt hb hxm ht hl
    cases hd : decide (a ≤ gi) with
    | true =>
      have Ht2 := Lib.hid (show askI (O.take (i + 1)) gi = q + b by rw [Ht.out, if_pos (of_decide_eq_true hd)])
      go_wp2
      refine hK _ _ (m - 1) (by have := Him.out; omega) ⟨rfl, i + 1, by have := Him.out; omega, HO2, HB2, ?_⟩
      rw [Ht2.out]
      repeat (first | exact fits_nil | refine fits_none ?_ | refine fits_some ?_)
    | false =>
      have Ht2 := Lib.hid (show askI (O.take (i + 1)) gi = q by rw [Ht.out, if_neg (of_decide_eq_false hd), Int.add_zero])
      go_wp2
      refine hK _ _ (m - 1) (by have := Him.out; omega) ⟨rfl, i + 1, by have := Him.out; omega, HO2, HB2, ?_⟩
      rw [Ht2.out]
      repeat (first | exact fits_nil | refine fits_none ?_ | refine fits_some ?_)
  have i1 : ¬ (i : Int) < (O.length : Int) := by omega
  have hi : O.take i = O := List.take_of_length_le (by omega)
  rw [hi]
  have hb := askI_bound O gi HO.out
  obtain rfl := Hgi.out
  generalize hqe : askI O (g : Int) = q at *
  have Hqe := Lib.hid hqe
  clear hqe
  have Hq := Lib.hid (show 0 ≤ q ∧ q ≤ 160 by omega)
  have j1 : IntKind.i64.wrap ((g : Int) + 1) = (g : Int) + 1 := by rw [IntKind.wrap_i64]; omega
  have j2 : (g : Int) + 1 ≤ 5 := by omega
  have j3 : (0 : Int) ≤ (g : Int) + 1 := by omega
  have j4 : ((g : Int) + 1).toNat = g + 1 := by omega
  clear hK hi hlt him hb
  go_wp2_with fail
  refine loop_n (fun m b W => b.defers = [] ∧ ∃ i : Nat, i + m = g + 1 ∧ Hid (StIn W T SA S.length sc PA P.length pc OA O.length oc S P O M) ∧ Hid (Below w.heap.size w W) ∧ Fits (none :: none :: none :: none :: none :: some (.int .i64 (q - sumN M i)) :: none :: none :: none :: none :: none :: none :: none :: none :: none :: none :: none :: none :: none :: none :: none :: none :: none :: none :: none :: none :: none :: none :: none :: none :: none :: none :: none :: none :: some (.slice (some ⟨T, 3, none⟩) (g + 1) 5) :: some (.int .i64 ((g : Int) + 1)) :: some (.int .i64 (i : Nat)) :: none :: none :: none :: none :: none :: none :: none :: none :: []) b.tmps.toList) (g + 1) ?_ ?_
  · refine ⟨rfl, 0, by omega, HO1, HB1, ?_⟩
    rw [show q - sumN M 0 = q from Int.sub_zero q]
    repeat (first | exact fits_nil | refine fits_none ?_ | refine fits_some ?_)
  clear HO1 HB1 o0 o1 o2 o3 i1 j1 j2 j3 j4
  intro m b W hI K hK
  obtain ⟨hds, k, hkm, HO1, HB1, hfit⟩ := hI
  obtain ⟨f, hf⟩ := fits_act hfit
  rw [hds] at hf
  subst hf
  clear hfit hds
  simp only [fillP, Nat.reduceAdd]
  obtain ⟨o0, o1, o2, o3⟩ := HO1.out.cells
  by_cases hlt : k < g + 1
  · have p0 := HO1.out.stock (g := k) (by omega)
    have hb := sumN_bound (M := M) (b := 150) k (fun j hj => HM.out j (by omega))
    have hM := HM.out k (by omega)
    have hs : sumN M (k + 1) = sumN M k + M k := rfl
    have i1 : (k : Int) < (g : Int) + 1 := by omega
    have i2 : (0 : Int) ≤ (k : Int) := by omega
    have i3 : IntKind.i64.wrap ((k : Int) + 1) = (k : Int) + 1 := by rw [IntKind.wrap_i64]; omega
    have i4 : IntKind.i64.wrap (q - sumN M k - M k) = q - sumN M k - M k := by have := Hq.out; rw [IntKind.wrap_i64]; omega
    have i5 : k < g + 1 := hlt
    have Hkm := Lib.hid (show k + m = g + 1 ∧ k < g + 1 from ⟨hkm, hlt⟩)
    have Hs := Lib.hid (show q - sumN M (k + 1) = q - sumN M k - M k by rw [hs]; omega)
    generalize sumN M k = t at *
    clear hs hkm hlt hb hM
    go_wp2
    refine hK _ _ (m - 1) (by have := Hkm.out; omega) ⟨rfl, k + 1, by have := Hkm.out; omega, HO1, HB1, ?_⟩
    rw [Hs.out]
    repeat (first | exact fits_nil | refine fits_none ?_ | refine fits_some ?_)
  have i1 : ¬ (k : Int) < (g : Int) + 1 := by omega
  obtain rfl : k = g + 1 := by omega
  clear hK hkm hlt
  generalize hte : sumN M (g + 1) = t at *
  have Hte := Lib.hid hte
  clear hte
  go_wp2
  go_ret
  exact ⟨ret_int (by rw [Hqe.out, Hte.out]), HB1.out⟩
/-- All that stood stands. -/
structure Bel (w W : World) : Prop where
  b : Below w.heap.size w W
theorem Bel.later {w W W' : World} (h : Bel w W) (hb : Below W.heap.size W W') : Bel w W' := ⟨Below.later h.b hb⟩
theorem Bel.start (w : World) : Bel w w := ⟨brefl w⟩
/-- Whether all orders can be filled. -/
def canB (n : Nat) (O : List Od) (M : Nat → Int) : Bool := !((List.range n).any fun g => decide (0 < shortI O M g))
theorem canB_iff (n : Nat) (O : List Od) (M : Nat → Int) : canB n O M = true ↔ ∀ g, g < n → shortI O M g ≤ 0 := by
  unfold canB
  rw [Bool.not_eq_true', List.any_eq_false]
  simp only [List.mem_range, decide_eq_true_eq]
  constructor
  · intro h g hg; have := h g hg; omega
  · intro h g hg; have := h g hg; omega
set_option maxRecDepth 100000 in
set_option maxHeartbeats 4000000 in
theorem can_any (T : Nat) (SA : Option Addr) (sn sc : Nat) (PA : Option Addr) (pn pc : Nat) (OA : Option Addr) (on oc : Nat) (S P : List Int) (O : List Od) (M : Nat → Int) (w : World) (hs : StIn w T SA sn sc PA pn pc OA on oc S P O M) (h5 : S.length ≤ 5) (h8 : O.length ≤ 8) (hO : ∀ o ∈ O, 0 ≤ o.m ∧ o.m ≤ 20) (hM : ∀ j, j < 5 → 0 ≤ M j ∧ M j ≤ 150) :
    Calls Try.prog 78 #[.pointer (some ⟨T, 0, none⟩)] w fun e w' => e = .returned (.bool (canB S.length O M)) ∧ Below w.heap.size w w' := by
  obtain rfl := hs.sh.stk.len
  obtain rfl := hs.sh.prc.len
  obtain rfl := hs.sh.ord.len
  have HO0 := Lib.hid hs
  have HB0 := Lib.hid (Bel.start w)
  have HM := Lib.hid hM
  have HOO := Lib.hid hO
  obtain ⟨o0, o1, o2, o3⟩ := HO0.out.cells
  clear hs hM hO
  go_enter Try.func78, Try.ntmps78
  go_wp2_with fail
  refine loop_n (fun m b W => b.defers = [] ∧ ∃ i : Nat, i + m = S.length ∧ Hid (StIn W T SA S.length sc PA P.length pc OA O.length oc S P O M) ∧ Hid (Bel w W) ∧ Hid (∀ g, g < i → shortI O M g ≤ 0) ∧ Fits (some (.pointer (some ⟨T, 0, none⟩)) :: none :: none :: none :: none :: none :: none :: none :: none :: some (.int .i64 (S.length : Int)) :: some (.int .i64 (i : Nat)) :: none :: none :: none :: none :: none :: none :: none :: []) b.tmps.toList) S.length ?_ ?_
  · refine ⟨rfl, 0, by omega, HO0, HB0, Lib.hid (fun g h => by omega), ?_⟩
    repeat (first | exact fits_nil | refine fits_none ?_ | refine fits_some ?_)
  clear HO0 HB0 o0 o1 o2 o3
  intro m b W hI K hK
  obtain ⟨hds, i, him, HO1, HB1, HN, hfit⟩ := hI
  obtain ⟨f, hf⟩ := fits_act hfit
  rw [hds] at hf
  subst hf
  clear hfit hds
  simp only [fillP, Nat.reduceAdd]
  obtain ⟨o0, o1, o2, o3⟩ := HO1.out.cells
  by_cases hlt : i < S.length
  · have i1 : (i : Int) < (S.length : Int) := by omega
    have i2 : (0 : Int) ≤ (i : Int) := by omega
    have i3 : IntKind.i64.wrap ((i : Int) + 1) = (i : Int) + 1 := by rw [IntKind.wrap_i64]; omega
    have i5 : i < 5 := by omega
    have Him := Lib.hid (show i + m = S.length ∧ i < S.length from ⟨him, hlt⟩)
    have HE := Lib.hid (show 0 < shortI O M i → canB S.length O M = false from fun h => by
      rw [Bool.eq_false_iff]; intro h2; have := (canB_iff _ _ _).1 h2 i hlt; omega)
    clear him hlt
    have HO0 := HO1
    have HB0 := HB1
    clear HO1 HB1
    go_wp2_with fail
    refine (short_any T i _ _ _ _ _ _ _ _ _ S P O M _ HO0.out i5 h8 HOO.out HM.out).mono ?_
    rintro e w1 ⟨rfl, hb⟩
    have HO1 := Lib.hid (HO0.out.later hb)
    have HB1 := Lib.hid (HB0.out.later hb)
    clear hb HO0 HB0 o0 o1 o2 o3
    obtain ⟨o0, o1, o2, o3⟩ := HO1.out.cells
    generalize hq : shortI O M i = q
    rw [hq] at HE
    have Hq := Lib.hid hq
    clear hq
    cases hd : decide (0 < q) with
    | true =>
      have HR := Lib.hid (HE.out (of_decide_eq_true hd))
      clear hK
      go_wp2
      go_ret
      exact ⟨ret_bool HR.out.symm, HB1.out.b⟩
    | false =>
      have HN2 := Lib.hid (fun g (hg : g < i + 1) => by
        rcases Nat.lt_or_ge g i with h | h
        · exact HN.out g h
        · obtain rfl : g = i := by omega
          rw [Hq.out]; have := of_decide_eq_false hd; omega)
      go_wp2
      refine hK _ _ (m - 1) (by have := Him.out; omega) ⟨rfl, i + 1, by have := Him.out; omega, HO1, HB1, HN2, ?_⟩
      repeat (first | exact fits_nil | refine fits_none ?_ | refine fits_some ?_)
  have i1 : ¬ (i : Int) < (S.length : Int) := by omega
  have HR := Lib.hid ((canB_iff S.length O M).2 fun g hg => HN.out g (by omega))
  clear hK him hlt
  go_wp2
  go_ret
  exact ⟨ret_bool HR.out.symm, HB1.out.b⟩
/-- The price of so many sheets of each grade. -/
def costL (P : List Int) (F : Nat → Int) : Nat → Int
  | 0 => 0
  | n + 1 => costL P F n + P.getD n 0 * F n
end Go.Proofs.Ytmfiggbobaihcaa
