/- The store's cost. -/
import Derived.Test.YtmfiggbobaihcaaGShort
namespace Go.Proofs.Ytmfiggbobaihcaa
open Go.RowKit Go.Shelf

/-- Five numbers. -/
def ctsA (F : Nat → Int) : Array Value := #[.int .i64 (F 0), .int .i64 (F 1), .int .i64 (F 2), .int .i64 (F 3), .int .i64 (F 4)]
theorem cts_cell {W : World} {B : Nat} {t : TypeId} {F : Nat → Int} (h : Blk W B t (ctsA F)) {g : Nat} (hg : g < 5) : W.cell? ⟨B, g, none⟩ = some (.int .i64 (F g)) := by
  rcases g with _ | _ | _ | _ | _ | g
  · exact h.cell 0
  · exact h.cell 1
  · exact h.cell 2
  · exact h.cell 3
  · exact h.cell 4
  · omega
theorem costL_bound {P : List Int} {F : Nat → Int} (hP : ∀ x ∈ P, 0 ≤ x ∧ x ≤ 100) : ∀ n : Nat, (∀ j, j < n → 0 ≤ F j ∧ F j ≤ 1000) → 0 ≤ costL P F n ∧ costL P F n ≤ 100000 * n
  | 0, _ => ⟨Int.le_refl _, by simp [costL]⟩
  | n + 1, h => by
    have h1 := costL_bound hP n fun j hj => h j (by omega)
    have h2 := h n (by omega)
    have h3 : 0 ≤ P.getD n 0 ∧ P.getD n 0 ≤ 100 := by
      rw [List.getD_eq_getElem?_getD]
      cases hx : P[n]? with
      | none => exact ⟨by simp, by simp⟩
      | some x => simpa using hP x (List.mem_of_getElem? hx)
    have h4 := Int.mul_nonneg h3.1 h2.1
    have h5 : P.getD n 0 * F n ≤ 100 * 1000 := Int.mul_le_mul h3.2 h2.2 h2.1 (by omega)
    have h6 : costL P F (n + 1) = costL P F n + P.getD n 0 * F n := rfl
    rw [h6]
    omega
theorem sl_getD {xs : List Int} {i : Nat} {x : Int} (h : xs[i]? = some x) : xs.getD i 0 = x := by rw [List.getD_eq_getElem?_getD, h]; rfl
set_option maxRecDepth 100000 in
set_option maxHeartbeats 4000000 in
theorem cost_any (T : Nat) (SA : Option Addr) (sn sc : Nat) (PA : Option Addr) (pn pc : Nat) (OA : Option Addr) (on oc : Nat) (S P : List Int) (O : List Od) (M F : Nat → Int) (w : World) (hs : StIn w T SA sn sc PA pn pc OA on oc S P O M) (h5 : P.length ≤ 5) (hP : ∀ x ∈ P, 0 ≤ x ∧ x ≤ 100) (hF : ∀ j, j < 5 → 0 ≤ F j ∧ F j ≤ 1000) :
    Calls Try.prog 61 #[.pointer (some ⟨T, 0, none⟩), .agg (ctsA F)] w fun e w' => e = .returned (.int .i64 (costL P F P.length)) ∧ Below w.heap.size w w' := by
  obtain rfl := hs.sh.stk.len
  obtain rfl := hs.sh.prc.len
  obtain rfl := hs.sh.ord.len
  have hb := balloc (brefl w) (.cells (ctsA F) 81)
  have HO0 := Lib.hid (hs.later hb)
  have HB0 := Lib.hid ((Bel.start w).later hb)
  have HX0 := Lib.hid (Blk.new w 81 (ctsA F))
  have HF := Lib.hid hF
  have HP := Lib.hid hP
  obtain ⟨o0, o1, o2, o3⟩ := HO0.out.cells
  clear hs hF hP hb
  unfold ctsA at o0 o1 o2 o3
  unfold ctsA
  go_enter Try.func61, Try.ntmps61
  go_wp2_with fail
  refine loop_n (fun m b W => b.defers = [] ∧ ∃ i : Nat, i + m = P.length ∧ Hid (StIn W T SA S.length sc PA P.length pc OA O.length oc S P O M) ∧ Hid (Bel w W) ∧ Hid (Blk W w.heap.size 81 (ctsA F)) ∧ Fits (none :: none :: none :: some (.pointer (some ⟨w.heap.size, 0, none⟩)) :: none :: some (.int .i64 (costL P F i)) :: none :: none :: none :: none :: none :: none :: some (.slice PA P.length pc) :: some (.int .i64 (P.length : Int)) :: some (.int .i64 (i : Nat)) :: none :: none :: none :: none :: none :: none :: none :: none :: none :: none :: none :: none :: none :: []) b.tmps.toList) P.length ?_ ?_
  · refine ⟨rfl, 0, by omega, HO0, HB0, HX0, ?_⟩
    repeat (first | exact fits_nil | refine fits_none ?_ | refine fits_some ?_)
  clear HO0 HB0 HX0 o0 o1 o2 o3
  intro m b W hI K hK
  obtain ⟨hds, i, him, HO1, HB1, HX1, hfit⟩ := hI
  obtain ⟨f, hf⟩ := fits_act hfit
  rw [hds] at hf
  subst hf
  clear hfit hds
  simp only [fillP, Nat.reduceAdd]
  obtain ⟨o0, o1, o2, o3⟩ := HO1.out.cells
  by_cases hlt : i < P.length
  · obtain ⟨rb, ro, x, rfl, hrb, hx, p0⟩ := HO1.out.sh.prc.ltI (i := i) hlt
    have q0 := cts_cell HX1.out (g := i) (by omega)
    have hb := costL_bound HP.out i (fun j hj => HF.out j (by omega))
    have hs : costL P F (i + 1) = costL P F i + x * F i := by rw [costL, sl_getD hx]
    have hb2 := costL_bound HP.out (i + 1) (fun j hj => HF.out j (by omega))
    have hx1 := HP.out x (List.mem_of_getElem? hx)
    have hf1 := HF.out i (by omega)
    have hm0 := Int.mul_nonneg hx1.1 hf1.1
    rw [hs] at hb2
    have i1 : (i : Int) < (P.length : Int) := by omega
    have i2 : (0 : Int) ≤ (i : Int) := by omega
    have i3 : IntKind.i64.wrap ((i : Int) + 1) = (i : Int) + 1 := by rw [IntKind.wrap_i64]; omega
    have i4 : IntKind.i64.wrap (x * F i) = x * F i := by rw [IntKind.wrap_i64]; omega
    have i5 : IntKind.i64.wrap (costL P F i + x * F i) = costL P F i + x * F i := by rw [IntKind.wrap_i64]; omega
    have i6 : (i : Int) < 5 := by omega
    have Him := Lib.hid (show i + m = P.length ∧ i < P.length from ⟨him, hlt⟩)
    generalize costL P F i = q at *
    have Hs := Lib.hid hs
    clear hs him hlt hb hb2 hx1 hf1 hm0 hx
    go_wp2
    refine hK _ _ (m - 1) (by have := Him.out; omega) ⟨rfl, i + 1, by have := Him.out; omega, HO1, HB1, HX1, ?_⟩
    rw [Hs.out]
    repeat (first | exact fits_nil | refine fits_none ?_ | refine fits_some ?_)
  have i1 : ¬ (i : Int) < (P.length : Int) := by omega
  obtain rfl : i = P.length := by omega
  clear hK him hlt
  generalize hte : costL P F P.length = t at *
  have Hte := Lib.hid hte
  clear hte
  go_wp2
  go_ret
  exact ⟨ret_int (by rw [Hte.out]), HB1.out.b⟩
end Go.Proofs.Ytmfiggbobaihcaa
