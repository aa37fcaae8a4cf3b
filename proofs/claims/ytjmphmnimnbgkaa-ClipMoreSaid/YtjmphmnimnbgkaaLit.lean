/- The short functions that write the examples: of, longs, Ribbon, Kind, ten, three. -/
import Derived.Test.YtjmphmnimnbgkaaBase
import Derived.Test.YtjmphmnimnbgkaaNew
namespace Go.Proofs.Ytjmphmnimnbgkaa
open Go.RowKit Go.Shelf

theorem of_any (A : Option Addr) (n c : Nat) (w : World) :
    Calls Try.prog 52 #[.slice A n c] w fun e w' => e = .returned (.slice A n c) ∧ w = w' := by
  go_enter Try.func52, Try.ntmps52
  go_wp2
  go_ret
  exact ⟨rfl, rfl⟩
theorem longs_any (A : Option Addr) (n c : Nat) (w : World) :
    Calls Try.prog 51 #[.slice A n c] w fun e w' => e = .returned (.slice A n c) ∧ w = w' := by
  go_enter Try.func51, Try.ntmps51
  go_wp2
  go_ret
  exact ⟨rfl, rfl⟩
theorem ribbon_lit (L : Int) (A : Option Addr) (n c : Nat) (w : World) :
    Calls Try.prog 46 #[.int .i64 L, .slice A n c] w fun e w' => e = .returned (.agg #[.int .i64 L, .slice A n c]) ∧ Below w.heap.size w w' := by
  go_enter Try.func46, Try.ntmps46
  go_wp2
  exact bodyPost_ret (v := .agg #[.int .i64 L, .slice A n c]) (by simp [results, Try.results46, go_sem]) rfl ⟨rfl, balloc (brefl w) _⟩
theorem kind_lit (a b c : Int) (w : World) :
    Calls Try.prog 74 #[.int .i64 a, .int .i64 b, .int .i64 c] w fun e w' => e = .returned (.agg #[.int .i64 a, .int .i64 b, .int .i64 c]) ∧ Below w.heap.size w w' := by
  go_enter Try.func74, Try.ntmps74
  go_wp2
  exact bodyPost_ret (v := .agg #[.int .i64 a, .int .i64 b, .int .i64 c]) (by simp [results, Try.results74, go_sem]) rfl ⟨rfl, balloc (brefl w) _⟩
/-- A whole block of ints, as a slice that reads as a list. -/
theorem Blk.sl {W : World} {b : Nat} {t : TypeId} {xs : List Int} (h : Blk W b t ((xs.map (Value.int .i64)).toArray)) (hl : xs.length ≤ 1000) : Sl 1 encI W W.heap.size (some ⟨b, 0, none⟩) xs.length xs.length xs :=
  ⟨rfl, Nat.le_refl _, by omega, fun _ => ⟨b, 0, rfl, h.lt, fun i x hx j u hu => by
    have hj : j < 1 := (List.getElem?_eq_some_iff.1 hu).1
    obtain rfl : j = 0 := by omega
    simp only [encI, List.getElem?_cons_zero, Option.some.injEq] at hu
    subst hu
    rw [h.cell]
    simp [hx]⟩⟩
theorem flatK (xs : List Kd) : ∀ (i : Nat) (x : Kd), xs[i]? = some x → ∀ j, j < 3 → (xs.flatMap encK)[i * 3 + j]? = (encK x)[j]? := by
  induction xs with
  | nil => intro i x hx; simp at hx
  | cons y ys ih =>
    intro i x hx j hj
    cases i with
    | zero =>
      simp only [List.getElem?_cons_zero, Option.some.injEq] at hx
      subst hx
      rw [List.flatMap_cons, List.getElem?_append_left (by simp [encK]; omega)]
      simp
    | succ i =>
      simp only [List.getElem?_cons_succ] at hx
      rw [List.flatMap_cons, List.getElem?_append_right (by simp [encK]; omega), ← ih i x hx j hj]
      congr 1
      simp [encK]
      omega
theorem Blk.slK {W : World} {b : Nat} {t : TypeId} {xs : List Kd} (h : Blk W b t ((xs.flatMap encK).toArray)) (hl : xs.length ≤ 1000) : Sl 3 encK W W.heap.size (some ⟨b, 0, none⟩) xs.length xs.length xs :=
  ⟨rfl, Nat.le_refl _, by omega, fun _ => ⟨b, 0, rfl, h.lt, fun i x hx j u hu => by
    have hj : j < 3 := (List.getElem?_eq_some_iff.1 hu).1
    rw [h.cell]
    simp only [List.getElem?_toArray, Nat.zero_add]
    rw [flatK xs i x hx j hj]
    exact hu⟩⟩
theorem Sl.setOther {α : Type} {k : Nat} {enc : α → List Value} {w : World} {B : Nat} {A : Option Addr} {n c : Nat} {xs : List α} (h : Sl k enc w B A n c xs) (b o : Nat) (u : Value) (hA : ∀ b' o', A = some ⟨b', o', none⟩ → b' ≠ b) : Sl k enc (w.setCell ⟨b, o, none⟩ u) B A n c xs :=
  ⟨h.len, h.cap, h.big, fun hn => by
    obtain ⟨b', o', hA', hB, hc⟩ := h.at_ hn
    exact ⟨b', o', hA', hB, fun i x hx j v hv => (World.cell?_setCell_other w ⟨b, o, none⟩ ⟨b', o' + i * k + j, none⟩ u (fun e => hA b' o' hA' (by simpa using (congrArg Addr.block e).symm))).trans (hc i x hx j v hv)⟩⟩
theorem ten_lit (w : World) :
    Calls Try.prog 48 #[] w fun e w' => ∃ A, e = .returned (.agg #[.int .i64 (10 : Nat), .slice A 2 2]) ∧ Below w.heap.size w w' ∧ Sl 1 encI w' w'.heap.size A 2 2 [3, 8] := by
  go_enter Try.func48, Try.ntmps48
  go_wp2_with fail
  refine (ribbon_lit _ _ _ _ _).mono ?_
  rintro e w1 ⟨rfl, hb1⟩
  have hB := Below.later (balloc (balloc (brefl w) _) _) hb1
  have hsl := (Blk.sl (xs := [3, 8]) (t := 3) (Blk.new (w.alloc (.cells #[.int .i64 0, .slice none 0 0] 24)) 3 _) (by simp)).later hb1
  have HB := Lib.hid hB
  have HS := Lib.hid hsl
  have hc : ∀ b o, b < w.heap.size + 1 → w1.cell? ⟨b, o, none⟩ = ((w.alloc (.cells #[.int .i64 0, .slice none 0 0] 24)).alloc (.cells #[.int .i64 3, .int .i64 8] 3)).cell? ⟨b, o, none⟩ := fun b o h => hb1.cell (p := ⟨b, o, none⟩) (by simp; omega)
  have hf : ∀ b o, b < w.heap.size + 1 → w1.frozen? ⟨b, o, none⟩ = ((w.alloc (.cells #[.int .i64 0, .slice none 0 0] 24)).alloc (.cells #[.int .i64 3, .int .i64 8] 3)).frozen? ⟨b, o, none⟩ := fun b o h => hb1.frozen (p := ⟨b, o, none⟩) (by simp; omega)
  have hz : w.heap.size + 1 < w1.heap.size := by have := hb1.size; simp at this; omega
  clear hb1 hB hsl
  go_wp2
  refine bodyPost_ret (v := .agg #[.int .i64 (10 : Nat), .slice (some ⟨w.heap.size + 1, 0, none⟩) 2 2]) (by simp [results, Try.results48, go_sem, hc]) rfl ⟨_, rfl, bset (bset HB.out (Nat.le_refl _) _) (Nat.le_refl _) _, ?_⟩
  have h2 := (HS.out.setOther w.heap.size 0 (.int .i64 10) (by simp)).setOther w.heap.size 1 (.slice (some ⟨w.heap.size + 1, 0, none⟩) 2 2) (by simp)
  simpa using h2
theorem three_lit (w : World) :
    Calls Try.prog 49 #[] w fun e w' => ∃ A, e = .returned (.slice A 3 3) ∧ Below w.heap.size w w' ∧ Sl 3 encK w' w'.heap.size A 3 3 [⟨4, 10, 0⟩, ⟨2, 3, 0⟩, ⟨3, 4, 1⟩] := by
  go_enter Try.func49, Try.ntmps49
  go_wp2_with fail
  refine (kind_lit _ _ _ _).mono ?_
  rintro e w1 ⟨rfl, hb1⟩
  have HB1 := Lib.hid hb1
  clear hb1
  go_wp2_with fail
  refine (kind_lit _ _ _ _).mono ?_
  rintro e w2 ⟨rfl, hb2⟩
  have HB2 := Lib.hid (Below.later HB1.out hb2)
  clear hb2 
  go_wp2_with fail
  refine (kind_lit _ _ _ _).mono ?_
  rintro e w3 ⟨rfl, hb3⟩
  have HB3 := Lib.hid (Below.later HB2.out hb3)
  clear hb3
  go_wp2_with fail
  go_ret
  refine ⟨_, rfl, balloc HB3.out _, ?_⟩
  exact Blk.slK (xs := [⟨4, 10, 0⟩, ⟨2, 3, 0⟩, ⟨3, 4, 1⟩]) (Blk.new _ _ _) (by simp)
end Go.Proofs.Ytjmphmnimnbgkaa
