/- Words for memory that all walks of this seat use: slices that read as lists, facts that stay in later worlds. No condition. -/
import Derived.Test.YtmfiggbobaihcaaProg
import Derived.WalkKit
import Derived.BigQuiet
import Derived.Deep.QuietTactic
import Derived.WalkSpells
import Derived.WalkLawsBesides
import Derived.Lib.Hide
import Derived.Shelf.Abstract
import Derived.Outline
namespace Go.Proofs.Ytmfiggbobaihcaa
open Go.RowKit

theorem bcell {W w1 : World} (hb : Below W.heap.size W w1) : (∀ b o, b < W.heap.size → w1.cell? ⟨b, o, none⟩ = W.cell? ⟨b, o, none⟩) ∧ (∀ b o, b < W.heap.size → w1.frozen? ⟨b, o, none⟩ = W.frozen? ⟨b, o, none⟩) :=
  ⟨fun b o h => hb.cell (p := ⟨b, o, none⟩) h, fun b o h => hb.frozen (p := ⟨b, o, none⟩) h⟩

/-- A slice value '.slice A n c' reads as the list xs: each element x in k cells, 'enc x'; its block lies below B. -/
structure Sl {α : Type} (k : Nat) (enc : α → List Value) (w : World) (B : Nat) (A : Option Addr) (n c : Nat) (xs : List α) : Prop where
  len : xs.length = n
  cap : n ≤ c
  big : c ≤ 9223372036854775807
  at_ : 0 < n → ∃ b o, A = some ⟨b, o, none⟩ ∧ b < B ∧ ∀ i x, xs[i]? = some x → ∀ j u, (enc x)[j]? = some u → w.cell? ⟨b, o + i * k + j, none⟩ = some u

theorem Sl.below {α : Type} {k : Nat} {enc : α → List Value} {w w' : World} {B : Nat} {A : Option Addr} {n c : Nat} {xs : List α} (h : Sl k enc w B A n c xs) (hb : Below B w w') : Sl k enc w' B A n c xs :=
  ⟨h.len, h.cap, h.big, fun hn => by
    obtain ⟨b, o, hA, hB, hc⟩ := h.at_ hn
    exact ⟨b, o, hA, hB, fun i x hx j u hu => (hb.cell (p := ⟨b, o + i * k + j, none⟩) hB).trans (hc i x hx j u hu)⟩⟩

theorem Sl.more {α : Type} {k : Nat} {enc : α → List Value} {w : World} {B B' : Nat} {A : Option Addr} {n c : Nat} {xs : List α} (h : Sl k enc w B A n c xs) (hB : B ≤ B') : Sl k enc w B' A n c xs :=
  ⟨h.len, h.cap, h.big, fun hn => by
    obtain ⟨b, o, hA, hb, hc⟩ := h.at_ hn
    exact ⟨b, o, hA, by omega, hc⟩⟩

/-- In a later world, its blocks counted anew. -/
theorem Sl.later {α : Type} {k : Nat} {enc : α → List Value} {w w' : World} {A : Option Addr} {n c : Nat} {xs : List α} (h : Sl k enc w w.heap.size A n c xs) (hb : Below w.heap.size w w') : Sl k enc w' w'.heap.size A n c xs :=
  (h.below hb).more hb.size

theorem Sl.nil_ {α : Type} {k : Nat} {enc : α → List Value} {w : World} {B : Nat} : Sl (α := α) k enc w B none 0 0 [] :=
  ⟨rfl, by omega, by omega, fun h => absurd h (by omega)⟩

theorem Sl.lt {α : Type} {k : Nat} {enc : α → List Value} {w : World} {B : Nat} {A : Option Addr} {n c : Nat} {xs : List α} (h : Sl k enc w B A n c xs) {i : Nat} (hi : i < n) : ∃ b o x, A = some ⟨b, o, none⟩ ∧ b < B ∧ xs[i]? = some x ∧ ∀ j u, (enc x)[j]? = some u → w.cell? ⟨b, o + i * k + j, none⟩ = some u := by
  obtain ⟨b, o, hA, hB, hc⟩ := h.at_ (by omega)
  have hl := h.len
  exact ⟨b, o, xs[i], hA, hB, List.getElem?_eq_getElem (by omega), hc i _ (List.getElem?_eq_getElem (by omega))⟩

/-- How an int stands in memory. -/
def encI (x : Int) : List Value := [.int .i64 x]
/-- How a kind of sheets stands in memory. -/
structure Kd where
  w : Int
  p : Int
  m : Int
  deriving DecidableEq
def encK (x : Kd) : List Value := [.int .i64 x.w, .int .i64 x.p, .int .i64 x.m]
/-- How a sheet stands in memory. -/
structure Sh where
  f : Int
  k : Int
  deriving DecidableEq
def encS (x : Sh) : List Value := [.int .i64 x.f, .int .i64 x.k]

theorem Sl.ltI {w : World} {B : Nat} {A : Option Addr} {n c : Nat} {xs : List Int} (h : Sl 1 encI w B A n c xs) {i : Nat} (hi : i < n) : ∃ b o x, A = some ⟨b, o, none⟩ ∧ b < B ∧ xs[i]? = some x ∧ w.cell? ⟨b, o + i, none⟩ = some (.int .i64 x) := by
  obtain ⟨b, o, x, hA, hB, hx, hc⟩ := h.lt hi
  exact ⟨b, o, x, hA, hB, hx, by simpa using hc 0 _ rfl⟩
theorem Sl.ltS {w : World} {B : Nat} {A : Option Addr} {n c : Nat} {xs : List Sh} (h : Sl 2 encS w B A n c xs) {i : Nat} (hi : i < n) : ∃ b o x, A = some ⟨b, o, none⟩ ∧ b < B ∧ xs[i]? = some x ∧ w.cell? ⟨b, o + i * 2, none⟩ = some (.int .i64 x.f) ∧ w.cell? ⟨b, o + i * 2 + 1, none⟩ = some (.int .i64 x.k) := by
  obtain ⟨b, o, x, hA, hB, hx, hc⟩ := h.lt hi
  exact ⟨b, o, x, hA, hB, hx, by simpa using hc 0 _ rfl, by simpa using hc 1 _ rfl⟩
theorem Sl.ltK {w : World} {B : Nat} {A : Option Addr} {n c : Nat} {xs : List Kd} (h : Sl 3 encK w B A n c xs) {i : Nat} (hi : i < n) : ∃ b o x, A = some ⟨b, o, none⟩ ∧ b < B ∧ xs[i]? = some x ∧ w.cell? ⟨b, o + i * 3, none⟩ = some (.int .i64 x.w) ∧ w.cell? ⟨b, o + i * 3 + 1, none⟩ = some (.int .i64 x.p) ∧ w.cell? ⟨b, o + i * 3 + 2, none⟩ = some (.int .i64 x.m) := by
  obtain ⟨b, o, x, hA, hB, hx, hc⟩ := h.lt hi
  exact ⟨b, o, x, hA, hB, hx, by simpa using hc 0 _ rfl, by simpa using hc 1 _ rfl, by simpa using hc 2 _ rfl⟩
def encB (x : Nat) : List Value := [.int .u8 x]
theorem Sl.ltB {w : World} {B : Nat} {A : Option Addr} {n c : Nat} {xs : List Nat} (h : Sl 1 encB w B A n c xs) {i : Nat} (hi : i < n) : ∃ b o x, A = some ⟨b, o, none⟩ ∧ b < B ∧ xs[i]? = some x ∧ w.cell? ⟨b, o + i, none⟩ = some (.int .u8 x) := by
  obtain ⟨b, o, x, hA, hB, hx, hc⟩ := h.lt hi
  exact ⟨b, o, x, hA, hB, hx, by simpa using hc 0 _ rfl⟩

/-- The index of the first element of which p holds; -1. -/
def idxB {α : Type} (p : α → Bool) : List α → Nat → Int
  | [], _ => -1
  | x :: l, i => if p x then i else idxB p l (i + 1)

theorem idxB_ge {α : Type} (p : α → Bool) (l : List α) (i : Nat) : decide (0 ≤ idxB p l i) = l.any p := by
  induction l generalizing i with
  | nil => simp [idxB]
  | cons x l ih =>
    simp only [idxB, List.any_cons]
    by_cases h : p x
    · simp [h]
    · simp [h, ih (i + 1)]

theorem idxB_drop {α : Type} (p : α → Bool) (l : List α) (i : Nat) (h : ∀ j x, j < i → l[j]? = some x → p x = false) : idxB p l 0 = idxB p (l.drop i) i := by
  have : ∀ (i a : Nat), (∀ j x, j < i → l[j]? = some x → p x = false) → i ≤ l.length → idxB p l a = idxB p (l.drop i) (a + i) := by
    intro i
    induction i with
    | zero => intro a _ _; simp
    | succ i ih =>
      intro a h hl
      rw [ih a (fun j x hj hx => h j x (by omega) hx) (by omega)]
      rw [List.drop_eq_getElem_cons (by omega)]
      have hp := h i _ (by omega) (List.getElem?_eq_getElem (by omega))
      simp [idxB, hp, Nat.add_assoc]
  by_cases hi : i ≤ l.length
  · simpa using this i 0 h hi
  · have h2 := this l.length 0 (fun j x hj hx => h j x (by omega) hx) (Nat.le_refl _)
    rw [h2, List.drop_length, List.drop_eq_nil_of_le (by omega)]
    simp [idxB]

theorem idxB_at {α : Type} {p : α → Bool} {l : List α} {k : Nat} {x : α} (h : ∀ j y, j < k → l[j]? = some y → p y = false) (hx : l[k]? = some x) (hp : p x = true) : idxB p l 0 = k := by
  rw [idxB_drop p l k h]
  obtain ⟨hk, rfl⟩ := List.getElem?_eq_some_iff.1 hx
  rw [List.drop_eq_getElem_cons hk]
  simp [idxB, hp]

theorem idxB_no {α : Type} {p : α → Bool} {l : List α} (h : ∀ j y, j < l.length → l[j]? = some y → p y = false) : idxB p l 0 = -1 := by
  rw [idxB_drop p l l.length h, List.drop_length]
  rfl

theorem no_succ {α : Type} {p : α → Bool} {l : List α} {k : Nat} {x : α} (h : ∀ j y, j < k → l[j]? = some y → p y = false) (hx : l[k]? = some x) (hp : p x = false) : ∀ j y, j < k + 1 → l[j]? = some y → p y = false := by
  intro j y hj hy
  by_cases e : j = k
  · subst e; rw [hx] at hy; cases hy; exact hp
  · exact h j y (by omega) hy

theorem ret_int {k : IntKind} {a b : Int} (h : a = b) : Ending.returned (.int k a) = .returned (.int k b) := by rw [h]
theorem ret_bool {a b : Bool} (h : a = b) : Ending.returned (.bool a) = .returned (.bool b) := by rw [h]
/-- Two calls, one behind the other. -/
theorem Below.later {W w1 w2 : World} (h1 : Below W.heap.size W w1) (h2 : Below w1.heap.size w1 w2) : Below W.heap.size W w2 := h1.trans (h2.mono h1.size)
theorem balloc {W w1 : World} (h : Below W.heap.size W w1) (o : Obj) : Below W.heap.size W (w1.alloc o) := h.alloc h.size o
theorem bdrew {W w1 : World} (h : Below W.heap.size W w1) (n : Nat) : Below W.heap.size W (w1.drewN n) := ⟨h.os, h.tape, h.output, h.size, h.block⟩
theorem bset {W w1 : World} (h : Below W.heap.size W w1) {p : Addr} (hp : W.heap.size ≤ p.block) (u : Value) : Below W.heap.size W (w1.setCell p u) := h.setCell hp u
theorem brefl (W : World) : Below W.heap.size W W := Below.refl _ _
end Go.Proofs.Ytmfiggbobaihcaa
