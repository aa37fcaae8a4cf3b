/- The sheets that can be cut from a place on: what the iterator yields, for every loop body that keeps the table (but for its lists of worths). -/
import Derived.Test.YtjmphmnimnbgkaaTable
import Derived.RangeFuncNested
import Derived.RangeFuncBound
import Derived.RangeFuncCalls
import Derived.RangeFuncLeaves
import Derived.Shelf.RegionOpen
import Derived.OwnWalkIn
import Derived.TacticsInMore
import Derived.LoopNIn
import Derived.LoopIn
namespace Go.Proofs.Ytjmphmnimnbgkaa
open Go.RowKit Go.Shelf
attribute [local go_sem] Oper.semAt_some

/-- Whether a sheet of kind number i can be cut from a place on. -/
def canI (L : Nat) (F : Nat → Int) (ks : List Kd) (fr i : Nat) : Bool := match ks[i]? with | some x => canB L F x fr | none => false
abbrev Ki (L : Nat) (F : Nat → Int) (ks : List Kd) (fr : Nat) := { i : Nat // canI L F ks fr i = true }
def kiTo (L : Nat) (F : Nat → Int) (ks : List Kd) (fr k : Nat) : List (Ki L F ks fr) := (List.range k).filterMap fun i => if h : canI L F ks fr i = true then some ⟨i, h⟩ else none
theorem kiTo_yes {L : Nat} {F : Nat → Int} {ks : List Kd} {fr k : Nat} (h : canI L F ks fr k = true) : kiTo L F ks fr (k + 1) = kiTo L F ks fr k ++ [⟨k, h⟩] := by
  simp [kiTo, List.range_succ, h]
theorem kiTo_no {L : Nat} {F : Nat → Int} {ks : List Kd} {fr k : Nat} (h : canI L F ks fr k = false) : kiTo L F ks fr (k + 1) = kiTo L F ks fr k := by
  simp [kiTo, List.range_succ, h]
theorem kiTo_len (L : Nat) (F : Nat → Int) (ks : List Kd) (fr k : Nat) : (kiTo L F ks fr k).length ≤ k := by
  unfold kiTo
  exact Nat.le_trans (List.length_filterMap_le _ _) (by simp)

theorem kiTo_val (L : Nat) (F : Nat → Int) (ks : List Kd) (fr k : Nat) : (kiTo L F ks fr k).map Subtype.val = (List.range k).filter (canI L F ks fr) := by
  induction k with
  | zero => rfl
  | succ k ih =>
    cases h : canI L F ks fr k with
    | true => rw [kiTo_yes h, List.map_append, ih, List.range_succ, List.filter_append]; simp [h]
    | false => rw [kiTo_no h, ih, List.range_succ, List.filter_append]; simp [h]

/-- What a round that goes on keeps: what the iterator reads: its two variables, the table (but for its lists of worths), and the kinds. -/
structure KpT (B1 B2 T : Nat) (KA : Option Addr) (W W' : World) : Prop where
  size : W.heap.size ≤ W'.heap.size
  cell : ∀ b o, ((b = T ∧ o < 28) ∨ (b ≠ T ∧ ∃ o', KA = some ⟨b, o', none⟩)) → W'.cell? ⟨b, o, none⟩ = W.cell? ⟨b, o, none⟩
  one : ∀ o, W'.cell? ⟨B1, o, none⟩ = W.cell? ⟨B1, o, none⟩
  two : ∀ o, W'.cell? ⟨B2, o, none⟩ = W.cell? ⟨B2, o, none⟩
section
variable {B1 B2 T : Nat} {KA : Option Addr} {A B C : World}
theorem KpT.refl (W : World) : KpT B1 B2 T KA W W := ⟨Nat.le_refl _, fun _ _ _ => rfl, fun _ => rfl, fun _ => rfl⟩
theorem KpT.trans (h : KpT B1 B2 T KA A B) (k : KpT B1 B2 T KA B C) : KpT B1 B2 T KA A C :=
  ⟨Nat.le_trans h.size k.size, fun b o hb => (k.cell b o hb).trans (h.cell b o hb), fun o => (k.one o).trans (h.one o), fun o => (k.two o).trans (h.two o)⟩
theorem KpT.of_below {m : Nat} (h : Below m A B) (h1 : B1 < m) (h2 : B2 < m) (hT : T < m) (hK : ∀ b o, KA = some ⟨b, o, none⟩ → b < m) : KpT B1 B2 T KA A B :=
  ⟨h.size, fun b o hb => h.cell (p := ⟨b, o, none⟩) (by
      show b < m
      rcases hb with ⟨rfl, _⟩ | ⟨_, o', h'⟩
      · exact hT
      · exact hK b o' h'), fun o => h.cell (p := ⟨B1, o, none⟩) h1, fun o => h.cell (p := ⟨B2, o, none⟩) h2⟩
end
theorem grown_none {W W' : World} (h : Below W.heap.size W W') : W.grownBy W' none := ⟨h.os, h.tape, h.output, h.size, fun k hk _ => h.block k hk⟩

set_option maxRecDepth 100000 in
set_option maxHeartbeats 2000000 in
theorem sheets1_in (n : Nat) (l B1 B2 T n₀ L : Nat) (FA : Option Addr) (fn fc : Nat) (KA : Option Addr) (kc : Nat) (ks : List Kd) (F : Nat → Int) (fr : Nat) (hk : KOk ks) (hL : L ≤ 24) (hF : ∀ j, 0 ≤ F j ∧ F j ≤ 24) (hfr : fr ≤ 24)
    (hne : ∀ b o, KA = some ⟨b, o, none⟩ → b ≠ T) (hB1 : B1 < n₀) (hB2 : B2 < n₀) (J Jx : List (Ki L F ks fr) → World → Prop) (W : World) (hn₀ : n₀ ≤ W.heap.size)
    (hJ : AbidesFrom W.heap.size J)
    (hY : ∀ pre x W1, J pre W1 → pre.length < ks.length → YieldAt Fence.wide (n - 1) Try.prog l #[.agg #[.int .i64 fr, .int .i64 (x.1 : Nat)]] W1 fun e W' =>
      (e = .returned (.bool true) ∧ J (pre ++ [x]) W' ∧ KpT B1 B2 T KA W1 W') ∨ (e = .returned (.bool false) ∧ Jx (pre ++ [x]) W'))
    (h1 : W.cell? ⟨B1, 0, none⟩ = some (.pointer (some ⟨T, 0, none⟩))) (h2 : W.cell? ⟨B2, 0, none⟩ = some (.int .i64 fr)) (hC : TabC W n₀ T L FA fn fc KA kc ks F) (h0 : J [] W) :
    CallsIn Fence.wide n Try.prog 82 #[.func (.yield l) #[] #[], .pointer (some ⟨B1, 0, none⟩), .pointer (some ⟨B2, 0, none⟩)] W fun e W' => (∃ v, e = .returned v) ∧
      ((∃ ys, ys = kiTo L F ks fr ks.length ∧ J ys W') ∨ (∃ pre, (∃ k, k ≤ ks.length ∧ pre = kiTo L F ks fr k) ∧ Jx pre W')) := by
  have hkl : ks.length ≤ 6 := hk.2.1
  have q1 := hC.len
  have q2 := hC.knd
  have Hc := Lib.hid hC
  have HY := Lib.hid hY
  have Hne := Lib.hid hne
  have Hk := Lib.hid hk
  have HF := Lib.hid hF
  have HJ := Lib.hid hJ
  clear hY hC hne hk hF hJ
  refine callsIn_of_wp Try.func82 rfl trivial ?_ rfl
  simp only [Try.ntmps82, List.size_toArray, List.length_cons, List.length_nil, Nat.reduceAdd, Nat.reduceSub, Array.replicate_succ, Array.replicate_zero, List.push_toArray, List.append_toArray, List.nil_append, List.cons_append]
  gi_wp2
  gi_loopw [11] (fun i wr => ∃ k : Nat, k ≤ ks.length ∧ i = .int .i64 k ∧ J (kiTo L F ks fr k) wr ∧ KpT B1 B2 T KA W wr)
    (fun i _ => ks.length - (intOf i).toNat)
  case atStart => exact ⟨0, Nat.zero_le _, rfl, h0, KpT.refl _⟩
  case round =>
    obtain ⟨k, hk, rfl, hJs, hnx⟩ := hrel
    have r1 := (hnx.one 0).trans h1
    have r2 := (hnx.two 0).trans h2
    have hCr := Hc.out.keep hnx.cell Hne.out
    have hsz : n₀ ≤ wr.heap.size := Nat.le_trans hn₀ hnx.size
    have hs1 : B1 < wr.heap.size := by omega
    have hs2 : B2 < wr.heap.size := by omega
    have HKb := Lib.hid (show ∀ b o, KA = some ⟨b, o, none⟩ → b < wr.heap.size from fun b o h => by obtain ⟨b', o', hA, hB, _⟩ := Hc.out.kds.at_ (by have := Hk.out.1; omega); rw [h] at hA; cases hA; omega)
    have HJs := Lib.hid hJs
    have Hnx := Lib.hid hnx
    have HCr := Lib.hid (hCr.more hsz)
    clear hJs hnx hCr q1 q2 h1 h2
    by_cases hlt : k < ks.length
    · obtain ⟨x, hx⟩ : ∃ x, ks[k]? = some x := ⟨_, List.getElem?_eq_getElem hlt⟩
      have hcan := Lib.hid (can_tab (w := wr.alloc (.cells #[.int .i64 fr, .int .i64 k] 56)) (HCr.out.later (balloc (brefl _) _)) Hk.out hL HF.out hx fr hfr)
      have hJ1 := HJ.out _ _ _ none HJs.out (World.grownBy_alloc wr (.cells #[.int .i64 fr, .int .i64 k] 56) none) (fun r e => by cases e)
      have HJ1 := Lib.hid hJ1
      clear hJ1
      cases hc : canI L F ks fr k with
      | true =>
        have hcb : canB L F x fr = true := by simpa [canI, hx] using hc
        rw [hcb] at hcan
        gi_wp2_with fail
        refine ⟨trivial, fun h => (by simp [Fence.wide] at h), ?_⟩
        refine (callsIn_wide.2 hcan.out).mono ?_
        rintro e w1 ⟨rfl, hb1⟩
        have hz : wr.heap.size < w1.heap.size := by have := hb1.size; simp at this; omega
        have t0 : w1.cell? ⟨wr.heap.size, 0, none⟩ = some (.int .i64 fr) := (hb1.cell (p := ⟨wr.heap.size, 0, none⟩) (by simp)).trans (by go_simp)
        have t1 : w1.cell? ⟨wr.heap.size, 1, none⟩ = some (.int .i64 k) := (hb1.cell (p := ⟨wr.heap.size, 1, none⟩) (by simp)).trans (by go_simp)
        have hJ2 := HJ.out _ _ _ none HJ1.out (grown_none hb1) (fun r e => by cases e)
        have Hb1 := Lib.hid (Below.later (balloc (brefl wr) _) hb1)
        obtain ⟨fn', tmps', assign', body', hy, hR⟩ := HY.out (kiTo L F ks fr k) ⟨k, hc⟩ w1 hJ2 (Nat.lt_of_le_of_lt (kiTo_len L F ks fr k) hlt)
        dsimp only at hy
        have HR := Lib.hid hR
        clear hb1 hJ2 hR
        gi_wp2
        refine ⟨fun h => (by simp [Fence.wide] at h), ?_⟩
        refine HR.out.mono ?_
        rintro e W3 (⟨rfl, hJ3, hk3⟩ | ⟨rfl, hJx3⟩)
        · have HJ3 := Lib.hid hJ3
          have Hk3 := Lib.hid hk3
          clear hJ3 hk3
          gi_wp2
          go_roundw
          case rel => exact ⟨k + 1, by omega, by go_num, by rw [kiTo_yes hc]; exact HJ3.out, (Hnx.out.trans (KpT.of_below Hb1.out hs1 hs2 (Nat.lt_of_lt_of_le Hc.out.lt hsz) HKb.out)).trans Hk3.out⟩
          case measure => simp [intOf]; omega
        · have HJx3 := Lib.hid hJx3
          clear hJx3
          gi_wp2
          refine bodyPost_ret (results_none rfl _ _ _) rfl ?_
          exact ⟨⟨_, rfl⟩, .inr ⟨_, ⟨k + 1, by omega, (kiTo_yes hc).symm⟩, HJx3.out⟩⟩
      | false =>
        have hcb : canB L F x fr = false := by simpa [canI, hx] using hc
        rw [hcb] at hcan
        gi_wp2_with fail
        refine ⟨trivial, fun h => (by simp [Fence.wide] at h), ?_⟩
        refine (callsIn_wide.2 hcan.out).mono ?_
        rintro e w1 ⟨rfl, hb1⟩
        have hJ2 := HJ.out _ _ _ none HJ1.out (grown_none hb1) (fun r e => by cases e)
        have Hb1 := Lib.hid (Below.later (balloc (brefl wr) _) hb1)
        have HJ2 := Lib.hid hJ2
        clear hb1 hJ2
        gi_wp2
        refine ⟨fun _ h => (by cases h), ?_⟩
        gi_wp2
        go_roundw
        case rel => exact ⟨k + 1, by omega, by go_num, by rw [kiTo_no hc]; exact HJ2.out, Hnx.out.trans (KpT.of_below Hb1.out hs1 hs2 (Nat.lt_of_lt_of_le Hc.out.lt hsz) HKb.out)⟩
        case measure => simp [intOf]; omega
    · obtain rfl : k = ks.length := by omega
      gi_wp2
      go_end0
      exact ⟨⟨_, rfl⟩, .inl ⟨_, rfl, HJs.out⟩⟩

/-- **What 't.sheets(from)' hands back yields: all sheets that can be cut there, in order; or a part of them.** -/
theorem sheets_stops (n : Nat) (B1 B2 T n₀ L : Nat) (FA : Option Addr) (fn fc : Nat) (KA : Option Addr) (kc : Nat) (ks : List Kd) (F : Nat → Int) (fr : Nat) (hk : KOk ks) (hL : L ≤ 24) (hF : ∀ j, 0 ≤ F j ∧ F j ≤ 24) (hfr : fr ≤ 24)
    (hne : ∀ b o, KA = some ⟨b, o, none⟩ → b ≠ T) (hB1 : B1 < n₀) (hB2 : B2 < n₀) (w : World) (hn₀ : n₀ ≤ w.heap.size)
    (h1 : w.cell? ⟨B1, 0, none⟩ = some (.pointer (some ⟨T, 0, none⟩))) (h2 : w.cell? ⟨B2, 0, none⟩ = some (.int .i64 fr)) (hC : TabC w n₀ T L FA fn fc KA kc ks F) :
    SeqStopsK Fence.wide n Try.prog 82 #[.pointer (some ⟨B1, 0, none⟩), .pointer (some ⟨B2, 0, none⟩)] (fun x : Ki L F ks fr => #[.agg #[.int .i64 fr, .int .i64 (x.1 : Nat)]]) (KpT B1 B2 T KA)
      (fun ys => ys = kiTo L F ks fr ks.length) (fun pre => ∃ k, k ≤ ks.length ∧ pre = kiTo L F ks fr k) ks.length w := fun l J Jx W hW hJ _ hY h0 =>
  sheets1_in n l B1 B2 T n₀ L FA fn fc KA kc ks F fr hk hL hF hfr hne hB1 hB2 J Jx W (Nat.le_trans hn₀ hW.size) hJ hY
    ((hW.cell (p := ⟨B1, 0, none⟩) (by show B1 < _; omega)).trans h1) ((hW.cell (p := ⟨B2, 0, none⟩) (by show B2 < _; omega)).trans h2) (hC.below (hW.mono hn₀)) h0

set_option maxHeartbeats 400000 in
theorem sheets_any (T fr : Nat) (w : World) :
    Calls Try.prog 69 #[.pointer (some ⟨T, 0, none⟩), .int .i64 fr] w fun e w' =>
      e = .returned (.func (.func 82) #[] #[.pointer (some ⟨w.heap.size, 0, none⟩), .pointer (some ⟨w.heap.size + 1, 0, none⟩)]) ∧
      (w.alloc (.cells #[.pointer (some ⟨T, 0, none⟩)] 76)).alloc (.cells #[.int .i64 fr] 3) = w' := by
  go_enter Try.func69, Try.ntmps69
  go_wp2
  go_ret
  exact ⟨rfl, rfl⟩
end Go.Proofs.Ytjmphmnimnbgkaa
