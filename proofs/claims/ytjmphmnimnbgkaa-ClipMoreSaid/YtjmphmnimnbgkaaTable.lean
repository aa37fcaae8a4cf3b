/- The table of a ribbon: how it lies in memory; where a sheet ends, whether it can be cut. -/
import Derived.Test.YtjmphmnimnbgkaaRibbon
import Derived.Test.YtjmphmnimnbgkaaDag
namespace Go.Proofs.Ytjmphmnimnbgkaa
open Go.RowKit Go.Shelf

/-- The kinds are valid. -/
def KOk (ks : List Kd) : Prop := 1 ≤ ks.length ∧ ks.length ≤ 6 ∧ ∀ x ∈ ks, badK x = false
theorem KOk.bd {ks : List Kd} (h : KOk ks) {i : Nat} {x : Kd} (hx : ks[i]? = some x) : (1 ≤ x.w ∧ x.w ≤ 24) ∧ (1 ≤ x.p ∧ x.p ≤ 1000) ∧ (0 ≤ x.m ∧ x.m ≤ 24) := (badK_iff x).1 (h.2.2 x (List.mem_of_getElem? hx))
theorem KOk.of {ks : List Kd} (h : kndE ks = 0) : KOk ks := by
  unfold kndE at h
  split at h
  · rename_i h1
    rw [inR_iff] at h1
    split at h
    · simp at h
    · rename_i h2
      exact ⟨by omega, by omega, fun x hx => by
        cases hb : badK x with
        | false => rfl
        | true => exact absurd (List.any_eq_true.2 ⟨x, hx, hb⟩) h2⟩
  · simp at h

/-- The table lies in block T: what is not changed any more. -/
structure TabC (w : World) (B T : Nat) (L : Nat) (FA : Option Addr) (fn fc : Nat) (KA : Option Addr) (kc : Nat) (ks : List Kd) (F : Nat → Int) : Prop where
  lt : T < B
  len : w.cell? ⟨T, 0, none⟩ = some (.int .i64 L)
  flt : w.cell? ⟨T, 1, none⟩ = some (.slice FA fn fc)
  knd : w.cell? ⟨T, 2, none⟩ = some (.slice KA ks.length kc)
  kds : Sl 3 encK w B KA ks.length kc ks
  fa : ∀ j, j < 25 → w.cell? ⟨T, 3 + j, none⟩ = some (.int .i64 (F j))
/-- And its two lists of worths. -/
structure Tab (w : World) (B T : Nat) (L : Nat) (FA : Option Addr) (fn fc : Nat) (KA : Option Addr) (kc : Nat) (ks : List Kd) (F A Bh : Nat → Int) : Prop where
  core : TabC w B T L FA fn fc KA kc ks F
  ah : ∀ j, j < 25 → w.cell? ⟨T, 28 + j, none⟩ = some (.int .i64 (A j))
  be : ∀ j, j < 25 → w.cell? ⟨T, 53 + j, none⟩ = some (.int .i64 (Bh j))

section
variable {w w' : World} {B B' T L : Nat} {FA : Option Addr} {fn fc : Nat} {KA : Option Addr} {kc : Nat} {ks : List Kd} {F A Bh : Nat → Int}
/-- It stays where its cells, but for those of the two lists of worths, and those of the kinds stay. -/
theorem TabC.keep (h : TabC w B T L FA fn fc KA kc ks F) (hk : ∀ b o, ((b = T ∧ o < 28) ∨ (b ≠ T ∧ ∃ o', KA = some ⟨b, o', none⟩)) → w'.cell? ⟨b, o, none⟩ = w.cell? ⟨b, o, none⟩) (hne : ∀ b o, KA = some ⟨b, o, none⟩ → b ≠ T) : TabC w' B T L FA fn fc KA kc ks F :=
  ⟨h.lt, (hk T 0 (.inl ⟨rfl, by omega⟩)).trans h.len, (hk T 1 (.inl ⟨rfl, by omega⟩)).trans h.flt, (hk T 2 (.inl ⟨rfl, by omega⟩)).trans h.knd,
   ⟨h.kds.len, h.kds.cap, h.kds.big, fun hn => by
      obtain ⟨b, o, hA, hB, hc⟩ := h.kds.at_ hn
      exact ⟨b, o, hA, hB, fun i x hx j u hu => (hk b _ (.inr ⟨hne b o hA, o, hA⟩)).trans (hc i x hx j u hu)⟩⟩,
   fun j hj => (hk T _ (.inl ⟨rfl, by omega⟩)).trans (h.fa j hj)⟩
theorem TabC.below (h : TabC w B T L FA fn fc KA kc ks F) (hb : Below B w w') : TabC w' B T L FA fn fc KA kc ks F :=
  ⟨h.lt, (hb.cell (p := ⟨T, 0, none⟩) h.lt).trans h.len, (hb.cell (p := ⟨T, 1, none⟩) h.lt).trans h.flt, (hb.cell (p := ⟨T, 2, none⟩) h.lt).trans h.knd, h.kds.below hb,
   fun j hj => (hb.cell (p := ⟨T, 3 + j, none⟩) h.lt).trans (h.fa j hj)⟩
theorem TabC.more (h : TabC w B T L FA fn fc KA kc ks F) (hB : B ≤ B') : TabC w B' T L FA fn fc KA kc ks F :=
  ⟨Nat.lt_of_lt_of_le h.lt hB, h.len, h.flt, h.knd, h.kds.more hB, h.fa⟩
theorem TabC.later (h : TabC w w.heap.size T L FA fn fc KA kc ks F) (hb : Below w.heap.size w w') : TabC w' w'.heap.size T L FA fn fc KA kc ks F := (h.below hb).more hb.size
theorem Tab.below (h : Tab w B T L FA fn fc KA kc ks F A Bh) (hb : Below B w w') : Tab w' B T L FA fn fc KA kc ks F A Bh :=
  ⟨h.core.below hb, fun j hj => (hb.cell (p := ⟨T, 28 + j, none⟩) h.core.lt).trans (h.ah j hj), fun j hj => (hb.cell (p := ⟨T, 53 + j, none⟩) h.core.lt).trans (h.be j hj)⟩
theorem Tab.more (h : Tab w B T L FA fn fc KA kc ks F A Bh) (hB : B ≤ B') : Tab w B' T L FA fn fc KA kc ks F A Bh := ⟨h.core.more hB, h.ah, h.be⟩
theorem Tab.later (h : Tab w w.heap.size T L FA fn fc KA kc ks F A Bh) (hb : Below w.heap.size w w') : Tab w' w'.heap.size T L FA fn fc KA kc ks F A Bh := (h.below hb).more hb.size
end

set_option maxHeartbeats 400000 in
theorem end_any (T kb ko n c i : Nat) (frm W : Int) (w : World)
    (h1 : w.cell? ⟨T, 2, none⟩ = some (.slice (some ⟨kb, ko, none⟩) n c)) (hi : i < n) (hT : T < w.heap.size) (hkb : kb < w.heap.size)
    (h2 : w.cell? ⟨kb, ko + i * 3, none⟩ = some (.int .i64 W)) (hf0 : 0 ≤ frm) (hf1 : frm ≤ 1000) (hW0 : 0 ≤ W) (hW1 : W ≤ 1000) :
    Calls Try.prog 58 #[.pointer (some ⟨T, 0, none⟩), .agg #[.int .i64 frm, .int .i64 i]] w fun e w' => e = .returned (.int .i64 (frm + W)) ∧ Below w.heap.size w w' := by
  go_enter Try.func58, Try.ntmps58
  go_wp2
  refine dag 13 (by kernel_rfl) (by kernel_rfl) (.is ?_ :: .is ?_ :: .is ?_ :: .is ?_ :: .is ?_ :: .is ?_ :: .is ?_ :: .is ?_ :: .is ?_ :: .is ?_ :: .is ?_ :: .is ?_ :: .is ?_ :: []) rfl ?st ?ob
  case ob =>
    intro env W' hG
    obtain ⟨hc, hf⟩ := bcell hG
    repeat (refine obls_is ?_ ?_; unfold doesAt; go_simp; (try go_bits); refine ⟨brefl _, ?_⟩; rfl; intro K hK; go_simp; refine hK _ ?_; clear hK K)
    refine obls_nil (fun _ => ?_)
    go_wp2
    go_ret
    exact ⟨rfl, Below.later (balloc (brefl _) _) hG⟩
  case st => simp [Spec.ok]

/-- Whether a sheet of a kind can be cut from a place on. -/
@[irreducible] def canB (L : Nat) (F : Nat → Int) (x : Kd) (fr : Nat) : Bool := decide (fr + x.w ≤ L) && decide (F (fr + x.w.toNat) - F fr ≤ x.m)
theorem canB_iff {L : Nat} {F : Nat → Int} {x : Kd} {fr : Nat} : canB L F x fr = true ↔ fr + x.w ≤ L ∧ F (fr + x.w.toNat) - F fr ≤ x.m := by unfold canB; simp

/-- The end of a sheet, by the table. -/
theorem end_tab {T L : Nat} {FA : Option Addr} {fn fc : Nat} {KA : Option Addr} {kc : Nat} {ks : List Kd} {F : Nat → Int} {w : World} (h : TabC w w.heap.size T L FA fn fc KA kc ks F) (hk : KOk ks)
    {i : Nat} {x : Kd} (hx : ks[i]? = some x) (frm : Int) (hf0 : 0 ≤ frm) (hf1 : frm ≤ 1000) :
    Calls Try.prog 58 #[.pointer (some ⟨T, 0, none⟩), .agg #[.int .i64 frm, .int .i64 i]] w fun e w' => e = .returned (.int .i64 (frm + x.w)) ∧ Below w.heap.size w w' := by
  have hi : i < ks.length := (List.getElem?_eq_some_iff.1 hx).1
  obtain ⟨b, o, y, hA, hb, hy, h0, _, _⟩ := h.kds.ltK hi
  rw [hx] at hy; cases hy
  have hbd := hk.bd hx
  subst hA
  exact end_any T b o ks.length kc i frm x.w w h.knd hi h.lt hb h0 hf0 hf1 (by omega) (by omega)

set_option maxHeartbeats 1000000 in
set_option maxRecDepth 100000 in
theorem can_any (T L kb ko n c i fr wd : Nat) (m G1 G2 : Int) (w : World)
    (h0 : w.cell? ⟨T, 0, none⟩ = some (.int .i64 L)) (h1 : w.cell? ⟨T, 2, none⟩ = some (.slice (some ⟨kb, ko, none⟩) n c)) (hi : i < n) (hT : T < w.heap.size) (hkb : kb < w.heap.size)
    (h2 : w.cell? ⟨kb, ko + i * 3, none⟩ = some (.int .i64 wd)) (h3 : w.cell? ⟨kb, ko + i * 3 + 2, none⟩ = some (.int .i64 m)) (hf1 : fr ≤ 24) (hW1 : wd ≤ 24) (hL : L ≤ 24)
    (h4 : w.cell? ⟨T, 3 + fr, none⟩ = some (.int .i64 G1)) (h5 : fr + wd ≤ L → w.cell? ⟨T, 3 + (fr + wd), none⟩ = some (.int .i64 G2)) (hG1 : 0 ≤ G1) (hG1' : G1 ≤ 24) (hG2 : 0 ≤ G2) (hG2' : G2 ≤ 24)
    (q : Bool) (hq : q = (decide (fr + wd ≤ L) && decide (G2 - G1 ≤ m))) :
    Calls Try.prog 78 #[.pointer (some ⟨T, 0, none⟩), .agg #[.int .i64 fr, .int .i64 i]] w fun e w' => e = .returned (.bool q) ∧ Below w.heap.size w w' := by
  have Hq := Lib.hid hq
  clear hq
  by_cases c1 : fr + wd ≤ L
  · have h5' := h5 c1
    have hd1 : decide ((fr : Int) + (wd : Int) ≤ (L : Int)) = true := by simp; omega
    clear h5
    go_enter Try.func78, Try.ntmps78
    go_wp2_with fail
    refine (end_any T kb ko n c i fr wd _ (by go_simp) hi (by simp; omega) (by simp; omega) (by go_simp) (by omega) (by omega) (by omega) (by omega)).mono ?_
    rintro e w1 ⟨rfl, hb1⟩
    have HB := Lib.hid (Below.later (balloc (brefl w) (.cells #[.int .i64 fr, .int .i64 i] 56)) hb1)
    have hz : w.heap.size < w1.heap.size := by have := hb1.size; simp at this; omega
    have hT1 : T < w1.heap.size := by omega
    have hkb1 : kb < w1.heap.size := by omega
    have k0 : w1.cell? ⟨w.heap.size, 0, none⟩ = some (.int .i64 fr) := (hb1.cell (p := ⟨w.heap.size, 0, none⟩) (by simp)).trans (by go_simp)
    have k1 : w1.cell? ⟨w.heap.size, 1, none⟩ = some (.int .i64 i) := (hb1.cell (p := ⟨w.heap.size, 1, none⟩) (by simp)).trans (by go_simp)
    have e0 := (HB.out.cell (p := ⟨T, 0, none⟩) hT).trans h0
    have e1 := (HB.out.cell (p := ⟨T, 2, none⟩) hT).trans h1
    have e2 := (HB.out.cell (p := ⟨kb, ko + i * 3, none⟩) hkb).trans h2
    have e3 := (HB.out.cell (p := ⟨kb, ko + i * 3 + 2, none⟩) hkb).trans h3
    have e4 := (HB.out.cell (p := ⟨T, 3 + fr, none⟩) hT).trans h4
    have e5 := (HB.out.cell (p := ⟨T, 3 + (fr + wd), none⟩) hT).trans h5'
    have j0 : (0 : Int) ≤ (fr : Int) + (wd : Int) := by omega
    have j1 : (fr : Int) + (wd : Int) < 25 := by omega
    have j2 : ((fr : Int) + (wd : Int)).toNat = fr + wd := by omega
    have j3 : (fr : Int) < 25 := by omega
    clear hb1 h0 h1 h2 h3 h4 h5' hT hkb
    go_wp2_with fail
    refine dag 34 (by kernel_rfl) (by kernel_rfl) (.is ?_ :: .is ?_ :: .is ?_ :: .is ?_ :: .is ?_ :: .is ?_ :: .is ?_ :: .is ?_ :: .is ?_ :: .is ?_ :: .is ?_ :: .is ?_ :: .is ?_ :: .is ?_ :: .is ?_ :: .is ?_ :: .is ?_ :: .is ?_ :: .is ?_ :: .is ?_ :: .is ?_ :: .is ?_ :: .is ?_ :: .is ?_ :: .is ?_ :: .is ?_ :: .is ?_ :: .is ?_ :: .is ?_ :: .is ?_ :: .is ?_ :: .is ?_ :: .is ?_ :: .is ?_ :: []) rfl ?st ?ob
    case ob =>
      intro env W' hG
      obtain ⟨hc, hf⟩ := bcell hG
      repeat (refine obls_is ?_ ?_; unfold doesAt; go_simp; (try go_bits); refine ⟨brefl _, ?_⟩; rfl; intro K hK; go_simp; refine hK _ ?_; clear hK K)
      refine obls_nil (fun _ => ?_)
      go_wp2
      go_ret
      exact ⟨ret_bool (by rw [Hq.out]; simp [c1]), Below.later HB.out hG⟩
    case st => simp [Spec.ok]
  · have hd1 : decide ((fr : Int) + (wd : Int) ≤ (L : Int)) = false := by simp; omega
    clear h5
    go_enter Try.func78, Try.ntmps78
    go_wp2_with fail
    refine (end_any T kb ko n c i fr wd _ (by go_simp) hi (by simp; omega) (by simp; omega) (by go_simp) (by omega) (by omega) (by omega) (by omega)).mono ?_
    rintro e w1 ⟨rfl, hb1⟩
    have HB := Lib.hid (Below.later (balloc (brefl w) (.cells #[.int .i64 fr, .int .i64 i] 56)) hb1)
    have hz : w.heap.size < w1.heap.size := by have := hb1.size; simp at this; omega
    have hT1 : T < w1.heap.size := by omega
    have hkb1 : kb < w1.heap.size := by omega
    have k0 : w1.cell? ⟨w.heap.size, 0, none⟩ = some (.int .i64 fr) := (hb1.cell (p := ⟨w.heap.size, 0, none⟩) (by simp)).trans (by go_simp)
    have k1 : w1.cell? ⟨w.heap.size, 1, none⟩ = some (.int .i64 i) := (hb1.cell (p := ⟨w.heap.size, 1, none⟩) (by simp)).trans (by go_simp)
    have e0 := (HB.out.cell (p := ⟨T, 0, none⟩) hT).trans h0
    have e1 := (HB.out.cell (p := ⟨T, 2, none⟩) hT).trans h1
    have e2 := (HB.out.cell (p := ⟨kb, ko + i * 3, none⟩) hkb).trans h2
    have e3 := (HB.out.cell (p := ⟨kb, ko + i * 3 + 2, none⟩) hkb).trans h3
    have e4 := (HB.out.cell (p := ⟨T, 3 + fr, none⟩) hT).trans h4
    clear hb1 h0 h1 h2 h3 h4 hT hkb
    go_wp2_with fail
    refine dag 34 (by kernel_rfl) (by kernel_rfl) (.is ?_ :: .is ?_ :: .is ?_ :: .is ?_ :: .is ?_ :: .is ?_ :: .is ?_ :: .is ?_ :: .is ?_ :: .is ?_ :: .is ?_ :: .is ?_ :: .is ?_ :: .is ?_ :: .is ?_ :: .is ?_ :: .is ?_ :: .is ?_ :: .is ?_ :: .is ?_ :: .is ?_ :: .is ?_ :: .is ?_ :: .is ?_ :: .is ?_ :: .is ?_ :: .is ?_ :: .is ?_ :: .is ?_ :: .is ?_ :: .is ?_ :: .is ?_ :: .is ?_ :: .is ?_ :: []) rfl ?st ?ob
    case ob =>
      intro env W' hG
      obtain ⟨hc, hf⟩ := bcell hG
      repeat (refine obls_is ?_ ?_; unfold doesAt; go_simp; (try go_bits); (first | (refine ⟨brefl _, ?_⟩; rfl) | rfl); intro K hK; go_simp; refine hK _ ?_; clear hK K)
      refine obls_nil (fun _ => ?_)
      go_wp2
      go_ret
      exact ⟨ret_bool (by rw [Hq.out]; simp [c1]), Below.later HB.out hG⟩
    case st => simp [Spec.ok]

theorem can_tab {T L : Nat} {FA : Option Addr} {fn fc : Nat} {KA : Option Addr} {kc : Nat} {ks : List Kd} {F : Nat → Int} {w : World} (h : TabC w w.heap.size T L FA fn fc KA kc ks F) (hk : KOk ks) (hL : L ≤ 24)
    (hF : ∀ j, 0 ≤ F j ∧ F j ≤ 24) {i : Nat} {x : Kd} (hx : ks[i]? = some x) (fr : Nat) (hf1 : fr ≤ 24) :
    Calls Try.prog 78 #[.pointer (some ⟨T, 0, none⟩), .agg #[.int .i64 fr, .int .i64 i]] w fun e w' => e = .returned (.bool (canB L F x fr)) ∧ Below w.heap.size w w' := by
  have hi : i < ks.length := (List.getElem?_eq_some_iff.1 hx).1
  obtain ⟨b, o, y, hA, hb, hy, h0, _, h2⟩ := h.kds.ltK hi
  rw [hx] at hy; cases hy
  have hbd := hk.bd hx
  subst hA
  obtain ⟨wd, hw⟩ : ∃ wd : Nat, x.w = wd := ⟨x.w.toNat, by omega⟩
  rw [hw] at h0
  refine can_any T L b o ks.length kc i fr wd x.m (F fr) (F (fr + wd)) w h.len h.knd hi h.lt hb h0 h2 hf1 (by omega) hL (h.fa fr (by omega)) (fun hle => ?_) (hF _).1 (hF _).2 (hF _).1 (hF _).2 _ ?_
  · have := h.fa (fr + wd) (by omega)
    exact this
  · rw [Bool.eq_iff_iff, canB_iff, hw]
    simp
    omega
end Go.Proofs.Ytjmphmnimnbgkaa
