/- clip.Prices, where the ribbon and the kinds are valid: by how much more is worth what is up to each unit. -/
import Derived.Test.YtjmphmnimnbgkaaCuts
import Derived.Deep.RegionHeld3
import Derived.Deep.AppendLies
namespace Go.Proofs.Ytjmphmnimnbgkaa
open Go.RowKit Go.Shelf

def pricesAt (A : Nat → Int) (n : Nat) : List Int := (List.range n).map (fun j => A (j + 1) - A j)
theorem pricesAt_succ (A : Nat → Int) (n : Nat) : pricesAt A (n + 1) = pricesAt A n ++ [A (n + 1) - A n] := by simp [pricesAt, List.range_succ]
theorem pricesAt_len (A : Nat → Int) (n : Nat) : (pricesAt A n).length = n := by simp [pricesAt]
theorem und_longs : Try.prog.underlying 39 = some (.slice 2) := by kernel_rfl

def encL (x : Int) : List Value := [.int .i64 x]
/-- An owned row of numbers, as a slice that reads as a list. -/
theorem own_sl {W : World} {e : TypeId} {base n : Nat} {v : Value} {xs : List Int} (h : W.ownsRow base e 1 v n (xs.map (.int .i64))) : ∃ G c, v = .slice G n c ∧ Sl 1 encI W W.heap.size G n c xs := by
  have hl := h.1
  simp at hl
  rcases h.2 with ⟨rfl, rfl⟩ | ⟨g, cap, cur, rfl, _, hg, hc, hm, _, _⟩
  · exact ⟨none, 0, rfl, hl, Nat.le_refl _, by omega, fun h => absurd h (by omega)⟩
  · refine ⟨some ⟨g, 0, none⟩, cap, rfl, hl, hc, by simp only [maxLen] at hm; omega, fun _ => ⟨g, 0, rfl, (Array.getElem?_eq_some_iff.1 hg).1, fun i x hx j u hu => ?_⟩⟩
    have hj : j < 1 := (List.getElem?_eq_some_iff.1 hu).1
    obtain rfl : j = 0 := by omega
    simp only [encI, List.getElem?_cons_zero, Option.some.injEq] at hu
    subst hu
    have := h.cells rfl i (.int .i64 x) (by simp [hx])
    have hadd : (⟨g, 0, none⟩ : Addr).add i = ⟨g, i, none⟩ := by unfold Addr.add; split <;> simp_all
    rw [hadd] at this
    simpa using this

def LoopP (w : World) (T L : Nat) (A : Nat → Int) (n : Nat) (a : Act) (W : World) : Prop :=
  ∃ i v, i + n = L ∧ Fits (none :: none :: some (.pointer (some ⟨w.heap.size, 0, none⟩)) :: none :: none :: none :: some (.pointer (some ⟨T, 0, none⟩)) :: none :: some (v) :: none :: none :: none :: none :: none :: none :: none :: none :: none :: none :: none :: some (.int .i64 (L : Nat)) :: some (.int .i64 (i : Nat)) :: none :: none :: none :: none :: none :: none :: none :: none :: none :: none :: none :: none :: none :: none :: none :: none :: none :: none :: none :: none :: none :: []) a.tmps.toList ∧ a.defers = [] ∧ Below w.heap.size w W ∧ W.ownsRow (w.heap.size + 1) 2 1 v i ((pricesAt A i).map (.int .i64)) ∧ (∀ j, j < 25 → W.cell? ⟨T, 28 + j, none⟩ = some (.int .i64 (A j)))  ∧ v.ownBlock ≠ some T ∧ T < W.heap.size ∧ w.heap.size + 1 ≤ W.heap.size

set_option maxRecDepth 100000 in
set_option maxHeartbeats 2000000 in
theorem Prices_ok (L : Nat) (FA : Option Addr) (fn fc : Nat) (fs : List Int) (KA : Option Addr) (kc : Nat) (ks : List Kd) (w : World) (hfs : Sl 1 encI w w.heap.size FA fn fc fs) (hks : Sl 3 encK w w.heap.size KA ks.length kc ks) (he : rkE L fs ks = 0) :
    Calls Try.prog 33 #[.agg #[.int .i64 L, .slice FA fn fc], .slice KA ks.length kc] w fun e w' => ∃ G c, e = .returned (.tuple #[.slice G L c, .int .i64 0]) ∧ Below w.heap.size w w' ∧ Sl 1 encI w' w'.heap.size G L c (pricesAt (aheadAt L (Fst fs L) ks L) L) := by
  have ho := Lib.hid (fun W hb => open_ok L FA fn fc fs KA kc ks W (hfs.later (w' := W) hb) (hks.later hb) he)
  have hA := aheadAt_bd (L := L) (F := Fst fs L) (ks := ks)
  clear hfs hks he
  obtain ⟨A, hAe⟩ : ∃ A, aheadAt L (Fst fs L) ks L = A := ⟨_, rfl⟩
  rw [hAe]
  have HAe := Lib.hid hAe
  have HA := Lib.hid hA
  clear hAe hA
  go_enter Try.func33, Try.ntmps33
  go_wp2_with fail
  refine (ho.out _ (balloc (brefl w) _)).mono ?_
  rintro e w1 ⟨T, rfl, hb1, hT⟩
  have k0 : w1.cell? ⟨w.heap.size, 0, none⟩ = some (.int .i64 L) := (hb1.cell (p := ⟨w.heap.size, 0, none⟩) (by simp)).trans (by go_simp)
  have zs := hb1.size
  simp at zs
  have hbd := HA.out hT.kok L
  rw [HAe.out] at hbd
  have hcA : ∀ j, j < 25 → w1.cell? ⟨T, 28 + j, none⟩ = some (.int .i64 (A j)) := fun j hj => by rw [hT.tab.ah j hj, HAe.out]
  have hzT := hT.tab.core.lt
  have hl2 := hT.l2
  have Hbd := Lib.hid hbd
  have HB := Lib.hid (Below.later (balloc (brefl w) _) hb1)
  have HcA := Lib.hid hcA
  clear hb1 hT hcA hbd
  go_wp2_with fail
  refine loop_n (LoopP w T L A) L ?_ ?_
  · refine ⟨0, _, by omega, ?_, rfl, HB.out, World.ownsRow_nil _ _ _ _, HcA.out, by simp [Value.ownBlock], hzT, by omega⟩
    repeat (first | exact fits_nil | refine fits_none ?_ | refine fits_some ?_)
  clear HcA HB hzT zs k0
  clear w1
  intro n a W hI K hK
  obtain ⟨i, v, hin, hfit, hds, hbel, hown, hcA, hvT, hzT, hzs⟩ := hI
  obtain ⟨f, hf⟩ := fits_act hfit
  rw [hds] at hf
  subst hf
  clear hfit hds
  simp only [fillP, Nat.reduceAdd]
  by_cases hlt : i < L
  · have hc1 := hcA i (by omega)
    have hc2 := hcA (i + 1) (by omega)
    have j0 : (0 : Int) ≤ (i : Int) + 1 := by omega
    have j1 : (i : Int) + 1 < 25 := by omega
    have j2 : ((i : Int) + 1).toNat = i + 1 := by omega
    have j3 : (i : Int) < 25 := by omega
    have j4 : (0 : Int) ≤ (i : Int) := by omega
    obtain ⟨b1, b1'⟩ := Hbd.out i
    obtain ⟨b2, b2'⟩ := Hbd.out (i + 1)
    have hw1 : IntKind.i64.wrap ((i : Int) + 1) = (i : Int) + 1 := by rw [IntKind.wrap_i64]; omega
    have hw2 : IntKind.i64.wrap (A (i + 1) - A i) = A (i + 1) - A i := by rw [IntKind.wrap_i64]; omega
    have HcA := Lib.hid hcA
    have Hbel := Lib.hid hbel
    have Hown := Lib.hid hown
    clear hcA hbel hown
    obtain ⟨i0, hi0, hz0, hz1, hz2⟩ := info_parts info_long
    go_wp2_with fail
    go_region_held3 (fun w' => w'.cell? ⟨T, 28 + i, none⟩ = some (.int .i64 (A i)) ∧ w'.cell? ⟨T, 28 + (i + 1), none⟩ = some (.int .i64 (A (i + 1))))
      (first
        | go_keep
        | (go_split_ands
           refine ⟨?_, ?_⟩
           · (rw [hgrow.cell_far _ (by simp; omega) (Ne.symm hvT)]; assumption)
           · (rw [hgrow.cell_far _ (by simp; omega) (Ne.symm hvT)]; assumption)))
      ((refine step_append_lies _ (by rfl) _ _ _ (by rfl) (w.heap.size + 1) 2 i0 _ 1 8 und_longs hi0 hz0 hz1 hz2 rfl (by omega) v i _ (by rfl) ((Hown.out.alloc _).drew)
          ⟨W.heap.size, 0, none⟩ 1 1 [.int .i64 (A (i + 1) - A i)] (by rfl) (by rfl) (World.news_of_block (cs := #[.int .i64 (A (i + 1) - A i)]) (t := 2) (fr := (0, 0)) (heap_alloc_new W _)) (by simp [Value.oneCell'])
          (by omega) (by simp only [maxLen]; omega) (by omega) (by simp; omega) (W.heap.size + 1) (by simp) ?_; intro gg cap w3 hown1 hgrow hat hlt'))
    have hs3 := hgrow.size
    simp at hs3
    have hrow : ∀ k, v.ownBlock = some k → w.heap.size + 1 ≤ k := fun k hk => (Hown.out.lt k hk).1
    have hWd : Below W.heap.size W (W.alloc (Obj.cells #[Value.int .i64 (A (i + 1) - A i)] 2)).drew := bdrew (balloc (brefl W) _) 1
    have hbel3 : Below w.heap.size w w3 := (Hbel.out.trans (hWd.mono Hbel.out.size)).trans ⟨hgrow.os, hgrow.tape, hgrow.output, hgrow.size, fun k hk => hgrow.block k (by simp; omega) (fun e => by have := hrow k e.symm; omega)⟩
    have hcA3 : ∀ j, j < 25 → w3.cell? ⟨T, 28 + j, none⟩ = some (.int .i64 (A j)) := fun j hj => by
      rw [hgrow.cell_far ⟨T, 28 + j, none⟩ (by simp; omega) (Ne.symm hvT)]
      exact (hWd.cell (p := ⟨T, 28 + j, none⟩) hzT).trans (HcA.out j hj)
    have hvT3 : (Value.slice (some ⟨gg, 0, none⟩) (i + 1) cap).ownBlock ≠ some T := by
      simp only [Value.ownBlock, ne_eq, Option.some.injEq]
      rintro rfl
      rcases hat with h | h
      · exact hvT h
      · omega
    have hown3 : w3.ownsRow (w.heap.size + 1) 2 1 (.slice (some ⟨gg, 0, none⟩) (i + 1) cap) (i + 1) ((pricesAt A (i + 1)).map (.int .i64)) := by
      rw [pricesAt_succ, List.map_append]
      exact hown1
    have HcA3 := Lib.hid hcA3
    have Hbel3 := Lib.hid hbel3
    have Hown3 := Lib.hid hown3
    clear hown1 hgrow hat hbel3 hcA3 hown3 hWd
    go_wp2
    refine hK _ _ (n - 1) (by omega) ⟨i + 1, _, by omega, ?_, rfl, Hbel3.out, Hown3.out, HcA3.out, hvT3, by omega, by omega⟩
    repeat (first | exact fits_nil | refine fits_none ?_ | refine fits_some ?_)
  · obtain rfl : L = i := by omega
    obtain ⟨G, c, rfl, hsl⟩ := own_sl hown
    have Hsl := Lib.hid hsl
    have Hbel := Lib.hid hbel
    clear hsl hbel hown hcA hK hin hvT
    go_wp2
    go_ret2
    exact ⟨G, c, rfl, Hbel.out, Hsl.out⟩
end Go.Proofs.Ytjmphmnimnbgkaa
