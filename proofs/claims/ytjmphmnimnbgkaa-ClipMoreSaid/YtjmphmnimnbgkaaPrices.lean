/- The worth of cuts, the first cuts, and prices, as the program returns them. -/
import Derived.Test.YtjmphmnimnbgkaaFirst
import Derived.Laws.CopyOwn
import Derived.Deep.RegionHeld3
import Derived.Deep.AppendLies
namespace Go.Proofs.Ytjmphmnimnbgkaa
open Go.RowKit Go.Shelf

set_option maxHeartbeats 1000000 in
theorem Worth_ok (L : Nat) (FA : Option Addr) (fn fc : Nat) (fs : List Int) (KA : Option Addr) (kc : Nat) (ks : List Kd) (w : World) (hfs : Sl 1 encI w w.heap.size FA fn fc fs) (hks : Sl 3 encK w w.heap.size KA ks.length kc ks) (he : rkE L fs ks = 0) :
    Calls Try.prog 24 #[.agg #[.int .i64 L, .slice FA fn fc], .slice KA ks.length kc] w fun e w' => e = .returned (.tuple #[.int .i64 (aheadAt L (Fst fs L) ks L L), .int .i64 0]) ∧ Below w.heap.size w w' := by
  have ho := Lib.hid (fun W hb => open_ok L FA fn fc fs KA kc ks W (hfs.later (w' := W) hb) (hks.later hb) he)
  clear hfs hks he
  obtain ⟨AL, hAL⟩ : ∃ AL, aheadAt L (Fst fs L) ks L L = AL := ⟨_, rfl⟩
  rw [hAL]
  have HAL := Lib.hid hAL
  clear hAL
  go_enter Try.func24, Try.ntmps24
  go_wp2_with fail
  refine (ho.out _ (balloc (brefl w) _)).mono ?_
  rintro e w1 ⟨T, rfl, hb1, hT⟩
  have k0 : w1.cell? ⟨w.heap.size, 0, none⟩ = some (.int .i64 L) := (hb1.cell (p := ⟨w.heap.size, 0, none⟩) (by simp)).trans (by go_simp)
  have zs := hb1.size
  simp at zs
  have hz : w.heap.size < w1.heap.size := by omega
  have hzT := hT.tab.core.lt
  have ha := hT.tab.ah L (by have := hT.l2; omega)
  have hl2 := hT.l2
  have j0 : (L : Int) < 25 := by omega
  have HB := Lib.hid (Below.later (balloc (brefl w) _) hb1)
  clear hb1 hT
  rw [HAL.out] at ha
  go_wp2_with fail
  refine dag 9 (by kernel_rfl) (by kernel_rfl) (.is ?_ :: .is ?_ :: .is ?_ :: .is ?_ :: .is ?_ :: .is ?_ :: .is ?_ :: .is ?_ :: .is ?_ :: []) rfl ?st ?ob
  case st => simp [Spec.ok]
  case ob =>
    intro env W' hG
    obtain ⟨hc, hf⟩ := bcell hG
    repeat (refine obls_is ?_ ?_; unfold doesAt; go_simp; (try go_bits); refine ⟨brefl _, ?_⟩; rfl; intro K hK; go_simp; refine hK _ ?_; clear hK K)
    refine obls_nil (fun _ => ?_)
    go_wp2
    go_ret2
    exact ⟨rfl, Below.later HB.out hG⟩

set_option maxHeartbeats 1000000 in
theorem Count_ok (L : Nat) (FA : Option Addr) (fn fc : Nat) (fs : List Int) (KA : Option Addr) (kc : Nat) (ks : List Kd) (w : World) (hfs : Sl 1 encI w w.heap.size FA fn fc fs) (hks : Sl 3 encK w w.heap.size KA ks.length kc ks) (he : rkE L fs ks = 0) :
    Calls Try.prog 28 #[.agg #[.int .i64 L, .slice FA fn fc], .slice KA ks.length kc] w fun e w' => e = .returned (.tuple #[.int .i64 (manyAt L (Fst fs L) ks (behindAt L (Fst fs L) ks L) L 0), .int .i64 0]) ∧ Below w.heap.size w w' := by
  have ho := Lib.hid (fun W hb => open_ok L FA fn fc fs KA kc ks W (hfs.later (w' := W) hb) (hks.later hb) he)
  clear hfs hks he
  go_enter Try.func28, Try.ntmps28
  go_wp2_with fail
  refine (ho.out _ (balloc (brefl w) _)).mono ?_
  rintro e w1 ⟨T, rfl, hb1, hT⟩
  have HB := Lib.hid (Below.later (balloc (brefl w) _) hb1)
  have HT := Lib.hid hT
  clear hb1 hT
  go_wp2_with fail
  refine (count_any T L FA fn fc KA kc fs ks w1 HT.out).mono ?_
  rintro e w2 ⟨rfl, hb2⟩
  have HB2 := Lib.hid (Below.later HB.out hb2)
  clear hb2
  go_wp2
  go_ret2
  exact ⟨rfl, HB2.out⟩

theorem run_copy_any {P : Program} (w : World) (dT sT ty elem : TypeId) (g dLen dCap : Nat) (a : Addr) (sLen sCap : Nat) (cur : Array Value) (t : TypeId) (cs : List Value) (i : TypeInfo)
    (hu : P.underlying dT = some (.slice elem)) (hi : P.info? elem = some i)
    (hg : w.heap[g]? = some (.cells cur t (0, 0))) (hn : cs.length = Nat.min sLen dLen * i.size)
    (hsrc : ∀ j v, cs[j]? = some v → w.cell? (a.add j) = some v) (hfit : cs.length ≤ cur.size) (h1 : ∀ v ∈ cs, v.oneCell' = true) :
    (Builtin.copy_ #[dT, sT] ty #[.slice (some ⟨g, 0, none⟩) dLen dCap, .slice (some a) sLen sCap]).run P w =
      .ok (goInt (Nat.min sLen dLen : Nat)) (w.setRow g (cs ++ cur.toList.drop cs.length).toArray) := by
  have hl := run_loadCells_list (P := P) w a cs hsrc
  have hst := run_storeCells_at P g 0 t cs 0 cur w hg (by simpa using hfit) h1
  simp only [Nat.add_zero, Nat.zero_add, List.take_zero, List.nil_append] at hst
  simp [Builtin.copy_, run_underlying hu, Builtin.lenOf, Builtin.firstCells, sizeOf, typeInfo, hi, ← hn, hl, hst]

theorem make_sheets (n : Nat) (hn : n ≤ 1000) (W : World) :
    (Instr.makeSlice 26 (.int .i64 n) (.int .i64 n)).run Try.prog W = .ok (.slice (some ⟨W.heap.size, 0, none⟩) n n) (W.alloc (.cells (madeCells #[.int .i64 0, .int .i64 0] (n * 2)) 56)) := by
  obtain ⟨i0, hi, hz0, hz1, hz2⟩ := info_parts info_sheet
  have h := run_make (P := Try.prog) W 26 56 i0 (.agg #[.int .i64 0, .int .i64 0]) und_sheets hi hz0 .i64 .i64 n n (by omega) (Int.le_refl _) (by rw [hz2]; omega) (by omega)
  rw [hz1] at h
  simpa [Value.cells] using h
theorem encS_get {xs : List Sh} {i : Nat} {x : Sh} (hx : xs[i]? = some x) {j : Nat} {u : Value} (hu : (encS x)[j]? = some u) : (xs.flatMap encS)[i * 2 + j]? = some u := by
  induction xs generalizing i with
  | nil => cases hx
  | cons y xs ih =>
    have hj : j < 2 := (List.getElem?_eq_some_iff.1 hu).1
    cases i with
    | zero =>
      simp only [List.getElem?_cons_zero, Option.some.injEq] at hx
      subst hx
      simp only [List.flatMap_cons, Nat.zero_mul, Nat.zero_add]
      rw [List.getElem?_append_left hj]
      exact hu
    | succ i =>
      simp only [List.flatMap_cons]
      rw [List.getElem?_append_right (by simp [encS]; omega)]
      rw [show (i + 1) * 2 + j - (encS y).length = i * 2 + j from by simp [encS]; omega]
      exact ih (by simpa using hx)

theorem encS_len (xs : List Sh) : (xs.flatMap encS).length = xs.length * 2 := by
  induction xs with
  | nil => rfl
  | cons x xs ih => simp only [List.flatMap_cons, List.length_append, ih, List.length_cons]; simp [encS]; omega

set_option maxHeartbeats 1000000 in
theorem Cuts_ok (L : Nat) (FA : Option Addr) (fn fc : Nat) (fs : List Int) (KA : Option Addr) (kc : Nat) (ks : List Kd) (w : World) (hfs : Sl 1 encI w w.heap.size FA fn fc fs) (hks : Sl 3 encK w w.heap.size KA ks.length kc ks) (he : rkE L fs ks = 0) :
    Calls Try.prog 26 #[.agg #[.int .i64 L, .slice FA fn fc], .slice KA ks.length kc] w fun e w' => ∃ G, e = .returned (.tuple #[.slice (some ⟨G, 0, none⟩) (firstAt L (Fst fs L) ks (behindAt L (Fst fs L) ks L) L 0).length (firstAt L (Fst fs L) ks (behindAt L (Fst fs L) ks L) L 0).length, .int .i64 0]) ∧ Below w.heap.size w w' ∧
      Sl 2 encS w' w'.heap.size (some ⟨G, 0, none⟩) (firstAt L (Fst fs L) ks (behindAt L (Fst fs L) ks L) L 0).length (firstAt L (Fst fs L) ks (behindAt L (Fst fs L) ks L) L 0).length (firstAt L (Fst fs L) ks (behindAt L (Fst fs L) ks L) L 0) := by
  have ho := Lib.hid (fun W hb => open_ok L FA fn fc fs KA kc ks W (hfs.later (w' := W) hb) (hks.later hb) he)
  clear hfs hks he
  have hfl := fun T W hT => first_any T L FA fn fc KA kc fs ks W hT
  have hlen := firstAt_len (L := L) (F := Fst fs L) (ks := ks) (Bh := behindAt L (Fst fs L) ks L) L 0
  generalize firstAt L (Fst fs L) ks (behindAt L (Fst fs L) ks L) L 0 = xs at *
  have Hfl := Lib.hid hfl
  clear hfl
  obtain ⟨n, hn⟩ : ∃ n, n = xs.length := ⟨_, rfl⟩
  rw [← hn] at hlen ⊢
  have Hn := Lib.hid hn
  clear hn
  go_enter Try.func26, Try.ntmps26
  go_wp2_with fail
  refine (ho.out _ (balloc (brefl w) _)).mono ?_
  rintro e w1 ⟨T, rfl, hb1, hT⟩
  have HB := Lib.hid (Below.later (balloc (brefl w) _) hb1)
  have hl2 := hT.l2
  have HT := Lib.hid hT
  clear hb1 hT
  go_wp2_with fail
  refine (Hfl.out T w1 HT.out).mono ?_
  rintro e w2 ⟨v, rfl, hb2, hown⟩
  have HB2 := Lib.hid (Below.later HB.out hb2)
  clear hb2
  rw [← Hn.out] at hown
  have hmk := make_sheets n (by omega)
  obtain ⟨i0, hi, hz0, hz1, hz2⟩ := info_parts info_sheet
  have hblk : (w2.alloc (.cells (madeCells #[.int .i64 0, .int .i64 0] (n * 2)) 56)).heap[w2.heap.size]? = some (.cells (madeCells #[.int .i64 0, .int .i64 0] (n * 2)) 56 (0, 0)) := World.alloc_heap_new w2 _
  have hxl := encS_len xs
  rw [← Hn.out] at hxl
  have hfin : ∀ W' : World, W'.heap[w2.heap.size]? = some (.cells ((xs.flatMap encS) ++ (madeCells #[Value.int .i64 0, .int .i64 0] (n * 2)).toList.drop (xs.flatMap encS).length).toArray 56 (0, 0)) →
      Sl 2 encS W' W'.heap.size (some ⟨w2.heap.size, 0, none⟩) n n xs := by
    intro W' hW
    refine ⟨Hn.out.symm, Nat.le_refl _, by omega, fun _ => ⟨w2.heap.size, 0, rfl, (Array.getElem?_eq_some_iff.1 hW).1, fun i x hx j u hu => ?_⟩⟩
    have h1 := encS_get hx hu
    have hlt : i * 2 + j < (xs.flatMap encS).length := (List.getElem?_eq_some_iff.1 h1).1
    have h2 : W'.cell? ⟨w2.heap.size, 0 + i * 2 + j, none⟩ = ((xs.flatMap encS) ++ (madeCells #[Value.int .i64 0, .int .i64 0] (n * 2)).toList.drop (xs.flatMap encS).length).toArray[0 + i * 2 + j]? := by simp [World.cell?, hW]
    rw [h2, Nat.zero_add, List.getElem?_toArray, List.getElem?_append_left hlt]
    exact h1
  have hmin : Nat.min n n = n := Nat.min_self n
  rcases hown.2 with ⟨rfl, h0⟩ | ⟨g, cap, cur, rfl, hg0, hg, hcap, hmax, hsz, htake⟩
  · subst h0
    have hmk0 : ∀ W : World, (Instr.makeSlice 26 (.int .i64 0) (.int .i64 0)).run Try.prog W = .ok (.slice (some ⟨W.heap.size, 0, none⟩) 0 0) (W.alloc (.cells #[] 56)) := fun W => by
      have h := make_sheets 0 (by omega) W
      have h2 : madeCells #[Value.int .i64 0, .int .i64 0] (0 * 2) = #[] := by apply Array.eq_empty_of_size_eq_zero; simp [madeCells]
      rw [h2] at h
      exact h
    have hcp := fun ty => run_copy_nil (P := Try.prog) (w2.alloc (.cells #[] 56)) 26 26 ty 56 ⟨w2.heap.size, 0, none⟩ 0 0 und_sheets (by rw [hi]; rfl)
    have hblk0 : (w2.alloc (.cells #[] 56)).heap[w2.heap.size]? = some (.cells #[] 56 (0, 0)) := World.alloc_heap_new w2 _
    have hx0 : xs = [] := List.length_eq_zero_iff.1 Hn.out.symm
    have HF := Lib.hid (hfin _ (by rw [hblk0, hx0]; simp [madeCells]))
    have HG := Lib.hid (balloc HB2.out (.cells #[] 56))
    clear hfin hown hblk hxl hx0 hblk0 hmk
    go_wp2
    go_ret2
    exact ⟨w2.heap.size, rfl, HG.out, HF.out⟩
  · have hcp := fun ty => run_copy_any (P := Try.prog) (w2.alloc (.cells (madeCells #[.int .i64 0, .int .i64 0] (n * 2)) 56)) 26 26 ty 56 w2.heap.size n n ⟨g, 0, none⟩ n cap _ _ (xs.flatMap encS) i0 und_sheets hi hblk (by rw [hz1, hmin]; exact hxl)
      (fun j u hu => (hown.alloc _).cells rfl j u hu) (by rw [hxl]; simp [madeCells]) (by
        intro u hu
        obtain ⟨x, _, hx⟩ := List.mem_flatMap.1 hu
        simp [encS] at hx
        rcases hx with rfl | rfl <;> rfl)
    simp only [hmin] at hcp
    obtain ⟨W3, hW3⟩ : ∃ W3, (w2.alloc (.cells (madeCells #[.int .i64 0, .int .i64 0] (n * 2)) 56)).setRow w2.heap.size ((xs.flatMap encS) ++ (madeCells #[Value.int .i64 0, .int .i64 0] (n * 2)).toList.drop (xs.flatMap encS).length).toArray = W3 := ⟨_, rfl⟩
    have hr3 : W3.heap[w2.heap.size]? = some (.cells ((xs.flatMap encS) ++ (madeCells #[Value.int .i64 0, .int .i64 0] (n * 2)).toList.drop (xs.flatMap encS).length).toArray 56 (0, 0)) := by
      rw [← hW3]; rw [setRow_heap _ _ _ _ _ _ hblk]
    have hg3 : Below w.heap.size w W3 := by
      rw [← hW3]; exact below_setRow (balloc HB2.out _) HB2.out.size _
    rw [hW3] at hcp
    have HF := Lib.hid (hfin _ hr3)
    have HG := Lib.hid hg3
    clear hfin hown hblk hxl hr3 hg3 hW3 htake hg
    go_wp2
    go_ret2
    exact ⟨w2.heap.size, rfl, HG.out, HF.out⟩

def pricesAt (A : Nat → Int) (n : Nat) : List Int := (List.range n).map (fun j => A (j + 1) - A j)
theorem pricesAt_succ (A : Nat → Int) (n : Nat) : pricesAt A (n + 1) = pricesAt A n ++ [A (n + 1) - A n] := by simp [pricesAt, List.range_succ]
theorem pricesAt_len (A : Nat → Int) (n : Nat) : (pricesAt A n).length = n := by simp [pricesAt]
theorem und_longs : Try.prog.underlying 39 = some (.slice 2) := by kernel_rfl

def encL (x : Int) : List Value := [.int .i64 x]
/-- An owned row of numbers, as a slice that reads as a list. -/
theorem own_sl {W : World} {e : TypeId} {base n : Nat} {v : Value} {xs : List Int} (h : W.ownsRow base e 1 v n (xs.map (.int .i64))) : ∃ G c, v = .slice G n c ∧ Sl 1 encI W W.heap.size G n c xs := by
  have hl := h.1
  simp at hl
  rcases h.2 with ⟨rfl, rfl⟩ | ⟨g, cap, cur, rfl, _, hg, hc, hm, _, _⟩
  · exact ⟨none, 0, rfl, hl, Nat.le_refl _, by omega, fun h => absurd h (by omega)⟩
  · refine ⟨some ⟨g, 0, none⟩, cap, rfl, hl, hc, by simp only [maxLen] at hm; omega, fun _ => ⟨g, 0, rfl, (Array.getElem?_eq_some_iff.1 hg).1, fun i x hx j u hu => ?_⟩⟩
    have hj : j < 1 := (List.getElem?_eq_some_iff.1 hu).1
    obtain rfl : j = 0 := by omega
    simp only [encI, List.getElem?_cons_zero, Option.some.injEq] at hu
    subst hu
    have := h.cells rfl i (.int .i64 x) (by simp [hx])
    have hadd : (⟨g, 0, none⟩ : Addr).add i = ⟨g, i, none⟩ := by unfold Addr.add; split <;> simp_all
    rw [hadd] at this
    simpa using this

def LoopP (w : World) (T L : Nat) (A : Nat → Int) (n : Nat) (a : Act) (W : World) : Prop :=
  ∃ i v, i + n = L ∧ Fits (none :: none :: some (.pointer (some ⟨w.heap.size, 0, none⟩)) :: none :: none :: none :: some (.pointer (some ⟨T, 0, none⟩)) :: none :: some (v) :: none :: none :: none :: none :: none :: none :: none :: none :: none :: none :: none :: some (.int .i64 (L : Nat)) :: some (.int .i64 (i : Nat)) :: none :: none :: none :: none :: none :: none :: none :: none :: none :: none :: none :: none :: none :: none :: none :: none :: none :: none :: none :: none :: none :: []) a.tmps.toList ∧ a.defers = [] ∧ Below w.heap.size w W ∧ W.ownsRow (w.heap.size + 1) 2 1 v i ((pricesAt A i).map (.int .i64)) ∧ (∀ j, j < 25 → W.cell? ⟨T, 28 + j, none⟩ = some (.int .i64 (A j)))  ∧ v.ownBlock ≠ some T ∧ T < W.heap.size ∧ w.heap.size + 1 ≤ W.heap.size

set_option maxRecDepth 100000 in
set_option maxHeartbeats 2000000 in
theorem Prices_ok (L : Nat) (FA : Option Addr) (fn fc : Nat) (fs : List Int) (KA : Option Addr) (kc : Nat) (ks : List Kd) (w : World) (hfs : Sl 1 encI w w.heap.size FA fn fc fs) (hks : Sl 3 encK w w.heap.size KA ks.length kc ks) (he : rkE L fs ks = 0) :
    Calls Try.prog 33 #[.agg #[.int .i64 L, .slice FA fn fc], .slice KA ks.length kc] w fun e w' => ∃ G c, e = .returned (.tuple #[.slice G L c, .int .i64 0]) ∧ Below w.heap.size w w' ∧ Sl 1 encI w' w'.heap.size G L c (pricesAt (aheadAt L (Fst fs L) ks L) L) := by
  have ho := Lib.hid (fun W hb => open_ok L FA fn fc fs KA kc ks W (hfs.later (w' := W) hb) (hks.later hb) he)
  have hA := aheadAt_bd (L := L) (F := Fst fs L) (ks := ks)
  clear hfs hks he
  obtain ⟨A, hAe⟩ : ∃ A, aheadAt L (Fst fs L) ks L = A := ⟨_, rfl⟩
  rw [hAe]
  have HAe := Lib.hid hAe
  have HA := Lib.hid hA
  clear hAe hA
  go_enter Try.func33, Try.ntmps33
  go_wp2_with fail
  refine (ho.out _ (balloc (brefl w) _)).mono ?_
  rintro e w1 ⟨T, rfl, hb1, hT⟩
  have k0 : w1.cell? ⟨w.heap.size, 0, none⟩ = some (.int .i64 L) := (hb1.cell (p := ⟨w.heap.size, 0, none⟩) (by simp)).trans (by go_simp)
  have zs := hb1.size
  simp at zs
  have hbd := HA.out hT.kok L
  rw [HAe.out] at hbd
  have hcA : ∀ j, j < 25 → w1.cell? ⟨T, 28 + j, none⟩ = some (.int .i64 (A j)) := fun j hj => by rw [hT.tab.ah j hj, HAe.out]
  have hzT := hT.tab.core.lt
  have hl2 := hT.l2
  have Hbd := Lib.hid hbd
  have HB := Lib.hid (Below.later (balloc (brefl w) _) hb1)
  have HcA := Lib.hid hcA
  clear hb1 hT hcA hbd
  go_wp2_with fail
  refine loop_n (LoopP w T L A) L ?_ ?_
  · refine ⟨0, _, by omega, ?_, rfl, HB.out, World.ownsRow_nil _ _ _ _, HcA.out, by simp [Value.ownBlock], hzT, by omega⟩
    repeat (first | exact fits_nil | refine fits_none ?_ | refine fits_some ?_)
  clear HcA HB hzT zs k0
  clear w1
  intro n a W hI K hK
  obtain ⟨i, v, hin, hfit, hds, hbel, hown, hcA, hvT, hzT, hzs⟩ := hI
  obtain ⟨f, hf⟩ := fits_act hfit
  rw [hds] at hf
  subst hf
  clear hfit hds
  simp only [fillP, Nat.reduceAdd]
  by_cases hlt : i < L
  · have hc1 := hcA i (by omega)
    have hc2 := hcA (i + 1) (by omega)
    have j0 : (0 : Int) ≤ (i : Int) + 1 := by omega
    have j1 : (i : Int) + 1 < 25 := by omega
    have j2 : ((i : Int) + 1).toNat = i + 1 := by omega
    have j3 : (i : Int) < 25 := by omega
    have j4 : (0 : Int) ≤ (i : Int) := by omega
    obtain ⟨b1, b1'⟩ := Hbd.out i
    obtain ⟨b2, b2'⟩ := Hbd.out (i + 1)
    have hw1 : IntKind.i64.wrap ((i : Int) + 1) = (i : Int) + 1 := by rw [IntKind.wrap_i64]; omega
    have hw2 : IntKind.i64.wrap (A (i + 1) - A i) = A (i + 1) - A i := by rw [IntKind.wrap_i64]; omega
    have HcA := Lib.hid hcA
    have Hbel := Lib.hid hbel
    have Hown := Lib.hid hown
    clear hcA hbel hown
    obtain ⟨i0, hi0, hz0, hz1, hz2⟩ := info_parts info_long
    go_wp2_with fail
    go_region_held3 (fun w' => w'.cell? ⟨T, 28 + i, none⟩ = some (.int .i64 (A i)) ∧ w'.cell? ⟨T, 28 + (i + 1), none⟩ = some (.int .i64 (A (i + 1))))
      (first
        | go_keep
        | (go_split_ands
           refine ⟨?_, ?_⟩
           · (rw [hgrow.cell_far _ (by simp; omega) (Ne.symm hvT)]; assumption)
           · (rw [hgrow.cell_far _ (by simp; omega) (Ne.symm hvT)]; assumption)))
      ((refine step_append_lies _ (by rfl) _ _ _ (by rfl) (w.heap.size + 1) 2 i0 _ 1 8 und_longs hi0 hz0 hz1 hz2 rfl (by omega) v i _ (by rfl) ((Hown.out.alloc _).drew)
          ⟨W.heap.size, 0, none⟩ 1 1 [.int .i64 (A (i + 1) - A i)] (by rfl) (by rfl) (World.news_of_block (cs := #[.int .i64 (A (i + 1) - A i)]) (t := 2) (fr := (0, 0)) (heap_alloc_new W _)) (by simp [Value.oneCell'])
          (by omega) (by simp only [maxLen]; omega) (by omega) (by simp; omega) (W.heap.size + 1) (by simp) ?_; intro gg cap w3 hown1 hgrow hat hlt'))
    have hs3 := hgrow.size
    simp at hs3
    have hrow : ∀ k, v.ownBlock = some k → w.heap.size + 1 ≤ k := fun k hk => (Hown.out.lt k hk).1
    have hWd : Below W.heap.size W (W.alloc (Obj.cells #[Value.int .i64 (A (i + 1) - A i)] 2)).drew := bdrew (balloc (brefl W) _) 1
    have hbel3 : Below w.heap.size w w3 := (Hbel.out.trans (hWd.mono Hbel.out.size)).trans ⟨hgrow.os, hgrow.tape, hgrow.output, hgrow.size, fun k hk => hgrow.block k (by simp; omega) (fun e => by have := hrow k e.symm; omega)⟩
    have hcA3 : ∀ j, j < 25 → w3.cell? ⟨T, 28 + j, none⟩ = some (.int .i64 (A j)) := fun j hj => by
      rw [hgrow.cell_far ⟨T, 28 + j, none⟩ (by simp; omega) (Ne.symm hvT)]
      exact (hWd.cell (p := ⟨T, 28 + j, none⟩) hzT).trans (HcA.out j hj)
    have hvT3 : (Value.slice (some ⟨gg, 0, none⟩) (i + 1) cap).ownBlock ≠ some T := by
      simp only [Value.ownBlock, ne_eq, Option.some.injEq]
      rintro rfl
      rcases hat with h | h
      · exact hvT h
      · omega
    have hown3 : w3.ownsRow (w.heap.size + 1) 2 1 (.slice (some ⟨gg, 0, none⟩) (i + 1) cap) (i + 1) ((pricesAt A (i + 1)).map (.int .i64)) := by
      rw [pricesAt_succ, List.map_append]
      exact hown1
    have HcA3 := Lib.hid hcA3
    have Hbel3 := Lib.hid hbel3
    have Hown3 := Lib.hid hown3
    clear hown1 hgrow hat hbel3 hcA3 hown3 hWd
    go_wp2
    refine hK _ _ (n - 1) (by omega) ⟨i + 1, _, by omega, ?_, rfl, Hbel3.out, Hown3.out, HcA3.out, hvT3, by omega, by omega⟩
    repeat (first | exact fits_nil | refine fits_none ?_ | refine fits_some ?_)
  · obtain rfl : L = i := by omega
    obtain ⟨G, c, rfl, hsl⟩ := own_sl hown
    have Hsl := Lib.hid hsl
    have Hbel := Lib.hid hbel
    clear hsl hbel hown hcA hK hin hvT
    go_wp2
    go_ret2
    exact ⟨G, c, rfl, Hbel.out, Hsl.out⟩
end Go.Proofs.Ytjmphmnimnbgkaa
