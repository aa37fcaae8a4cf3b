/- clip.Cuts, where the ribbon and the kinds are valid: the first best cuts. -/
import Derived.Test.YtjmphmnimnbgkaaWorthOk
import Derived.Laws.CopyOwn
namespace Go.Proofs.Ytjmphmnimnbgkaa
open Go.RowKit Go.Shelf

theorem run_copy_any {P : Program} (w : World) (dT sT ty elem : TypeId) (g dLen dCap : Nat) (a : Addr) (sLen sCap : Nat) (cur : Array Value) (t : TypeId) (cs : List Value) (i : TypeInfo)
    (hu : P.underlying dT = some (.slice elem)) (hi : P.info? elem = some i)
    (hg : w.heap[g]? = some (.cells cur t (0, 0))) (hn : cs.length = Nat.min sLen dLen * i.size)
    (hsrc : ∀ j v, cs[j]? = some v → w.cell? (a.add j) = some v) (hfit : cs.length ≤ cur.size) (h1 : ∀ v ∈ cs, v.oneCell' = true) :
    (Builtin.copy_ #[dT, sT] ty #[.slice (some ⟨g, 0, none⟩) dLen dCap, .slice (some a) sLen sCap]).run P w =
      .ok (goInt (Nat.min sLen dLen : Nat)) (w.setRow g (cs ++ cur.toList.drop cs.length).toArray) := by
  have hl := run_loadCells_list (P := P) w a cs hsrc
  have hst := run_storeCells_at P g 0 t cs 0 cur w hg (by simpa using hfit) h1
  simp only [Nat.add_zero, Nat.zero_add, List.take_zero, List.nil_append] at hst
  simp [Builtin.copy_, run_underlying hu, Builtin.lenOf, Builtin.firstCells, sizeOf, typeInfo, hi, ← hn, hl, hst]

theorem make_sheets (n : Nat) (hn : n ≤ 1000) (W : World) :
    (Instr.makeSlice 26 (.int .i64 n) (.int .i64 n)).run Try.prog W = .ok (.slice (some ⟨W.heap.size, 0, none⟩) n n) (W.alloc (.cells (madeCells #[.int .i64 0, .int .i64 0] (n * 2)) 56)) := by
  obtain ⟨i0, hi, hz0, hz1, hz2⟩ := info_parts info_sheet
  have h := run_make (P := Try.prog) W 26 56 i0 (.agg #[.int .i64 0, .int .i64 0]) und_sheets hi hz0 .i64 .i64 n n (by omega) (Int.le_refl _) (by rw [hz2]; omega) (by omega)
  rw [hz1] at h
  simpa [Value.cells] using h
theorem encS_get {xs : List Sh} {i : Nat} {x : Sh} (hx : xs[i]? = some x) {j : Nat} {u : Value} (hu : (encS x)[j]? = some u) : (xs.flatMap encS)[i * 2 + j]? = some u := by
  induction xs generalizing i with
  | nil => cases hx
  | cons y xs ih =>
    have hj : j < 2 := (List.getElem?_eq_some_iff.1 hu).1
    cases i with
    | zero =>
      simp only [List.getElem?_cons_zero, Option.some.injEq] at hx
      subst hx
      simp only [List.flatMap_cons, Nat.zero_mul, Nat.zero_add]
      rw [List.getElem?_append_left hj]
      exact hu
    | succ i =>
      simp only [List.flatMap_cons]
      rw [List.getElem?_append_right (by simp [encS]; omega)]
      rw [show (i + 1) * 2 + j - (encS y).length = i * 2 + j from by simp [encS]; omega]
      exact ih (by simpa using hx)

theorem encS_len (xs : List Sh) : (xs.flatMap encS).length = xs.length * 2 := by
  induction xs with
  | nil => rfl
  | cons x xs ih => simp only [List.flatMap_cons, List.length_append, ih, List.length_cons]; simp [encS]; omega

set_option maxHeartbeats 1000000 in
theorem Cuts_ok (L : Nat) (FA : Option Addr) (fn fc : Nat) (fs : List Int) (KA : Option Addr) (kc : Nat) (ks : List Kd) (w : World) (hfs : Sl 1 encI w w.heap.size FA fn fc fs) (hks : Sl 3 encK w w.heap.size KA ks.length kc ks) (he : rkE L fs ks = 0) :
    Calls Try.prog 26 #[.agg #[.int .i64 L, .slice FA fn fc], .slice KA ks.length kc] w fun e w' => ∃ G, e = .returned (.tuple #[.slice (some ⟨G, 0, none⟩) (firstAt L (Fst fs L) ks (behindAt L (Fst fs L) ks L) L 0).length (firstAt L (Fst fs L) ks (behindAt L (Fst fs L) ks L) L 0).length, .int .i64 0]) ∧ Below w.heap.size w w' ∧
      Sl 2 encS w' w'.heap.size (some ⟨G, 0, none⟩) (firstAt L (Fst fs L) ks (behindAt L (Fst fs L) ks L) L 0).length (firstAt L (Fst fs L) ks (behindAt L (Fst fs L) ks L) L 0).length (firstAt L (Fst fs L) ks (behindAt L (Fst fs L) ks L) L 0) := by
  have ho := Lib.hid (fun W hb => open_ok L FA fn fc fs KA kc ks W (hfs.later (w' := W) hb) (hks.later hb) he)
  clear hfs hks he
  have hfl := fun T W hT => first_any T L FA fn fc KA kc fs ks W hT
  have hlen := firstAt_len (L := L) (F := Fst fs L) (ks := ks) (Bh := behindAt L (Fst fs L) ks L) L 0
  generalize firstAt L (Fst fs L) ks (behindAt L (Fst fs L) ks L) L 0 = xs at *
  have Hfl := Lib.hid hfl
  clear hfl
  obtain ⟨n, hn⟩ : ∃ n, n = xs.length := ⟨_, rfl⟩
  rw [← hn] at hlen ⊢
  have Hn := Lib.hid hn
  clear hn
  go_enter Try.func26, Try.ntmps26
  go_wp2_with fail
  refine (ho.out _ (balloc (brefl w) _)).mono ?_
  rintro e w1 ⟨T, rfl, hb1, hT⟩
  have HB := Lib.hid (Below.later (balloc (brefl w) _) hb1)
  have hl2 := hT.l2
  have HT := Lib.hid hT
  clear hb1 hT
  go_wp2_with fail
  refine (Hfl.out T w1 HT.out).mono ?_
  rintro e w2 ⟨v, rfl, hb2, hown⟩
  have HB2 := Lib.hid (Below.later HB.out hb2)
  clear hb2
  rw [← Hn.out] at hown
  have hmk := make_sheets n (by omega)
  obtain ⟨i0, hi, hz0, hz1, hz2⟩ := info_parts info_sheet
  have hblk : (w2.alloc (.cells (madeCells #[.int .i64 0, .int .i64 0] (n * 2)) 56)).heap[w2.heap.size]? = some (.cells (madeCells #[.int .i64 0, .int .i64 0] (n * 2)) 56 (0, 0)) := World.alloc_heap_new w2 _
  have hxl := encS_len xs
  rw [← Hn.out] at hxl
  have hfin : ∀ W' : World, W'.heap[w2.heap.size]? = some (.cells ((xs.flatMap encS) ++ (madeCells #[Value.int .i64 0, .int .i64 0] (n * 2)).toList.drop (xs.flatMap encS).length).toArray 56 (0, 0)) →
      Sl 2 encS W' W'.heap.size (some ⟨w2.heap.size, 0, none⟩) n n xs := by
    intro W' hW
    refine ⟨Hn.out.symm, Nat.le_refl _, by omega, fun _ => ⟨w2.heap.size, 0, rfl, (Array.getElem?_eq_some_iff.1 hW).1, fun i x hx j u hu => ?_⟩⟩
    have h1 := encS_get hx hu
    have hlt : i * 2 + j < (xs.flatMap encS).length := (List.getElem?_eq_some_iff.1 h1).1
    have h2 : W'.cell? ⟨w2.heap.size, 0 + i * 2 + j, none⟩ = ((xs.flatMap encS) ++ (madeCells #[Value.int .i64 0, .int .i64 0] (n * 2)).toList.drop (xs.flatMap encS).length).toArray[0 + i * 2 + j]? := by simp [World.cell?, hW]
    rw [h2, Nat.zero_add, List.getElem?_toArray, List.getElem?_append_left hlt]
    exact h1
  have hmin : Nat.min n n = n := Nat.min_self n
  rcases hown.2 with ⟨rfl, h0⟩ | ⟨g, cap, cur, rfl, hg0, hg, hcap, hmax, hsz, htake⟩
  · subst h0
    have hmk0 : ∀ W : World, (Instr.makeSlice 26 (.int .i64 0) (.int .i64 0)).run Try.prog W = .ok (.slice (some ⟨W.heap.size, 0, none⟩) 0 0) (W.alloc (.cells #[] 56)) := fun W => by
      have h := make_sheets 0 (by omega) W
      have h2 : madeCells #[Value.int .i64 0, .int .i64 0] (0 * 2) = #[] := by apply Array.eq_empty_of_size_eq_zero; simp [madeCells]
      rw [h2] at h
      exact h
    have hcp := fun ty => run_copy_nil (P := Try.prog) (w2.alloc (.cells #[] 56)) 26 26 ty 56 ⟨w2.heap.size, 0, none⟩ 0 0 und_sheets (by rw [hi]; rfl)
    have hblk0 : (w2.alloc (.cells #[] 56)).heap[w2.heap.size]? = some (.cells #[] 56 (0, 0)) := World.alloc_heap_new w2 _
    have hx0 : xs = [] := List.length_eq_zero_iff.1 Hn.out.symm
    have HF := Lib.hid (hfin _ (by rw [hblk0, hx0]; simp [madeCells]))
    have HG := Lib.hid (balloc HB2.out (.cells #[] 56))
    clear hfin hown hblk hxl hx0 hblk0 hmk
    go_wp2
    go_ret2
    exact ⟨w2.heap.size, rfl, HG.out, HF.out⟩
  · have hcp := fun ty => run_copy_any (P := Try.prog) (w2.alloc (.cells (madeCells #[.int .i64 0, .int .i64 0] (n * 2)) 56)) 26 26 ty 56 w2.heap.size n n ⟨g, 0, none⟩ n cap _ _ (xs.flatMap encS) i0 und_sheets hi hblk (by rw [hz1, hmin]; exact hxl)
      (fun j u hu => (hown.alloc _).cells rfl j u hu) (by rw [hxl]; simp [madeCells]) (by
        intro u hu
        obtain ⟨x, _, hx⟩ := List.mem_flatMap.1 hu
        simp [encS] at hx
        rcases hx with rfl | rfl <;> rfl)
    simp only [hmin] at hcp
    obtain ⟨W3, hW3⟩ : ∃ W3, (w2.alloc (.cells (madeCells #[.int .i64 0, .int .i64 0] (n * 2)) 56)).setRow w2.heap.size ((xs.flatMap encS) ++ (madeCells #[Value.int .i64 0, .int .i64 0] (n * 2)).toList.drop (xs.flatMap encS).length).toArray = W3 := ⟨_, rfl⟩
    have hr3 : W3.heap[w2.heap.size]? = some (.cells ((xs.flatMap encS) ++ (madeCells #[Value.int .i64 0, .int .i64 0] (n * 2)).toList.drop (xs.flatMap encS).length).toArray 56 (0, 0)) := by
      rw [← hW3]; rw [setRow_heap _ _ _ _ _ _ hblk]
    have hg3 : Below w.heap.size w W3 := by
      rw [← hW3]; exact below_setRow (balloc HB2.out _) HB2.out.size _
    rw [hW3] at hcp
    have HF := Lib.hid (hfin _ hr3)
    have HG := Lib.hid hg3
    clear hfin hown hblk hxl hr3 hg3 hW3 htake hg
    go_wp2
    go_ret2
    exact ⟨w2.heap.size, rfl, HG.out, HF.out⟩
end Go.Proofs.Ytjmphmnimnbgkaa
