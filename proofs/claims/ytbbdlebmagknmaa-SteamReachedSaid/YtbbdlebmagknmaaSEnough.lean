/- The law's enough: in given loads, each taking those that have to be steamed first, all logs can be steamed. -/
import Derived.Test.YtbbdlebmagknmaaSFeas
namespace Go.Proofs.Ytbbdlebmagknmaa
open Go.RowKit Go.Shelf

theorem make_ints (n : Nat) (hn : n ≤ 1000) (W : World) :
    (Instr.makeSlice 44 (.int .i64 (n : Int)) (.int .i64 (n : Int))).run Try.prog W = .ok (.slice (some ⟨W.heap.size, 0, none⟩) n n) (W.alloc (.cells (numArr n (fun _ => 0)) 3)) := by
  have h := run_make_row' (P := Try.prog) 44 3 (.int .i64 0) 8 (by kernel_rfl) info_int rfl .i64 .i64 n (by omega) (by omega) W
  rw [numArr_made] at h
  exact_mod_cast h
structure EW (w W : World) (L : Int) (A : Option Addr) (n c : Nat) (D : Nat → Int) : Prop where
  bel : Below w.heap.size w W
  b0 : Blk W w.heap.size 24 #[.int .i64 L, .slice A n c]
  bd : Blk W (w.heap.size + 1) 3 (numArr n D)
theorem EW.later {w W W' : World} {L : Int} {A : Option Addr} {n c : Nat} {D : Nat → Int} (h : EW w W L A n c D) (hb : Below W.heap.size W W') : EW w W' L A n c D := ⟨Below.later h.bel hb, h.b0.later hb, h.bd.later hb⟩
theorem EW.set {w W : World} {L : Int} {A : Option Addr} {n c : Nat} {D : Nat → Int} (h : EW w W L A n c D) (j : Nat) (x : Int) : EW w (W.setCell ⟨w.heap.size + 1, j, none⟩ (.int .i64 x)) L A n c (updN D j x) := by
  refine ⟨bset h.bel (by show w.heap.size ≤ w.heap.size + 1; omega) _, h.b0.other (by show w.heap.size + 1 ≠ _; omega) _, ?_⟩
  have h1 := h.bd.set j (.int .i64 x)
  rw [numArr_set] at h1
  exact h1
theorem best_succ (rs : List Rg) (D : Nat → Int) (t : Int) (i : Nat) : bestTo rs D t (i + 1) = if canT rs D t i ∧ (bestTo rs D t i < 0 ∨ hiAt rs i < hiAt rs (bestTo rs D t i).toNat) then (i : Int) else bestTo rs D t i := rfl
theorem rooms_ge {L : Nat} {t : Int} {ts : List Int} {j : Nat} (h : ∀ s ∈ ts, t ≤ s) : ∀ s ∈ List.replicate j t ++ roomsOf L ts, t ≤ s := fun s hs => by
  rcases List.mem_append.1 hs with hs | hs
  · rw [(List.mem_replicate.1 hs).2]; exact Int.le_refl _
  · unfold roomsOf at hs
    obtain ⟨u, hu, hs⟩ := List.mem_flatMap.1 hs
    rw [(List.mem_replicate.1 hs).2]
    exact h u hu
set_option maxRecDepth 100000 in
set_option maxHeartbeats 8000000 in
theorem enough_any (L : Nat) (A : Option Addr) (n c : Nat) (rs : List Rg) (B : Option Addr) (m d : Nat) (ls : List Int) (w : World) (hs : Sl 2 encR w w.heap.size A n c rs) (hh : Sl 1 encI w w.heap.size B m d ls) (hr : RsOk rs) (hL : 1 ≤ L ∧ L ≤ 10) (hsrt : ls.Pairwise (· ≤ ·)) (hm : m ≤ 200000) (hf : Feas (loAt rs) (hiAt rs) (roomsOf L ls) (List.range rs.length)) :
    Calls Try.prog 43 #[.agg #[.int .i64 (L : Int), .slice A n c], .slice B m d] w fun e w' => e = .returned (.bool true) ∧ Below w.heap.size w w' := by
  obtain rfl := hs.len
  obtain rfl := hh.len
  have hn10 := hr.1
  have Hs := Lib.hid hs
  have Hh := Lib.hid hh
  have Hr := Lib.hid hr
  have Hsrt := Lib.hid hsrt
  have hmk : ∀ W : World, (Instr.makeSlice 44 (.int .i64 (rs.length : Int)) (.int .i64 (rs.length : Int))).run Try.prog W = .ok (.slice (some ⟨W.heap.size, 0, none⟩) rs.length rs.length) (W.alloc (.cells (numArr rs.length (fun _ => 0)) 3)) := fun W => make_ints rs.length (by omega) W
  have hb1 := Blk.new (w.alloc (.cells #[.int .i64 (L : Int), .slice A rs.length c] 24)) 3 (numArr rs.length fun _ => 0)
  rw [World.size_alloc] at hb1
  have HE0 := Lib.hid (show EW w ((w.alloc (.cells #[.int .i64 (L : Int), .slice A rs.length c] 24)).alloc (.cells (numArr rs.length fun _ => 0) 3)) (L : Int) A rs.length c (fun _ => 0) from ⟨balloc (balloc (brefl w) _) _, (Blk.new w _ _).alloc _, hb1⟩)
  have HF0 := Lib.hid (show Feas (loAt rs) (hiAt rs) (roomsOf L (ls.drop 0)) (leftI rs.length fun _ => 0) ∧ (leftI rs.length fun _ => 0).length = rs.length from by
    have e : leftI rs.length (fun _ => 0) = List.range rs.length := by unfold leftI; simp
    rw [e, List.drop_zero]
    exact ⟨hf, by simp⟩)
  clear hs hh hr hsrt hb1 hf
  go_enter Try.func43, Try.ntmps43
  go_wp2_with fail
  clear hmk
  refine loop_n (fun q a W => a.defers = [] ∧ ∃ (k e : Nat) (D : Nat → Int), k + q = ls.length ∧ EW w W (L : Int) A rs.length c D ∧ Feas (loAt rs) (hiAt rs) (roomsOf L (ls.drop k)) (leftI rs.length D) ∧ e + (leftI rs.length D).length = rs.length ∧ Fits (none :: some (.slice B ls.length d) :: some (.pointer (some ⟨w.heap.size, 0, none⟩)) :: none :: none :: some (.slice (some ⟨w.heap.size + 1, 0, none⟩) rs.length rs.length) :: some (.int .i64 (e : Nat)) :: some (.int .i64 (k : Nat)) :: none :: none :: none :: none :: none :: none :: none :: none :: none :: none :: none :: none :: none :: none :: none :: none :: none :: none :: none :: none :: none :: none :: none :: none :: none :: none :: none :: none :: none :: none :: none :: none :: none :: none :: none :: none :: none :: none :: none :: none :: none :: none :: none :: none :: none :: none :: none :: none :: none :: none :: none :: none :: none :: none :: none :: none :: none :: none :: none :: none :: none :: none :: none :: none :: none :: none :: none :: none :: none :: none :: none :: none :: none :: none :: none :: none :: none :: none :: none :: none :: none :: none :: none :: none :: none :: none :: none :: none :: none :: []) a.tmps.toList) ls.length ?_ ?_
  · refine ⟨rfl, 0, 0, _, by omega, HE0.out, HF0.out.1, by rw [HF0.out.2]; omega, ?_⟩
    repeat (first | exact fits_nil | refine fits_none ?_ | refine fits_some ?_)
  clear HE0 HF0
  intro q a W hI K hK
  obtain ⟨hds, k, e, D, hq, hB, hfe, hel, hfit⟩ := hI
  obtain ⟨f, hf⟩ := fits_act hfit
  rw [hds] at hf
  subst hf
  clear hfit hds
  simp only [fillP, Nat.reduceAdd]
  have c0 := hB.b0.cell 0
  have c1 := hB.b0.cell 1
  have c2 := hB.b0.lt
  have HE := Lib.hid hB
  by_cases hlt : k < ls.length
  · have hrec := List.drop_eq_getElem_cons hlt
    obtain ⟨t, ht⟩ : ∃ t, ls[k] = t := ⟨_, rfl⟩
    have htk : ls[k]? = some t := by rw [← ht]; exact List.getElem?_eq_getElem hlt
    rw [ht] at hrec
    have Hge := Lib.hid (show ∀ s ∈ ls.drop (k + 1), t ≤ s from fun s hs => by
      have h1 := Hsrt.out.sublist (List.drop_sublist k ls)
      rw [hrec] at h1
      exact (List.pairwise_cons.1 h1).1 s hs)
    have HF := Lib.hid (show Feas (loAt rs) (hiAt rs) (List.replicate L t ++ roomsOf L (ls.drop (k + 1))) (leftI rs.length D) from by
      rw [hrec] at hfe
      exact hfe)
    have Hel := Lib.hid hel
    have Htk := Lib.hid htk
    have i1 : (k : Int) < (ls.length : Int) := by omega
    have i2 : (0 : Int) ≤ (k : Int) := by omega
    have i3 : IntKind.i64.wrap ((k : Int) + 1) = (k : Int) + 1 := by rw [IntKind.wrap_i64]; omega
    clear hB hfe hel hrec ht htk
    go_wp2_with fail
    clear c0 c1 c2
    refine loop_n (fun q a W => a.defers = [] ∧ ∃ (j e : Nat) (D : Nat → Int), j + q = L ∧ EW w W (L : Int) A rs.length c D ∧ Feas (loAt rs) (hiAt rs) (List.replicate q t ++ roomsOf L (ls.drop (k + 1))) (leftI rs.length D) ∧ e + (leftI rs.length D).length = rs.length ∧ Fits (none :: some (.slice B ls.length d) :: some (.pointer (some ⟨w.heap.size, 0, none⟩)) :: none :: none :: some (.slice (some ⟨w.heap.size + 1, 0, none⟩) rs.length rs.length) :: some (.int .i64 (e : Nat)) :: some (.int .i64 (k : Nat)) :: some (.int .i64 (j : Nat)) :: none :: none :: none :: none :: none :: none :: none :: none :: none :: none :: none :: none :: none :: none :: none :: none :: none :: none :: none :: none :: none :: none :: none :: none :: none :: none :: none :: none :: none :: none :: none :: none :: none :: none :: none :: none :: none :: none :: none :: none :: none :: none :: none :: none :: none :: none :: none :: none :: none :: none :: none :: none :: none :: none :: none :: none :: none :: none :: none :: none :: none :: none :: none :: none :: none :: none :: none :: none :: none :: none :: none :: none :: none :: none :: none :: none :: none :: none :: none :: none :: none :: none :: none :: none :: none :: none :: none :: none :: []) a.tmps.toList) L ?_ ?_
    · refine ⟨rfl, 0, e, D, by omega, HE.out, HF.out, Hel.out, ?_⟩
      repeat (first | exact fits_nil | refine fits_none ?_ | refine fits_some ?_)
    clear HE HF Hel W D
    intro q2 a W hI K2 hK2
    obtain ⟨hds, j, e, D, hq2, hB, hfe, hel, hfit⟩ := hI
    obtain ⟨f, hf⟩ := fits_act hfit
    rw [hds] at hf
    subst hf
    clear hfit hds
    simp only [fillP, Nat.reduceAdd]
    have c0 := hB.b0.cell 0
    have c1 := hB.b0.cell 1
    have c2 := hB.b0.lt
    have HE := Lib.hid hB
    cases q2 with
    | zero =>
      have j1 : ¬ ((j : Int) < (L : Int)) := by omega
      have HF := Lib.hid (show Feas (loAt rs) (hiAt rs) (roomsOf L (ls.drop (k + 1))) (leftI rs.length D) from hfe)
      have Hel := Lib.hid hel
      clear hK2 hB hfe hel hq2
      go_wp2
      refine hK _ _ (q - 1) (by omega) ⟨rfl, k + 1, e, D, by omega, HE.out, HF.out, Hel.out, ?_⟩
      repeat (first | exact fits_nil | refine fits_none ?_ | refine fits_some ?_)
    | succ q2 =>
      have j1 : (j : Int) < (L : Int) := by omega
      have j2 : IntKind.i64.wrap ((j : Int) + 1) = (j : Int) + 1 := by rw [IntKind.wrap_i64]; omega
      have HF := Lib.hid (room_step (t := t) (ts := List.replicate q2 t ++ roomsOf L (ls.drop (k + 1))) hfe (rooms_ge Hge.out))
      have Hel := Lib.hid hel
      have hen : e ≤ rs.length := by omega
      clear hB hfe hel
      go_wp2_with fail
      clear c0 c1 c2
      refine loop_n (fun q a W => a.defers = [] ∧ ∃ (i : Nat) (bv : Int), i + q = rs.length ∧ EW w W (L : Int) A rs.length c D ∧ bestTo rs D t i = bv ∧ Fits (none :: some (.slice B ls.length d) :: some (.pointer (some ⟨w.heap.size, 0, none⟩)) :: none :: none :: some (.slice (some ⟨w.heap.size + 1, 0, none⟩) rs.length rs.length) :: some (.int .i64 (e : Nat)) :: some (.int .i64 (k : Nat)) :: some (.int .i64 (j : Nat)) :: some (.int .i64 bv) :: some (.int .i64 (i : Nat)) :: none :: none :: none :: none :: none :: none :: none :: none :: none :: none :: none :: none :: none :: none :: none :: none :: none :: none :: none :: none :: none :: none :: none :: none :: none :: none :: none :: none :: none :: none :: none :: none :: none :: none :: none :: none :: none :: none :: none :: none :: none :: none :: none :: none :: none :: none :: none :: none :: none :: none :: none :: none :: none :: none :: none :: none :: none :: none :: none :: none :: none :: none :: none :: none :: none :: none :: none :: none :: none :: none :: none :: none :: none :: none :: none :: none :: none :: none :: none :: none :: none :: none :: none :: none :: none :: none :: []) a.tmps.toList) rs.length ?_ ?_
      · refine ⟨rfl, 0, -1, by omega, HE.out, rfl, ?_⟩
        repeat (first | exact fits_nil | refine fits_none ?_ | refine fits_some ?_)
      clear HE W
      intro q3 a W hI K3 hK3
      obtain ⟨hds, i, bv, hiq, hB, hbv, hfit⟩ := hI
      obtain ⟨f, hf⟩ := fits_act hfit
      rw [hds] at hf
      subst hf
      clear hfit hds
      simp only [fillP, Nat.reduceAdd]
      have c0 := hB.b0.cell 0
      have c1 := hB.b0.cell 1
      have c2 := hB.b0.lt
      have HE := Lib.hid hB
      by_cases hli : i < rs.length
      · obtain ⟨rb, ro, x, rfl, hrb, hx, g0, g1⟩ := (Hs.out.later hB.bel).ltR hli
        obtain ⟨tb, to_, t', rfl, htb, ht', t0⟩ := (Hh.out.later hB.bel).ltI hlt
        rw [Htk.out] at ht'
        cases ht'
        have hxl : loAt rs i = x.lo := by unfold loAt; simp [List.getD, hx]
        have hxh : hiAt rs i = x.hi := by unfold hiAt; simp [List.getD, hx]
        have hsp := best_spec rs D t i
        have hsu := best_succ rs D t i
        rw [hbv] at hsp hsu
        have y0 : W.cell? ⟨w.heap.size + 1, i, none⟩ = some (.int .i64 (D i)) := by rw [hB.bd.cell, numArr_get (by omega)]
        have y1 := hB.bd.lt
        have l1 : (i : Int) < (rs.length : Int) := by omega
        have l2 : (0 : Int) ≤ (i : Int) := by omega
        have l3 : IntKind.i64.wrap ((i : Int) + 1) = (i : Int) + 1 := by rw [IntKind.wrap_i64]; omega
        by_cases hD : D i = 0
        · rw [hD] at y0
          by_cases h1 : x.lo ≤ t
          · by_cases h2 : t ≤ x.hi
            · have hcan : canT rs D t i := ⟨hD, by omega, by omega⟩
              rcases hsp with ⟨hb1, _⟩ | ⟨b, hbi, hb1, _, _⟩
              · have hb2 : bv < 0 := by omega
                have hnew : bestTo rs D t (i + 1) = (i : Int) := by rw [hsu, if_pos ⟨hcan, .inl hb2⟩]
                clear hcan hD hsu hbv hb1
                have HN := Lib.hid (show bestTo rs D t (i + 1) = (i : Int) from hnew)
                clear hB hx hxl hxh
                go_wp2_with fail
                refine dag 50 (by kernel_rfl) (by kernel_rfl) (.is ?_ :: .is ?_ :: .is ?_ :: .is ?_ :: .is ?_ :: .is ?_ :: .is ?_ :: .is ?_ :: .is ?_ :: .is ?_ :: .is ?_ :: .is ?_ :: .is ?_ :: .is ?_ :: .is ?_ :: .is ?_ :: .is ?_ :: .is ?_ :: .is ?_ :: .is ?_ :: .is ?_ :: .is ?_ :: .is ?_ :: .is ?_ :: .is ?_ :: .is ?_ :: .is ?_ :: .is ?_ :: .is ?_ :: .is ?_ :: .is ?_ :: .is ?_ :: .is ?_ :: .is ?_ :: .is ?_ :: .is ?_ :: .is ?_ :: .is ?_ :: .is ?_ :: .is ?_ :: .is ?_ :: .is ?_ :: .is ?_ :: .is ?_ :: .is ?_ :: .is ?_ :: .is ?_ :: .is ?_ :: .is ?_ :: .is ?_ :: []) rfl ?sta ?oba
                case sta => simp [Spec.ok]
                case oba =>
                intro env V hG
                obtain ⟨hc, hf⟩ := bcell hG
                repeat (refine obls_is ?_ ?_; unfold doesAt; go_simp; (try go_bits); (first | (refine ⟨brefl _, ?_⟩; rfl) | rfl); intro K hK; go_simp; refine hK _ ?_; clear hK K)
                refine obls_nil (fun _ => ?_)
                have HE2 := Lib.hid (HE.out.later hG)
                clear hc hf hG HE
                go_wp2
                refine hK3 _ _ (q3 - 1) (by omega) ⟨rfl, i + 1, (i : Int), by omega, HE2.out, HN.out, ?_⟩
                repeat (first | exact fits_nil | refine fits_none ?_ | refine fits_some ?_)
              · obtain ⟨rb', ro', xb, hA', hrb', hxb, k0, k1⟩ := (Hs.out.later hB.bel).ltR (i := b) (by omega)
                cases hA'
                have hxbh : hiAt rs b = xb.hi := by unfold hiAt; simp [List.getD, hxb]
                rw [hb1] at hsu hbv ⊢
                have hb2 : ¬ ((b : Int) < 0) := by omega
                have hb3 : (b : Int) < (rs.length : Int) := by omega
                have hb4 : (0 : Int) ≤ (b : Int) := by omega
                rw [Int.toNat_natCast, hxbh, hxh] at hsu
                by_cases h3 : x.hi < xb.hi
                · have hnew : bestTo rs D t (i + 1) = (i : Int) := by rw [hsu, if_pos ⟨hcan, .inr h3⟩]
                  clear hcan hD hsu hbv hxb hxbh hb1
                  have HN := Lib.hid (show bestTo rs D t (i + 1) = (i : Int) from hnew)
                  clear hB hx hxl hxh
                  go_wp2_with fail
                  refine dag 50 (by kernel_rfl) (by kernel_rfl) (.is ?_ :: .is ?_ :: .is ?_ :: .is ?_ :: .is ?_ :: .is ?_ :: .is ?_ :: .is ?_ :: .is ?_ :: .is ?_ :: .is ?_ :: .is ?_ :: .is ?_ :: .is ?_ :: .is ?_ :: .is ?_ :: .is ?_ :: .is ?_ :: .is ?_ :: .is ?_ :: .is ?_ :: .is ?_ :: .is ?_ :: .is ?_ :: .is ?_ :: .is ?_ :: .is ?_ :: .is ?_ :: .is ?_ :: .is ?_ :: .is ?_ :: .is ?_ :: .is ?_ :: .is ?_ :: .is ?_ :: .is ?_ :: .is ?_ :: .is ?_ :: .is ?_ :: .is ?_ :: .is ?_ :: .is ?_ :: .is ?_ :: .is ?_ :: .is ?_ :: .is ?_ :: .is ?_ :: .is ?_ :: .is ?_ :: .is ?_ :: []) rfl ?stb ?obb
                  case stb => simp [Spec.ok]
                  case obb =>
                  intro env V hG
                  obtain ⟨hc, hf⟩ := bcell hG
                  repeat (refine obls_is ?_ ?_; unfold doesAt; go_simp; (try go_bits); (first | (refine ⟨brefl _, ?_⟩; rfl) | rfl); intro K hK; go_simp; refine hK _ ?_; clear hK K)
                  refine obls_nil (fun _ => ?_)
                  have HE2 := Lib.hid (HE.out.later hG)
                  clear hc hf hG HE
                  go_wp2
                  refine hK3 _ _ (q3 - 1) (by omega) ⟨rfl, i + 1, (i : Int), by omega, HE2.out, HN.out, ?_⟩
                  repeat (first | exact fits_nil | refine fits_none ?_ | refine fits_some ?_)
                · have hnew : bestTo rs D t (i + 1) = (b : Int) := by rw [hsu, if_neg (fun h => by rcases h.2 with h | h; exact hb2 h; exact h3 h)]
                  clear hcan hD hsu hbv hxb hxbh hb1
                  have HN := Lib.hid (show bestTo rs D t (i + 1) = (b : Int) from hnew)
                  clear hB hx hxl hxh
                  go_wp2_with fail
                  refine dag 50 (by kernel_rfl) (by kernel_rfl) (.is ?_ :: .is ?_ :: .is ?_ :: .is ?_ :: .is ?_ :: .is ?_ :: .is ?_ :: .is ?_ :: .is ?_ :: .is ?_ :: .is ?_ :: .is ?_ :: .is ?_ :: .is ?_ :: .is ?_ :: .is ?_ :: .is ?_ :: .is ?_ :: .is ?_ :: .is ?_ :: .is ?_ :: .is ?_ :: .is ?_ :: .is ?_ :: .is ?_ :: .is ?_ :: .is ?_ :: .is ?_ :: .is ?_ :: .is ?_ :: .is ?_ :: .is ?_ :: .is ?_ :: .is ?_ :: .is ?_ :: .is ?_ :: .is ?_ :: .is ?_ :: .is ?_ :: .is ?_ :: .is ?_ :: .is ?_ :: .is ?_ :: .is ?_ :: .is ?_ :: .is ?_ :: .is ?_ :: .is ?_ :: .is ?_ :: .is ?_ :: []) rfl ?stc ?obc
                  case stc => simp [Spec.ok]
                  case obc =>
                  intro env V hG
                  obtain ⟨hc, hf⟩ := bcell hG
                  repeat (refine obls_is ?_ ?_; unfold doesAt; go_simp; (try go_bits); (first | (refine ⟨brefl _, ?_⟩; rfl) | rfl); intro K hK; go_simp; refine hK _ ?_; clear hK K)
                  refine obls_nil (fun _ => ?_)
                  have HE2 := Lib.hid (HE.out.later hG)
                  clear hc hf hG HE
                  go_wp2
                  refine hK3 _ _ (q3 - 1) (by omega) ⟨rfl, i + 1, (b : Int), by omega, HE2.out, HN.out, ?_⟩
                  repeat (first | exact fits_nil | refine fits_none ?_ | refine fits_some ?_)
            · have hnew : bestTo rs D t (i + 1) = bv := by rw [hsu, if_neg (fun h => h2 (by have := h.1.2.2; omega))]
              have d1 : decide (t ≤ x.hi) = false := by simpa using h2
              clear hD hsu hbv hsp h2
              have HN := Lib.hid (show bestTo rs D t (i + 1) = bv from hnew)
              clear hB hx hxl hxh
              go_wp2_with fail
              refine dag 50 (by kernel_rfl) (by kernel_rfl) (.is ?_ :: .is ?_ :: .is ?_ :: .is ?_ :: .is ?_ :: .is ?_ :: .is ?_ :: .is ?_ :: .is ?_ :: .is ?_ :: .is ?_ :: .is ?_ :: .is ?_ :: .is ?_ :: .is ?_ :: .is ?_ :: .is ?_ :: .is ?_ :: .is ?_ :: .is ?_ :: .is ?_ :: .is ?_ :: .is ?_ :: .is ?_ :: .is ?_ :: .is ?_ :: .is ?_ :: .is ?_ :: .is ?_ :: .is ?_ :: .is ?_ :: .is ?_ :: .is ?_ :: .is ?_ :: .is ?_ :: .is ?_ :: .is ?_ :: .is ?_ :: .is ?_ :: .is ?_ :: .is ?_ :: .is ?_ :: .is ?_ :: .is ?_ :: .is ?_ :: .is ?_ :: .is ?_ :: .is ?_ :: .is ?_ :: .is ?_ :: []) rfl ?std ?obd
              case std => simp [Spec.ok]
              case obd =>
              intro env V hG
              obtain ⟨hc, hf⟩ := bcell hG
              repeat (refine obls_is ?_ ?_; unfold doesAt; go_simp; (try go_bits); (first | (refine ⟨brefl _, ?_⟩; rfl) | rfl); intro K hK; go_simp; refine hK _ ?_; clear hK K)
              refine obls_nil (fun _ => ?_)
              have HE2 := Lib.hid (HE.out.later hG)
              clear hc hf hG HE
              go_wp2
              refine hK3 _ _ (q3 - 1) (by omega) ⟨rfl, i + 1, bv, by omega, HE2.out, HN.out, ?_⟩
              repeat (first | exact fits_nil | refine fits_none ?_ | refine fits_some ?_)
          · have hnew : bestTo rs D t (i + 1) = bv := by rw [hsu, if_neg (fun h => h1 (by have := h.1.2.1; omega))]
            have d1 : decide (x.lo ≤ t) = false := by simpa using h1
            clear hD hsu hbv hsp h1
            have HN := Lib.hid (show bestTo rs D t (i + 1) = bv from hnew)
            clear hB hx hxl hxh
            go_wp2_with fail
            refine dag 50 (by kernel_rfl) (by kernel_rfl) (.is ?_ :: .is ?_ :: .is ?_ :: .is ?_ :: .is ?_ :: .is ?_ :: .is ?_ :: .is ?_ :: .is ?_ :: .is ?_ :: .is ?_ :: .is ?_ :: .is ?_ :: .is ?_ :: .is ?_ :: .is ?_ :: .is ?_ :: .is ?_ :: .is ?_ :: .is ?_ :: .is ?_ :: .is ?_ :: .is ?_ :: .is ?_ :: .is ?_ :: .is ?_ :: .is ?_ :: .is ?_ :: .is ?_ :: .is ?_ :: .is ?_ :: .is ?_ :: .is ?_ :: .is ?_ :: .is ?_ :: .is ?_ :: .is ?_ :: .is ?_ :: .is ?_ :: .is ?_ :: .is ?_ :: .is ?_ :: .is ?_ :: .is ?_ :: .is ?_ :: .is ?_ :: .is ?_ :: .is ?_ :: .is ?_ :: .is ?_ :: []) rfl ?ste ?obe
            case ste => simp [Spec.ok]
            case obe =>
            intro env V hG
            obtain ⟨hc, hf⟩ := bcell hG
            repeat (refine obls_is ?_ ?_; unfold doesAt; go_simp; (try go_bits); (first | (refine ⟨brefl _, ?_⟩; rfl) | rfl); intro K hK; go_simp; refine hK _ ?_; clear hK K)
            refine obls_nil (fun _ => ?_)
            have HE2 := Lib.hid (HE.out.later hG)
            clear hc hf hG HE
            go_wp2
            refine hK3 _ _ (q3 - 1) (by omega) ⟨rfl, i + 1, bv, by omega, HE2.out, HN.out, ?_⟩
            repeat (first | exact fits_nil | refine fits_none ?_ | refine fits_some ?_)
        · have hnew : bestTo rs D t (i + 1) = bv := by rw [hsu, if_neg (fun h => hD h.1.1)]
          have d1 : (D i == 0) = false := by simpa using hD
          have d2 : decide (D i = 0) = false := by simpa using hD
          clear hD hsu hbv hsp
          have HN := Lib.hid (show bestTo rs D t (i + 1) = bv from hnew)
          clear hB hx hxl hxh
          go_wp2_with fail
          refine dag 50 (by kernel_rfl) (by kernel_rfl) (.is ?_ :: .is ?_ :: .is ?_ :: .is ?_ :: .is ?_ :: .is ?_ :: .is ?_ :: .is ?_ :: .is ?_ :: .is ?_ :: .is ?_ :: .is ?_ :: .is ?_ :: .is ?_ :: .is ?_ :: .is ?_ :: .is ?_ :: .is ?_ :: .is ?_ :: .is ?_ :: .is ?_ :: .is ?_ :: .is ?_ :: .is ?_ :: .is ?_ :: .is ?_ :: .is ?_ :: .is ?_ :: .is ?_ :: .is ?_ :: .is ?_ :: .is ?_ :: .is ?_ :: .is ?_ :: .is ?_ :: .is ?_ :: .is ?_ :: .is ?_ :: .is ?_ :: .is ?_ :: .is ?_ :: .is ?_ :: .is ?_ :: .is ?_ :: .is ?_ :: .is ?_ :: .is ?_ :: .is ?_ :: .is ?_ :: .is ?_ :: []) rfl ?stf ?obf
          case stf => simp [Spec.ok]
          case obf =>
          intro env V hG
          obtain ⟨hc, hf⟩ := bcell hG
          repeat (refine obls_is ?_ ?_; unfold doesAt; go_simp; (try go_bits); (first | (refine ⟨brefl _, ?_⟩; rfl) | rfl); intro K hK; go_simp; refine hK _ ?_; clear hK K)
          refine obls_nil (fun _ => ?_)
          have HE2 := Lib.hid (HE.out.later hG)
          clear hc hf hG HE
          go_wp2
          refine hK3 _ _ (q3 - 1) (by omega) ⟨rfl, i + 1, bv, by omega, HE2.out, HN.out, ?_⟩
          repeat (first | exact fits_nil | refine fits_none ?_ | refine fits_some ?_)
      · obtain rfl : i = rs.length := by omega
        have hF := HF.out
        rw [hbv] at hF
        clear hK3 HF hbv hli hiq
        rcases hF with ⟨hb1, hf2⟩ | ⟨b, hbl, hb1, hf2, hl2⟩
        · have HF2 := Lib.hid hf2
          subst hb1
          clear hf2 hB
          go_wp2
          refine hK2 _ _ q2 (by omega) ⟨rfl, j + 1, e, D, by omega, HE.out, HF2.out, Hel.out, ?_⟩
          repeat (first | exact fits_nil | refine fits_none ?_ | refine fits_some ?_)
        · have HF2 := Lib.hid hf2
          have hel := Hel.out
          have Hel2 := Lib.hid (show e + 1 + (leftI rs.length (updN D b 1)).length = rs.length by omega)
          have y0 : W.cell? ⟨w.heap.size + 1, b, none⟩ = some (.int .i64 (D b)) := by rw [hB.bd.cell, numArr_get hbl]
          have y1 := hB.bd.frozen b
          have y2 := hB.bd.lt
          have hb2 : (b : Int) < (rs.length : Int) := by omega
          have hb3 : (0 : Int) ≤ (b : Int) := by omega
          have hb4 : IntKind.i64.wrap ((e : Int) + 1) = (e : Int) + 1 := by rw [IntKind.wrap_i64]; omega
          have HE2 := Lib.hid (hB.set b 1)
          subst hb1
          clear hf2 hB hl2 hel
          go_wp2
          refine hK2 _ _ q2 (by omega) ⟨rfl, j + 1, e + 1, _, by omega, HE2.out, HF2.out, Hel2.out, ?_⟩
          repeat (first | exact fits_nil | refine fits_none ?_ | refine fits_some ?_)
  · have hk : k = ls.length := by omega
    rw [hk, List.drop_length] at hfe
    have hl0 := hfe.done
    rw [hl0] at hel
    have he : (e : Int) = (rs.length : Int) := by simp at hel; omega
    have d1 : ((e : Int) == (rs.length : Int)) = true := by simpa using he
    have d2 : decide ((e : Int) = (rs.length : Int)) = true := by simpa using he
    have hk1 : ¬ ((k : Int) < (ls.length : Int)) := by omega
    clear hK hB hfe hl0 hel hk hlt hq he
    go_wp2
    go_ret
    exact ⟨rfl, HE.out.bel⟩
end Go.Proofs.Ytbbdlebmagknmaa
