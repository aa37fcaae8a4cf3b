/- grade.CheckFill. -/
import Derived.Test.YtmfiggbobaihcaaGFillR
import Derived.Test.YtmfiggbobaihcaaGFillA
namespace Go.Proofs.Ytmfiggbobaihcaa
open Go.RowKit Go.Shelf

/-- What rows read as. -/
def rowsX (L : List Rw) : List (List Int) := L.map fun r => r.xs
set_option maxHeartbeats 1000000 in
theorem fillSize_any (B n : Nat) (sc : Nat) (SA A : Option Addr) (m c : Nat) (w : World) (hc : w.cell? ⟨B, 0, none⟩ = some (.slice SA n sc)) :
    Calls Try.prog 57 #[.slice A m c, .pointer (some ⟨B, 0, none⟩)] w fun e w' => e = .returned (.bool (decide (m ≠ n))) ∧ Below w.heap.size w w' := by
  obtain ⟨q, hq⟩ : ∃ q, ((m : Int) != (n : Int)) = q := ⟨_, rfl⟩
  have Hq := Lib.hid (show decide (m ≠ n) = q by rw [← hq, Bool.eq_iff_iff]; simp; omega)
  have HB := Lib.hid (brefl w)
  rw [Hq.out]
  go_enter Try.func57, Try.ntmps57
  go_wp2
  go_ret
  exact ⟨ret_bool (by rw [← hq]), HB.out⟩
set_option maxHeartbeats 1000000 in
theorem fillRange_any (A : Option Addr) (n c : Nat) (xs : List Int) (w : World) (hs : Sl 1 encI w w.heap.size A n c xs) :
    Calls Try.prog 59 #[.slice A n c] w fun e w' => e = .returned (.bool (xs.any (outR 0 20))) ∧ Below w.heap.size w w' := by
  have Hc := Lib.hid (within_any 0 20 A n c xs w hs)
  clear hs
  generalize xs.any (outR 0 20) = q at *
  go_enter Try.func59, Try.ntmps59
  go_wp2_with fail
  refine Hc.out.mono ?_
  rintro e w1 ⟨rfl, hb⟩
  have HB := Lib.hid hb
  clear hb
  go_wp2
  go_ret
  exact ⟨ret_bool (by simp), HB.out⟩
section
variable {L : List Rw} {W : World} {FA : Option Addr} {fn fc : Nat}
theorem rows_len (h : FillIn W FA fn fc L) {r : Rw} (hr : r ∈ L) : r.xs.length = r.n := (h.rows r hr).len
theorem rows_at {i : Nat} {r : Rw} (hr : L[i]? = some r) : (rowsX L)[i]? = some r.xs := by unfold rowsX; rw [List.getElem?_map, hr]; rfl
theorem rows_length (L : List Rw) : (rowsX L).length = L.length := by simp [rowsX]
theorem rows_any (h : FillIn W FA fn fc L) (n : Nat) : (L.any fun r => decide (r.n ≠ n)) = (rowsX L).any fun x => decide (x.length ≠ n) := by
  unfold rowsX
  rw [List.any_map, Bool.eq_iff_iff, List.any_eq_true, List.any_eq_true]
  constructor
  · rintro ⟨r, h1, h2⟩
    exact ⟨r, h1, by show decide (r.xs.length ≠ n) = true; rw [rows_len h h1]; exact h2⟩
  · rintro ⟨r, h1, h2⟩
    exact ⟨r, h1, by have h3 : decide (r.xs.length ≠ n) = true := h2; rw [rows_len h h1] at h3; exact h3⟩
theorem rows_num (L : List Rw) : (L.any fun r => r.xs.any (outR 0 20)) = badNum (rowsX L) := by
  unfold rowsX badNum
  rw [List.any_map]
  rfl
end
/-- The numbers that are given are counted in a block of the call's own. -/
structure FC (w W : World) (T C : Nat) (SA : Option Addr) (sn sc : Nat) (PA : Option Addr) (pn pc : Nat) (OA : Option Addr) (on oc : Nat) (S P : List Int) (O : List Od) (M F : Nat → Int) : Prop where
  bel : Below w.heap.size w W
  b0 : Blk W w.heap.size 25 #[.slice SA sn sc, .slice PA pn pc, .slice OA on oc]
  v0 : Blk W T 83 (stoC SA sn sc PA pn pc OA on oc M)
  c0 : Blk W C 81 (ctsA F)
section
variable {w W W' : World} {T C : Nat} {SA : Option Addr} {sn sc : Nat} {PA : Option Addr} {pn pc : Nat} {OA : Option Addr} {on oc : Nat} {S P : List Int} {O : List Od} {M F : Nat → Int}
theorem FC.later (h : FC w W T C SA sn sc PA pn pc OA on oc S P O M F) (hb : Below W.heap.size W W') : FC w W' T C SA sn sc PA pn pc OA on oc S P O M F := ⟨Below.later h.bel hb, h.b0.later hb, h.v0.later hb, h.c0.later hb⟩
theorem FC.set (h : FC w W T C SA sn sc PA pn pc OA on oc S P O M F) (hC : w.heap.size + 1 ≤ C) (hT : T ≠ C) {g : Nat} (hg : g < 5) (v : Int) : FC w (W.setCell ⟨C, g, none⟩ (.int .i64 v)) T C SA sn sc PA pn pc OA on oc S P O M (Gr9.upd F g v) :=
  ⟨bset h.bel (by show w.heap.size ≤ C; omega) _, h.b0.other (by show C ≠ w.heap.size; omega) _, h.v0.other (Ne.symm hT) _, by have h1 := h.c0.set g (.int .i64 v); rw [ctsA_set F hg] at h1; exact h1⟩
end
theorem below_setB {U : World} {b : Nat} : ∀ (vs : List Value) (o : Nat) (V : World), Below U.heap.size U V → U.heap.size ≤ b → Below U.heap.size U (V.setCells b o vs)
  | [], _, _, h, _ => h
  | v :: vs, o, V, h, hb => below_setB vs (o + 1) (V.setCell ⟨b, o, none⟩ v) (bset h hb v) hb
theorem blk_setZ {b : Nat} {t : TypeId} {cs : Array Value} : ∀ (n o : Nat) (W : World), Blk W b t cs → (∀ j, j < n → cs[o + j]? = some (.int .i64 0)) → Blk (W.setCells b o (List.replicate n (.int .i64 0))) b t cs
  | 0, _, _, h, _ => h
  | n + 1, o, W, h, hv => by
    have h0 := hv 0 (by omega)
    have h1 : cs.setIfInBounds o (.int .i64 0) = cs := by
      apply Array.ext
      · simp
      · intro i h2 h3
        rw [Array.getElem_setIfInBounds h3]
        by_cases e : o = i
        · subst e
          rw [Nat.add_zero, Array.getElem?_eq_getElem h3] at h0
          simp at h0
          rw [if_pos rfl, h0]
        · rw [if_neg e]
    have h2 : Blk (W.setCell ⟨b, o, none⟩ (.int .i64 0)) b t cs := by
      have := h.set o (.int .i64 0)
      rwa [h1] at this
    exact blk_setZ n (o + 1) _ h2 (fun j hj => by rw [Nat.add_assoc, Nat.add_comm 1 j]; exact hv (j + 1) (by omega))
set_option maxRecDepth 100000 in
theorem run_index_counts (F : Nat → Int) {g : Nat} (hg : g < 5) (W : World) : (Instr.index 81 (.agg #[.int .i64 (F 0), .int .i64 (F 1), .int .i64 (F 2), .int .i64 (F 3), .int .i64 (F 4)]) (.int .i64 (g : Int))).run Try.prog W = .ok (.int .i64 (F g)) W := by
  rcases g with _ | _ | _ | _ | _ | g
  · rfl
  · rfl
  · rfl
  · rfl
  · rfl
  · omega
set_option maxRecDepth 100000 in
/-- Counts that are new are cleared. -/
theorem run_clear_counts (U : World) (ty : TypeId) : ∃ V, (Builtin.clear_ #[22] ty #[.slice (some ⟨U.heap.size, 0, none⟩) 5 5]).run Try.prog (U.alloc (.cells (ctsA fun _ => 0) 81)) = .ok (.tuple #[]) V ∧ Below U.heap.size U V ∧ Blk V U.heap.size 81 (ctsA fun _ => 0) := by
  have hb0 : Blk (U.alloc (.cells (ctsA fun _ => 0) 81)) U.heap.size 81 (ctsA fun _ => 0) := Blk.new U _ _
  have hget : ∀ j, j < 5 → (ctsA fun _ => 0)[0 + j]? = some (.int .i64 0) := fun j hj => by
    rcases j with _ | _ | _ | _ | _ | j
    · rfl
    · rfl
    · rfl
    · rfl
    · rfl
    · omega
  refine ⟨_, Lib.run_clear_slice (P := Try.prog) _ 22 2 ty (.int .i64 0) (by kernel_rfl) (fun _ => by rfl) rfl rfl U.heap.size 0 5 5 (by omega) (fun j hj => by rw [hb0.cell, hget j hj]; rfl) (fun j hj => hb0.frozen _), below_setB _ 0 _ (balloc (brefl U) _) (Nat.le_refl _), blk_setZ 5 0 _ hb0 hget⟩
set_option maxRecDepth 100000 in
set_option maxHeartbeats 8000000 in
theorem checkFill_any (SA : Option Addr) (sn sc : Nat) (PA : Option Addr) (pn pc : Nat) (OA : Option Addr) (on oc : Nat) (S P : List Int) (O : List Od) (FA : Option Addr) (fn fc : Nat) (L : List Rw) (w : World) (hs : ShopIn w w.heap.size SA sn sc PA pn pc OA on oc S P O) (hl : FillIn w FA fn fc L) (h100 : fn ≤ 1000) : Calls Try.prog 19 #[.agg #[.slice SA sn sc, .slice PA pn pc, .slice OA on oc], .slice FA fn fc] w fun e w' => e = .returned (.tuple #[.int .i64 (fillR S P O (rowsX L)).1, .int .i64 (fillR S P O (rowsX L)).2]) ∧ Below w.heap.size w w' := by
  have Hs := Lib.hid hs
  obtain rfl := hs.stk.len
  obtain rfl := hs.prc.len
  obtain rfl := hs.ord.len
  have HG0 := Lib.hid (GW.start hs)
  obtain ⟨g0, g1, g2, g3⟩ := HG0.out.cells
  obtain rfl := hl.sl.len
  have Hl := Lib.hid hl
  have HL0 := Lib.hid (hl.later (balloc (brefl w) (.cells #[.slice SA S.length sc, .slice PA P.length pc, .slice OA O.length oc] 25)))
  obtain ⟨res, hres⟩ : ∃ res : Int × Int, fillR S P O (rowsX L) = res := ⟨_, rfl⟩
  rw [hres]
  have Hres := Lib.hid hres
  clear hres
  by_cases he : shopE S P O = 0
  case neg =>
    have hR : res = (0, shopE S P O) := by
      have h1 : sizeE S P O (rowsX L) = shopE S P O := by unfold sizeE; rw [if_pos he]
      have h2 : fillE S P O (rowsX L) = shopE S P O := by unfold fillE; rw [h1, if_pos he]
      rw [← Hres.out]; unfold fillR; rw [h2, if_pos he]
    rw [hR]
    clear hR Hres hl Hl HL0
    have Ho := Lib.hid (fun W (h : ShopIn W W.heap.size SA S.length sc PA P.length pc OA O.length oc S P O) => open_bad SA S.length sc PA P.length pc OA O.length oc S P O W h he)
    obtain ⟨q, hq⟩ : ∃ q, shopE S P O = q := ⟨_, rfl⟩
    rw [hq] at Ho he ⊢
    have d1 : (q != 0) = true := by simpa using he
    clear hs hq he
    go_enter Try.func19, Try.ntmps19
    go_wp2_with fail
    refine (Ho.out _ HG0.out.sh).mono ?_
    rintro e w1 ⟨rfl, hb⟩
    have HG1 := Lib.hid (HG0.out.later hb)
    clear hb HG0 g0 g1 g2 g3
    obtain ⟨g0, g1, g2, g3⟩ := HG1.out.cells
    go_wp2
    go_ret2
    exact ⟨rfl, HG1.out.bel⟩
  have hF := fine_of he
  have HF := Lib.hid hF
  have He := Lib.hid he
  have Hok := Lib.hid hF.ok
  have n5 := hF.n5
  have o8 := hF.o8
  have Ho := Lib.hid (fun W (h : ShopIn W W.heap.size SA S.length sc PA P.length pc OA O.length oc S P O) => open_ok SA S.length sc PA P.length pc OA O.length oc S P O W h he)
  have HeqE := Lib.hid (show badLen S.length O (rowsX L) = true → res = (0, 15) from fun h => by
    have h1 : sizeE S P O (rowsX L) = 15 := by unfold sizeE; rw [if_neg (fun h => h he), if_pos h]
    have h2 : fillE S P O (rowsX L) = 15 := by unfold fillE; rw [h1, if_pos (by decide)]
    rw [← Hres.out]; unfold fillR; rw [h2, if_pos (by decide)])
  have HnuE := Lib.hid (show badLen S.length O (rowsX L) = false → badNum (rowsX L) = true → res = (0, 3) from fun h h' => by
    have h1 : sizeE S P O (rowsX L) = 3 := by unfold sizeE; rw [if_neg (fun h => h he), if_neg (by rw [h]; decide), if_pos h']
    have h2 : fillE S P O (rowsX L) = 3 := by unfold fillE; rw [h1, if_pos (by decide)]
    rw [← Hres.out]; unfold fillR; rw [h2, if_pos (by decide)])
  have HzeE := Lib.hid (show badLen S.length O (rowsX L) = false → badNum (rowsX L) = false → sizeE S P O (rowsX L) = 0 from fun h h' => by
    unfold sizeE; rw [if_neg (fun h => h he), if_neg (by rw [h]; decide), if_neg (by rw [h']; decide)])
  clear hs he hF hl
  by_cases hn : L.length = O.length
  case neg =>
    have hR := HeqE.out (by unfold badLen; rw [decide_eq_true (show (rowsX L).length ≠ O.length by rw [rows_length]; exact hn)]; rfl)
    rw [hR]
    have dn : ((L.length : Int) != (O.length : Int)) = true := by simp; omega
    have dn2 : ¬ L.length = O.length := hn
    clear hn hR
    go_enter Try.func19, Try.ntmps19
    go_wp2_with fail
    refine (Ho.out _ HG0.out.sh).mono ?_
    rintro e w2 ⟨T, rfl, hb, hst, hT⟩
    have HG1 := Lib.hid (HG0.out.later hb)
    clear hb HG0 g0 g1 g2 g3
    obtain ⟨g0, g1, g2, g3⟩ := HG1.out.cells
    have HO1 := Lib.hid hst
    clear hst hT
    obtain ⟨o0, o1, o2, o3⟩ := HO1.out.cells
    go_wp2
    go_ret2
    exact ⟨rfl, HG1.out.bel⟩
  have dn : ((L.length : Int) != (O.length : Int)) = false := by simp; omega
  have Hn := Lib.hid hn
  have Hlen := Lib.hid (show badLen S.length O (rowsX L) = L.any fun r => decide (r.n ≠ S.length) by
    unfold badLen
    rw [rows_any Hl.out, decide_eq_false (show ¬ (rowsX L).length ≠ O.length by rw [rows_length]; omega), Bool.false_or])
  obtain ⟨q1, hq1⟩ : ∃ q1, (L.any fun r => decide (r.n ≠ S.length)) = q1 := ⟨_, rfl⟩
  obtain ⟨q2, hq2⟩ : ∃ q2, (L.any fun r => r.xs.any (outR 0 20)) = q2 := ⟨_, rfl⟩
  have Hq1 := Lib.hid hq1
  have Hq2 := Lib.hid hq2
  clear hn hq1 hq2
  go_enter Try.func19, Try.ntmps19
  go_wp2_with fail
  refine (Ho.out _ HG0.out.sh).mono ?_
  rintro e w3 ⟨T, rfl, hb, hst, hT⟩
  have HG1 := Lib.hid (HG0.out.later hb)
  have HL1 := Lib.hid (HL0.out.later hb)
  clear hb HG0 HL0 g0 g1 g2 g3
  obtain ⟨g0, g1, g2, g3⟩ := HG1.out.cells
  have HO1 := Lib.hid hst
  have HT0 := Lib.hid hT
  clear hst hT
  obtain ⟨o0, o1, o2, o3⟩ := HO1.out.cells
  go_wp2_with fail
  refine (containsV 57 #[.pointer (some ⟨w.heap.size, 0, none⟩)] (enters_of Try.func57 (by kernel_rfl) rfl) (fun r => decide (r.n ≠ S.length)) _ _ _ L _ HL1.out.sl (fun x W _ hb => fillSize_any _ _ _ _ _ _ _ W ((HG1.out.later hb).b0.cell 0))).mono ?_
  rintro e w4 ⟨rfl, hb⟩
  have HG2 := Lib.hid (HG1.out.later hb)
  have HL2 := Lib.hid (HL1.out.later hb)
  have HO2 := Lib.hid (HO1.out.later hb)
  clear hb HG1 HL1 HO1 g0 g1 g2 g3 o0 o1 o2 o3
  obtain ⟨g0, g1, g2, g3⟩ := HG2.out.cells
  obtain ⟨o0, o1, o2, o3⟩ := HO2.out.cells
  rw [Hq1.out]
  cases q1 with
  | true =>
    have HR := Lib.hid (HeqE.out (by rw [Hlen.out, Hq1.out]))
    go_wp2
    go_ret2
    exact ⟨ret_two (by rw [HR.out]) (by rw [HR.out]), HG2.out.bel⟩
  | false =>
  go_wp2_with fail
  refine (containsV 59 #[] (enters_of Try.func59 (by kernel_rfl) rfl) (fun r => r.xs.any (outR 0 20)) _ _ _ L _ HL2.out.sl (fun x W hx hb => fillRange_any _ _ _ _ W ((HL2.out.later hb).rows x hx))).mono ?_
  rintro e w5 ⟨rfl, hb⟩
  have HG3 := Lib.hid (HG2.out.later hb)
  have HL3 := Lib.hid (HL2.out.later hb)
  have HO3 := Lib.hid (HO2.out.later hb)
  clear hb HG2 HL2 HO2 g0 g1 g2 g3 o0 o1 o2 o3
  obtain ⟨g0, g1, g2, g3⟩ := HG3.out.cells
  obtain ⟨o0, o1, o2, o3⟩ := HO3.out.cells
  rw [Hq2.out]
  cases q2 with
  | true =>
    have HR := Lib.hid (HnuE.out (by rw [Hlen.out, Hq1.out]) (by rw [← rows_num, Hq2.out]))
    go_wp2
    go_ret2
    exact ⟨ret_two (by rw [HR.out]) (by rw [HR.out]), HG3.out.bel⟩
  | false =>
  have HZ := Lib.hid (HzeE.out (by rw [Hlen.out, Hq1.out]) (by rw [← rows_num, Hq2.out]))
  have HSz := Lib.hid (sizeE_zero HZ.out).2
  have HT := Lib.hid (show w.heap.size + 1 ≤ T from by have := HT0.out; simpa using this)
  obtain ⟨V0, hcl, hbl, hbk⟩ := run_clear_counts w5 0
  have HC0 := Lib.hid (show FC w V0 T w5.heap.size SA S.length sc PA P.length pc OA O.length oc S P O (stockM S) (gotP (rowsX L) 0) from ⟨Below.later HG3.out.bel hbl, HG3.out.b0.later hbl, HO3.out.b0.later hbl, hbk⟩)
  have HN := Lib.hid (show w.heap.size + 1 ≤ w5.heap.size ∧ T < w5.heap.size from ⟨HG3.out.b0.lt, HO3.out.b0.lt⟩)
  have Hcl := Lib.hid hcl
  unfold ctsA at Hcl
  clear hcl hbl hbk
  go_wp2_with fail
  rw [Hcl.out]
  simp only [Result.andThen]
  rw [Oper.upon_value]
  clear HG3 HO3 HL3 g0 g1 g2 g3 o0 o1 o2 o3 Hcl
  generalize w5.heap.size = C at *
  go_wp2_with fail
  have hl5 : ∀ x ∈ rowsX L, ∀ y ∈ x, 0 ≤ y ∧ y ≤ 20 := HSz.out.small
  have Hl5 := Lib.hid hl5
  clear hl5
  obtain ⟨g0, g2, g3⟩ : V0.cell? ⟨w.heap.size, 0, none⟩ = some (.slice SA S.length sc) ∧ V0.cell? ⟨w.heap.size, 2, none⟩ = some (.slice OA O.length oc) ∧ w.heap.size < V0.heap.size := ⟨HC0.out.b0.cell 0, HC0.out.b0.cell 2, HC0.out.b0.lt⟩
  refine loop_n (fun m b W => b.defers = [] ∧ ∃ i : Nat, i + m = L.length ∧ Hid (FC w W T C SA S.length sc PA P.length pc OA O.length oc S P O (stockM S) (gotP (rowsX L) i)) ∧ Fits (none :: none :: some (.pointer (some ⟨w.heap.size, 0, none⟩)) :: none :: none :: none :: some (.pointer (some ⟨T, 0, none⟩)) :: none :: none :: some (.pointer (some ⟨C, 0, none⟩)) :: some (.bool (sumT S.length O (rowsX L) i)) :: some (.bool (poorT S.length O (rowsX L) i)) :: none :: none :: none :: none :: none :: none :: none :: none :: none :: none :: none :: none :: none :: none :: none :: none :: none :: none :: none :: none :: none :: none :: none :: none :: none :: none :: none :: none :: none :: none :: none :: none :: some (.slice FA L.length fc) :: some (.int .i64 (L.length : Int)) :: some (.int .i64 (i : Nat)) :: none :: none :: none :: none :: none :: none :: none :: none :: none :: none :: none :: none :: none :: none :: none :: none :: none :: none :: none :: none :: none :: none :: none :: none :: none :: none :: none :: none :: none :: none :: none :: none :: none :: none :: none :: none :: none :: none :: none :: none :: none :: none :: none :: none :: none :: none :: none :: none :: none :: none :: none :: none :: none :: none :: none :: none :: none :: none :: none :: none :: none :: none :: none :: none :: none :: none :: none :: none :: none :: []) b.tmps.toList) L.length ?_ ?_
  · refine ⟨rfl, 0, by omega, HC0, ?_⟩
    repeat (first | exact fits_nil | refine fits_none ?_ | refine fits_some ?_)
  clear HC0 g0 g2 g3
  clear V0
  intro m b W hI K hK
  obtain ⟨hds, i, him, HC, hfit⟩ := hI
  obtain ⟨f, hf⟩ := fits_act hfit
  rw [hds] at hf
  subst hf
  clear hfit hds
  simp only [fillP, Nat.reduceAdd]
  by_cases hlt : i < L.length
  · obtain ⟨rb, ro, r, rfl, hrb, hr, p0⟩ := (Hl.out.later HC.out.bel).sl.ltW (i := i) hlt
    obtain ⟨ob, oo, u, rfl, hob, hu, q0, q1⟩ := (Hs.out.later HC.out.bel).ord.ltO (i := i) (by have := Hn.out; omega)
    have g0 := HC.out.b0.cell 2
    have g1 := HC.out.b0.lt
    have hu1 := HF.out.ord u (List.mem_of_getElem? hu)
    have i1 : (i : Int) < (L.length : Int) := by omega
    have i2 : (0 : Int) ≤ (i : Int) := by omega
    have i3 : IntKind.i64.wrap ((i : Int) + 1) = (i : Int) + 1 := by rw [IntKind.wrap_i64]; omega
    have i4 : (i : Int) < (O.length : Int) := by have := Hn.out; omega
    have Him := Lib.hid (show i + m = L.length ∧ i < L.length from ⟨him, hlt⟩)
    have hrx := rows_at hr
    have hrn : r.n = S.length := by
      have h1 := HSz.out.row _ (List.mem_of_getElem? hrx)
      rw [← rows_len Hl.out (List.mem_of_getElem? hr)]
      exact h1
    obtain ⟨rA, rn, rc, rxs⟩ := r
    simp only at hrn p0 hrx
    subst hrn
    have Hrow := Lib.hid (Hl.out.rows _ (List.mem_of_getElem? hr))
    have Hrx := Lib.hid hrx
    have Hu := Lib.hid hu
    have Hu1 := Lib.hid hu1
    have Hm : mAt O i = u.m := mAt_eq hu
    have hm0 : mAt O i - sumN (fX (rowsX L) i) 0 = u.m := by rw [Hm]; exact Int.sub_zero _
    have HC0 := Lib.hid (show FC w W T C SA S.length sc PA P.length pc (some ⟨ob, oo, none⟩) O.length oc S P O (stockM S) (mixG (rowsX L) i 0) by rw [mixG_zero]; exact HC.out)
    obtain ⟨ps, hps⟩ : ∃ ps, poorT S.length O (rowsX L) i = ps := ⟨_, rfl⟩
    have hp0 : (ps || poorR O (rowsX L) i 0) = ps := by rw [poorR, Bool.or_false]
    rw [hps]
    have Hps := Lib.hid hps
    obtain ⟨sm, hsm⟩ : ∃ sm, sumT S.length O (rowsX L) i = sm := ⟨_, rfl⟩
    rw [hsm]
    have Hsm := Lib.hid hsm
    have HM := Lib.hid Hm
    clear him hlt hrx hr hu hu1 Hm hps hsm
    go_wp2_with fail
    refine loop_n (fun q b W => b.defers = [] ∧ ∃ g : Nat, g + q = S.length ∧ Hid (FC w W T C SA S.length sc PA P.length pc (some ⟨ob, oo, none⟩) O.length oc S P O (stockM S) (mixG (rowsX L) i g)) ∧ Fits (none :: none :: some (.pointer (some ⟨w.heap.size, 0, none⟩)) :: none :: none :: none :: some (.pointer (some ⟨T, 0, none⟩)) :: none :: none :: some (.pointer (some ⟨C, 0, none⟩)) :: some (.bool sm) :: some (.bool (or ps (poorR O (rowsX L) i g))) :: some (.int .i64 (i : Nat)) :: none :: some (.int .i64 (mAt O i - sumN (fX (rowsX L) i) g)) :: none :: none :: none :: none :: none :: none :: none :: none :: none :: none :: none :: none :: none :: none :: none :: none :: none :: none :: none :: none :: none :: none :: none :: none :: none :: none :: none :: none :: none :: some (.slice (some ⟨rb, ro, none⟩) L.length fc) :: some (.int .i64 (L.length : Int)) :: some (.int .i64 (i : Nat)) :: none :: none :: none :: none :: none :: none :: none :: none :: none :: none :: some (.slice rA S.length rc) :: some (.int .i64 (S.length : Int)) :: some (.int .i64 (g : Nat)) :: none :: none :: none :: none :: none :: none :: none :: none :: none :: none :: none :: none :: none :: none :: none :: none :: none :: none :: none :: none :: none :: none :: none :: none :: none :: none :: none :: none :: none :: none :: none :: none :: none :: none :: none :: none :: none :: none :: none :: none :: none :: none :: none :: none :: none :: none :: none :: none :: none :: none :: none :: none :: none :: none :: none :: none :: []) b.tmps.toList) S.length ?_ ?_
    · refine ⟨rfl, 0, by omega, HC0, ?_⟩
      rw [hp0, hm0]
      repeat (first | exact fits_nil | refine fits_none ?_ | refine fits_some ?_)
    clear HC0 HC hp0 hm0 g0 g1 p0 q0 q1 hob hrb
    clear W
    intro q b W hI K2 hK2
    obtain ⟨hds, g, hgq, HC, hfit⟩ := hI
    obtain ⟨f2, hf2⟩ := fits_act hfit
    rw [hds] at hf2
    subst hf2
    clear hfit hds
    simp only [fillP, Nat.reduceAdd]
    by_cases hlt : g < S.length
    · obtain ⟨xb, xo, x, rfl, hxb, hx, p0⟩ := (Hrow.out.later HC.out.bel).ltI (i := g) hlt
      obtain ⟨ob2, oo2, u2, hA2, hob2, hu2, q0, -⟩ := (Hs.out.later HC.out.bel).ord.ltO (i := i) (by have := Him.out; have := Hn.out; omega)
      simp only [Option.some.injEq, Addr.mk.injEq, and_true] at hA2
      obtain ⟨rfl, rfl⟩ := hA2
      rw [Hu.out] at hu2
      cases hu2
      have g0 := HC.out.b0.cell 2
      have g1 := HC.out.b0.lt
      have c0 := cts_cell HC.out.c0 (g := g) (by omega)
      have c1 := HC.out.c0.frozen g
      have c2 := HC.out.c0.lt
      have hfx := fX_at Hrx.out hx
      have hxb2 := Hl5.out _ (List.mem_of_getElem? Hrx.out) x (List.mem_of_getElem? hx)
      have hmb := mixG_bound Hl5.out i g g
      have hsb := sumN_bound (M := fX (rowsX L) i) (b := 20) g (fun j _ => fX_bound Hl5.out i j)
      have hu1 := Hu1.out
      have hst1 : sumN (fX (rowsX L) i) (g + 1) = sumN (fX (rowsX L) i) g + x := by rw [sumN, hfx]
      have hst2 := mixG_step (rowsX L) i g
      rw [hfx] at hst2
      have hpo : poorR O (rowsX L) i (g + 1) = (poorR O (rowsX L) i g || (decide (0 < x) && decide (u.g < (g : Int)))) := by rw [poorR, hfx, gAt_eq Hu.out]
      have hil := Him.out
      have j1 : (g : Int) < (S.length : Int) := by omega
      have j2 : (0 : Int) ≤ (g : Int) := by omega
      have j3 : IntKind.i64.wrap ((g : Int) + 1) = (g : Int) + 1 := by rw [IntKind.wrap_i64]; omega
      have j4 : (g : Int) < 5 := by omega
      have j5 : IntKind.i64.wrap (mixG (rowsX L) i g g + x) = mixG (rowsX L) i g g + x := by have := Hn.out; rw [IntKind.wrap_i64]; omega
      have j6 : IntKind.i64.wrap (mAt O i - sumN (fX (rowsX L) i) g - x) = mAt O i - sumN (fX (rowsX L) i) g - x := by have := HM.out; rw [IntKind.wrap_i64]; omega
      have Hgq := Lib.hid (show g + q = S.length ∧ g < S.length from ⟨hgq, hlt⟩)
      have HC2 := Lib.hid (show FC w (W.setCell ⟨C, g, none⟩ (.int .i64 (mixG (rowsX L) i g g + x))) T C SA S.length sc PA P.length pc (some ⟨ob, oo, none⟩) O.length oc S P O (stockM S) (mixG (rowsX L) i (g + 1)) by rw [hst2]; exact HC.out.set HN.out.1 (by have := HN.out.2; omega) (by omega) _)
      have Hlf := Lib.hid (show mAt O i - sumN (fX (rowsX L) i) (g + 1) = mAt O i - sumN (fX (rowsX L) i) g - x by rw [hst1]; omega)
      have hne1 : C ≠ w.heap.size := by have := HN.out.1; omega
      have hne2 : ob ≠ C := by
        have h1 := Hs.out.ord.ltO (i := i) (by have := Hn.out; omega)
        obtain ⟨b', o', _, hA', hb', _⟩ := h1
        cases hA'
        have := HN.out.1
        omega
      generalize mAt O i - sumN (fX (rowsX L) i) g = lf at *
      generalize mixG (rowsX L) i g g = mx at *
      obtain ⟨p1, hp1⟩ : ∃ p1, (ps || poorR O (rowsX L) i g) = p1 := ⟨_, rfl⟩
      have Hpo := Lib.hid (show (ps || poorR O (rowsX L) i (g + 1)) = (p1 || (decide (0 < x) && decide (u.g < (g : Int)))) by rw [hpo, ← hp1, Bool.or_assoc])
      rw [hp1]
      clear hgq hlt hx hfx hxb2 hmb hsb hu1 hst1 hst2 hpo hil hp1
      cases p1 with
      | true =>
        have Hpo2 := Lib.hid (show (ps || poorR O (rowsX L) i (g + 1)) = true by rw [Hpo.out, Bool.true_or])
        go_wp2
        refine hK2 _ _ (q - 1) (by have := Hgq.out; omega) ⟨rfl, g + 1, by have := Hgq.out; omega, HC2, ?_⟩
        rw [Hpo2.out, Hlf.out]
        repeat (first | exact fits_nil | refine fits_none ?_ | refine fits_some ?_)
      | false =>
        cases d1 : decide (0 < x) with
        | false =>
          have Hpo2 := Lib.hid (show (ps || poorR O (rowsX L) i (g + 1)) = false by rw [Hpo.out, d1]; rfl)
          go_wp2
          refine hK2 _ _ (q - 1) (by have := Hgq.out; omega) ⟨rfl, g + 1, by have := Hgq.out; omega, HC2, ?_⟩
          rw [Hpo2.out, Hlf.out]
          repeat (first | exact fits_nil | refine fits_none ?_ | refine fits_some ?_)
        | true =>
          obtain ⟨p2, d2⟩ : ∃ p2, decide (u.g < (g : Int)) = p2 := ⟨_, rfl⟩
          have Hpo2 := Lib.hid (show (ps || poorR O (rowsX L) i (g + 1)) = p2 by rw [Hpo.out, d1, d2]; rfl)
          go_wp2
          refine hK2 _ _ (q - 1) (by have := Hgq.out; omega) ⟨rfl, g + 1, by have := Hgq.out; omega, HC2, ?_⟩
          rw [Hpo2.out, Hlf.out]
          repeat (first | exact fits_nil | refine fits_none ?_ | refine fits_some ?_)
    · obtain rfl : g = S.length := by omega
      have j1 : ¬ (S.length : Int) < (S.length : Int) := by omega
      have hmx := mixG_all Hrx.out (HSz.out.row _ (List.mem_of_getElem? Hrx.out))
      have HC2 := Lib.hid (show FC w W T C SA S.length sc PA P.length pc (some ⟨ob, oo, none⟩) O.length oc S P O (stockM S) (gotP (rowsX L) (i + 1)) by rw [← hmx]; exact HC.out)
      have hpo : poorT S.length O (rowsX L) (i + 1) = (ps || poorR O (rowsX L) i S.length) := by rw [poorT, Hps.out]
      have hsu : sumT S.length O (rowsX L) (i + 1) = (sm || decide (mAt O i - sumN (fX (rowsX L) i) S.length ≠ 0)) := by rw [sumT, Hsm.out]
      obtain ⟨p1, hp1⟩ : ∃ p1, (ps || poorR O (rowsX L) i S.length) = p1 := ⟨_, rfl⟩
      rw [hp1] at hpo ⊢
      have Hpo := Lib.hid hpo
      generalize mAt O i - sumN (fX (rowsX L) i) S.length = lf at *
      obtain ⟨s1, hs1⟩ : ∃ s1, (lf != 0) = s1 := ⟨_, rfl⟩
      have hs2 : decide (lf ≠ 0) = s1 := by rw [← hs1, Bool.eq_iff_iff]; simp
      rw [hs2] at hsu
      have Hsu := Lib.hid hsu
      have hil := Him.out
      clear hgq hlt hmx hpo hp1 hsu hs2 HC hK2
      cases sm with
      | true =>
        go_wp2
        refine hK _ _ (m - 1) (by have := Him.out; omega) ⟨rfl, i + 1, by have := Him.out; omega, HC2, ?_⟩
        rw [Hpo.out, Hsu.out, Bool.true_or]
        repeat (first | exact fits_nil | refine fits_none ?_ | refine fits_some ?_)
      | false =>
        go_wp2
        refine hK _ _ (m - 1) (by have := Him.out; omega) ⟨rfl, i + 1, by have := Him.out; omega, HC2, ?_⟩
        rw [Hpo.out, Hsu.out, Bool.false_or]
        repeat (first | exact fits_nil | refine fits_none ?_ | refine fits_some ?_)
  have i1 : ¬ (i : Int) < (L.length : Int) := by omega
  obtain rfl : i = L.length := by omega
  have hgx : gotP (rowsX L) L.length = gotX (rowsX L) := by unfold gotX; rw [rows_length]
  rw [hgx] at HC
  have hz := HZ.out
  have hfe : fillE S P O (rowsX L) = if poorT S.length O (rowsX L) L.length then 25 else if sumT S.length O (rowsX L) L.length then 14 else if overT (stockM S) (gotX (rowsX L)) S.length then 4 else 0 := by
    unfold fillE
    rw [hz, if_neg (fun h => h rfl), rows_length]
  have Hfe := Lib.hid hfe
  have Hov := Lib.hid (overT_five HSz.out.row n5)
  have hgb : ∀ k, 0 ≤ gotX (rowsX L) k ∧ gotX (rowsX L) k ≤ 160 := fun k => by
    have h1 := gotP_bound Hl5.out k (rowsX L).length
    have h2 := rows_length L
    have := Hn.out
    unfold gotX
    omega
  have Hgb := Lib.hid hgb
  have g0 := HC.out.b0.lt
  have c2 := HC.out.c0.lt
  have c3 := fun k (hk : k < 5) => cts_cell HC.out.c0 hk
  have k0 := c3 0 (by omega)
  have k1 := c3 1 (by omega)
  have k2 := c3 2 (by omega)
  have k3 := c3 3 (by omega)
  have k4 := c3 4 (by omega)
  have t0 := HC.out.v0.lt
  obtain ⟨p1, hp1⟩ : ∃ p1, poorT S.length O (rowsX L) L.length = p1 := ⟨_, rfl⟩
  obtain ⟨s1, hs1⟩ : ∃ s1, sumT S.length O (rowsX L) L.length = s1 := ⟨_, rfl⟩
  have Hp1 := Lib.hid hp1
  have Hs1 := Lib.hid hs1
  rw [hp1, hs1]
  generalize hFg : gotX (rowsX L) = F at *
  have HFg := Lib.hid hFg
  clear hFg
  clear hK him hlt hgx hz hfe hgb hp1 hs1 c3
  cases p1 with
  | true =>
    have HR := Lib.hid (show res = (0, 25) by
      have h2 : fillE S P O (rowsX L) = 25 := by rw [Hfe.out, Hp1.out]; rfl
      rw [← Hres.out]; unfold fillR; rw [h2, if_pos (by decide)])
    go_wp2
    go_ret2
    exact ⟨ret_two (by rw [HR.out]) (by rw [HR.out]), HC.out.bel⟩
  | false =>
  cases s1 with
  | true =>
    have HR := Lib.hid (show res = (0, 14) by
      have h2 : fillE S P O (rowsX L) = 14 := by rw [Hfe.out, Hp1.out, Hs1.out]; rfl
      rw [← Hres.out]; unfold fillR; rw [h2, if_pos (by decide)])
    go_wp2
    go_ret2
    exact ⟨ret_two (by rw [HR.out]) (by rw [HR.out]), HC.out.bel⟩
  | false =>
  go_wp2_with fail
  refine loop_n (fun m b W => b.defers = [] ∧ ∃ g : Nat, g + m = 5 ∧ Hid (FC w W T C SA S.length sc PA P.length pc OA O.length oc S P O (stockM S) F) ∧ Hid (overT (stockM S) F g = false) ∧ Fits (none :: none :: some (.pointer (some ⟨w.heap.size, 0, none⟩)) :: none :: none :: none :: some (.pointer (some ⟨T, 0, none⟩)) :: none :: none :: some (.pointer (some ⟨C, 0, none⟩)) :: none :: none :: none :: none :: none :: none :: none :: none :: none :: none :: none :: none :: none :: none :: none :: none :: none :: none :: none :: none :: none :: none :: none :: none :: none :: none :: none :: none :: none :: none :: none :: none :: none :: none :: none :: none :: none :: none :: none :: none :: none :: none :: none :: none :: none :: none :: none :: none :: none :: none :: none :: none :: none :: none :: none :: none :: none :: none :: none :: none :: none :: none :: none :: none :: none :: none :: none :: none :: none :: none :: none :: none :: none :: none :: none :: none :: none :: none :: none :: none :: none :: none :: none :: none :: none :: none :: none :: none :: none :: some (.agg #[.int .i64 (F 0), .int .i64 (F 1), .int .i64 (F 2), .int .i64 (F 3), .int .i64 (F 4)]) :: some (.int .i64 (g : Nat)) :: none :: none :: none :: none :: none :: none :: none :: none :: none :: none :: none :: none :: none :: none :: none :: []) b.tmps.toList) 5 ?_ ?_
  · refine ⟨rfl, 0, by omega, HC, Lib.hid rfl, ?_⟩
    repeat (first | exact fits_nil | refine fits_none ?_ | refine fits_some ?_)
  clear HC g0 c2 k0 k1 k2 k3 k4 t0 i1
  clear W
  intro m b W hI K hK
  obtain ⟨hds, g, hgm, HC, HN2, hfit⟩ := hI
  obtain ⟨f, hf⟩ := fits_act hfit
  rw [hds] at hf
  subst hf
  clear hfit hds
  simp only [fillP, Nat.reduceAdd]
  by_cases hlt : g < 5
  · have hidx : (#[Value.int .i64 (F 0), .int .i64 (F 1), .int .i64 (F 2), .int .i64 (F 3), .int .i64 (F 4)] : Array Value)[g]? = some (.int .i64 (F g)) := by
      rcases g with _ | _ | _ | _ | _ | g
      · rfl
      · rfl
      · rfl
      · rfl
      · rfl
      · omega
    have g1 : (g : Int) < 5 := by omega
    have g2 : (0 : Int) ≤ (g : Int) := by omega
    have g3 : IntKind.i64.wrap ((g : Int) + 1) = (g : Int) + 1 := by rw [IntKind.wrap_i64]; omega
    have hst : StIn W T SA S.length sc PA P.length pc OA O.length oc S P O (stockM S) := ⟨HC.out.v0, Hs.out.later HC.out.bel⟩
    have q0 := hst.stock hlt
    have q1 := hst.b0.lt
    have Hgm := Lib.hid (show g + m = 5 ∧ g < 5 from ⟨hgm, hlt⟩)
    have hov : overT (stockM S) F (g + 1) = (overT (stockM S) F g || decide (stockM S g < F g)) := rfl
    rw [HN2.out, Bool.false_or] at hov
    have Hov2 := Lib.hid hov
    clear hgm hov hst
    have Hix := Lib.hid (run_index_counts F Hgm.out.2)
    clear hidx
    go_wp2_with fail
    rw [Hix.out]
    simp only [Result.andThen]
    rw [Oper.upon_value]
    cases d1 : decide (stockM S g < F g) with
    | true =>
      have HR := Lib.hid (show res = (0, 4) by
        have h1 : overT (stockM S) F S.length = true := by
          rw [← Hov.out, overT_iff]
          exact ⟨g, Hgm.out.2, of_decide_eq_true d1⟩
        have h2 : fillE S P O (rowsX L) = 4 := by rw [Hfe.out, Hp1.out, Hs1.out, h1]; rfl
        rw [← Hres.out]; unfold fillR; rw [h2, if_pos (by decide)])
      clear hK
      go_wp2
      go_ret2
      exact ⟨ret_two (by rw [HR.out]) (by rw [HR.out]), HC.out.bel⟩
    | false =>
      have Hov3 := Lib.hid (show overT (stockM S) F (g + 1) = false by rw [Hov2.out, d1])
      go_wp2
      refine hK _ _ (m - 1) (by have := Hgm.out; omega) ⟨rfl, g + 1, by have := Hgm.out; omega, HC, Hov3, ?_⟩
      repeat (first | exact fits_nil | refine fits_none ?_ | refine fits_some ?_)
  · obtain rfl : g = 5 := by omega
    have g1 : ¬ ((5 : Nat) : Int) < 5 := by omega
    have hno : overT (stockM S) F S.length = false := by rw [← Hov.out]; exact HN2.out
    have HR := Lib.hid (show res = (costL P F P.length, 0) by
      have h2 : fillE S P O (rowsX L) = 0 := by rw [Hfe.out, Hp1.out, Hs1.out, hno]; rfl
      rw [← Hres.out]; unfold fillR; rw [h2, if_neg (by decide), HF.out.len, HFg.out])
    have hst : StIn W T SA S.length sc PA P.length pc OA O.length oc S P O (stockM S) := ⟨HC.out.v0, Hs.out.later HC.out.bel⟩
    have c0 := HC.out.c0.cell 0
    have c1 := HC.out.c0.cell 1
    have c2 := HC.out.c0.cell 2
    have c3 := HC.out.c0.cell 3
    have c4 := HC.out.c0.cell 4
    have c5 := HC.out.c0.lt
    have Hco := Lib.hid (cost_any T SA S.length sc PA P.length pc OA O.length oc S P O (stockM S) F W hst (by have := HF.out.len; omega) HF.out.prc (fun j _ => by have := Hgb.out j; omega))
    unfold ctsA at c0 c1 c2 c3 c4 Hco
    clear hK hgm hlt hno hst
    go_wp2_with fail
    refine Hco.out.mono ?_
    rintro e w9 ⟨rfl, hb⟩
    have HB := Lib.hid (Below.later HC.out.bel hb)
    clear hb c0 c1 c2 c3 c4 c5
    go_wp2
    go_ret2
    exact ⟨ret_two (by rw [HR.out]) (by rw [HR.out]), HB.out⟩
end Go.Proofs.Ytmfiggbobaihcaa
