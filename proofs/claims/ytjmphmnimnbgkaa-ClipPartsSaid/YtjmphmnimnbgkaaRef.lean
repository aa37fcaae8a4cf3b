/- The document's answer: whether a unit is a fault; whether a sheet can be cut. -/
import Derived.Test.YtjmphmnimnbgkaaCheckPrices
namespace Go.Proofs.Ytjmphmnimnbgkaa
open Go.RowKit Go.Shelf

set_option maxRecDepth 100000 in
set_option maxHeartbeats 1000000 in
theorem isFault_any (L : Int) (FA : Option Addr) (fn fc : Nat) (fs : List Int) (u : Int) (w : World) (hfs : Sl 1 encI w w.heap.size FA fn fc fs) :
    Calls Try.prog 45 #[.agg #[.int .i64 L, .slice FA fn fc], .int .i64 u] w fun e w' => e = .returned (.bool (fs.contains u)) ∧ Below w.heap.size w w' := by
  have hcl := hfs.len
  have hbig := hfs.big
  have hcap := hfs.cap
  have hfs2 := hfs.later (balloc (brefl w) (.cells #[.int .i64 L, .slice FA fn fc] 24))
  obtain ⟨W, hW⟩ : ∃ W, w.alloc (.cells #[.int .i64 L, .slice FA fn fc] 24) = W := ⟨_, rfl⟩
  have hbel : Below w.heap.size w W := by rw [← hW]; exact balloc (brefl w) _
  have k1 : W.cell? ⟨w.heap.size, 1, none⟩ = some (.slice FA fn fc) := by rw [← hW]; exact (Blk.new w _ _).cell 1
  have z1 : w.heap.size < W.heap.size := by rw [← hW]; simp
  rw [hW] at hfs2
  have Hfs := Lib.hid hfs2
  have Hbel := Lib.hid hbel
  clear hfs hfs2 hbel
  go_enter Try.func45, Try.ntmps45
  go_wp2_with fail
  clear hW
  refine loop_n (fun n a W' => W = W' ∧ a.defers = [] ∧ ∃ i : Nat, i + n = fn ∧ (∀ j x, j < i → fs[j]? = some x → x ≠ u) ∧ Fits (none :: some (.int .i64 u) :: some (.pointer (some ⟨w.heap.size, 0, none⟩)) :: none :: none :: some (.int .i64 (i : Nat)) :: none :: none :: none :: none :: none :: none :: none :: none :: none :: none :: none :: none :: none :: none :: []) a.tmps.toList) fn ?_ ?_
  · refine ⟨rfl, rfl, 0, by omega, fun j x hj => by omega, ?_⟩
    repeat (first | exact fits_nil | refine fits_none ?_ | refine fits_some ?_)
  intro n a W' hI K hK
  obtain ⟨rfl, hds, i, hin, hno, hfit⟩ := hI
  obtain ⟨f, hf⟩ := fits_act hfit
  rw [hds] at hf
  subst hf
  clear hfit hds
  simp only [fillP, Nat.reduceAdd]
  by_cases hlt : i < fn
  · obtain ⟨b, o, x, rfl, hb, hx, hc⟩ := Hfs.out.ltI hlt
    have i1 : (i : Int) < (fn : Int) := by omega
    have i2 : (0 : Int) ≤ (i : Int) := by omega
    by_cases hxu : x = u
    · have hq : (x == u) = true := by simpa using hxu
      have HE := Lib.hid (show fs.contains u = true by rw [List.contains_iff_mem]; rw [← hxu]; exact List.mem_of_getElem? hx)
      clear hno hK hx hxu
      go_wp2
      go_ret
      exact ⟨ret_bool HE.out.symm, Hbel.out⟩
    · have hq : (x == u) = false := by simpa using hxu
      have Hno := Lib.hid (show ∀ j y, j < i + 1 → fs[j]? = some y → y ≠ u from fun j y hj hy => by
        by_cases e : j = i
        · subst e; rw [hx] at hy; cases hy; exact hxu
        · exact hno j y (by omega) hy)
      clear hno hx hxu
      go_wp2
      refine hK _ _ (n - 1) (by omega) ⟨rfl, rfl, i + 1, by omega, Hno.out, ?_⟩
      repeat (first | exact fits_nil | refine fits_none ?_ | refine fits_some ?_)
  · obtain rfl : i = fn := by omega
    have HE := Lib.hid (show fs.contains u = false by
      rw [← Bool.not_eq_true, List.contains_iff_mem]
      intro hm
      obtain ⟨j, hj⟩ := List.getElem?_of_mem hm
      exact hno j u (by have := (List.getElem?_eq_some_iff.1 hj).1; omega) hj rfl)
    clear hno hK
    go_wp2
    go_ret
    exact ⟨ret_bool HE.out.symm, Hbel.out⟩

structure RB (w W : World) (L : Int) (FA : Option Addr) (fn fc : Nat) (x : Kd) (fs : List Int) : Prop where
  bel : Below w.heap.size w W
  fsl : Sl 1 encI W W.heap.size FA fn fc fs
  b0 : Blk W w.heap.size 24 #[.int .i64 L, .slice FA fn fc]
  b1 : Blk W (w.heap.size + 1) 67 #[.int .i64 x.w, .int .i64 x.p, .int .i64 x.m]
theorem RB.later {w W W' : World} {L : Int} {FA : Option Addr} {fn fc : Nat} {x : Kd} {fs : List Int} (h : RB w W L FA fn fc x fs) (hb : Below W.heap.size W W') : RB w W' L FA fn fc x fs := ⟨Below.later h.bel hb, h.fsl.later hb, h.b0.later hb, h.b1.later hb⟩

set_option maxRecDepth 100000 in
set_option maxHeartbeats 1000000 in
theorem refCan_any (L : Nat) (FA : Option Addr) (fn fc : Nat) (fs : List Int) (x : Kd) (fr : Nat) (w : World) (hfs : Sl 1 encI w w.heap.size FA fn fc fs) (hx1 : 1 ≤ x.w) (hx2 : x.w ≤ 24) (hL : L ≤ 24) (hfr : fr ≤ 24) :
    Calls Try.prog 60 #[.agg #[.int .i64 L, .slice FA fn fc], .agg #[.int .i64 x.w, .int .i64 x.p, .int .i64 x.m], .int .i64 fr] w fun e w' => e = .returned (.bool (canB L (Fst fs L) x fr)) ∧ Below w.heap.size w w' := by
  have hR : RB w ((w.alloc (.cells #[.int .i64 L, .slice FA fn fc] 24)).alloc (.cells #[.int .i64 x.w, .int .i64 x.p, .int .i64 x.m] 67)) L FA fn fc x fs := by
    refine ⟨balloc (balloc (brefl w) _) _, hfs.later (balloc (balloc (brefl w) _) _), (Blk.new w _ _).alloc _, ?_⟩
    have h5 := Blk.new (w.alloc (.cells #[.int .i64 L, .slice FA fn fc] 24)) 67 #[.int .i64 x.w, .int .i64 x.p, .int .i64 x.m]
    rw [World.size_alloc] at h5
    exact h5
  obtain ⟨W, hW⟩ : ∃ W, (w.alloc (.cells #[.int .i64 L, .slice FA fn fc] 24)).alloc (.cells #[.int .i64 x.w, .int .i64 x.p, .int .i64 x.m] 67) = W := ⟨_, rfl⟩
  rw [hW] at hR
  clear hfs
  obtain ⟨xw, xp, xm⟩ := x
  simp only at hx1 hx2 hR hW
  obtain ⟨wd, rfl⟩ : ∃ wd : Nat, xw = wd := ⟨xw.toNat, by omega⟩
  have c0 := hR.b0.cell 0
  have c1 := hR.b0.cell 1
  have d0 := hR.b1.cell 0
  have z1 := hR.b1.lt
  have z0 : w.heap.size < W.heap.size := by omega
  have HR := Lib.hid hR
  clear hR
  by_cases hle : fr + wd ≤ L
  · have hd : decide ((L : Int) < (fr : Int) + (wd : Int)) = false := by simp; omega
    have HE := Lib.hid (show canB L (Fst fs L) ⟨wd, xp, xm⟩ fr = decide (cnt fs (fr + wd) - cnt fs fr ≤ xm) by
      rw [Bool.eq_iff_iff, canB_iff]
      simp only [Int.toNat_natCast, Fst, decide_eq_true_eq]
      rw [if_pos hle, if_pos (by omega)]
      constructor
      · exact fun h => h.2
      · exact fun h => ⟨by omega, h⟩)
    go_enter Try.func60, Try.ntmps60
    go_wp2_with fail
    clear hW c0 c1 d0 z0 z1
    refine loop_n (fun n a W => a.defers = [] ∧ ∃ i : Nat, i + n = wd ∧ RB w W L FA fn fc ⟨wd, xp, xm⟩ fs ∧ Fits (none :: none :: some (.int .i64 (fr : Nat)) :: some (.pointer (some ⟨w.heap.size, 0, none⟩)) :: some (.pointer (some ⟨w.heap.size + 1, 0, none⟩)) :: none :: none :: some (.int .i64 (cnt fs (fr + i) - cnt fs fr)) :: some (.int .i64 ((fr : Int) + (i : Nat))) :: none :: none :: none :: none :: none :: none :: none :: none :: none :: none :: none :: none :: none :: none :: none :: none :: none :: none :: none :: none :: none :: none :: none :: none :: none :: []) a.tmps.toList) wd ?_ ?_
    · refine ⟨rfl, 0, by omega, HR.out, ?_⟩
      simp only [Nat.add_zero, Int.sub_self, Int.natCast_zero, Int.add_zero]
      repeat (first | exact fits_nil | refine fits_none ?_ | refine fits_some ?_)
    clear HR
    intro n a W hI K hK
    obtain ⟨hds, i, hin, hR, hfit⟩ := hI
    obtain ⟨f, hf⟩ := fits_act hfit
    rw [hds] at hf
    subst hf
    clear hfit hds
    simp only [fillP, Nat.reduceAdd]
    have c0 := hR.b0.cell 0
    have c1 := hR.b0.cell 1
    have d0 := hR.b1.cell 0
    have d2 := hR.b1.cell 2
    have z1 := hR.b1.lt
    have z0 : w.heap.size < W.heap.size := by omega
    have hb1 := cnt_bd fs fr
    have hb2 := cnt_bd fs (fr + i)
    obtain ⟨q, hq⟩ : ∃ q, cnt fs (fr + i) - cnt fs fr = q := ⟨_, rfl⟩
    rw [hq]
    have hq1 : -24 ≤ q ∧ q ≤ 48 := by omega
    have HR := Lib.hid hR
    clear hR
    by_cases hlt : i < wd
    · have i1 : (fr : Int) + (i : Int) < (fr : Int) + (wd : Int) := by omega
      have hif := isFault_any L FA fn fc fs ((fr : Int) + (i : Int)) W HR.out.fsl
      have hcs := cnt_succ fs (fr + i)
      rw [Int.natCast_add] at hcs
      cases hct : fs.contains ((fr : Int) + (i : Int)) with
      | true =>
        rw [hct] at hif hcs
        have Hcs := Lib.hid (show cnt fs (fr + (i + 1)) - cnt fs fr = q + 1 by rw [← Nat.add_assoc, hcs, ← hq]; simp; omega)
        have Hif := Lib.hid hif
        clear hif hcs hct hq
        go_wp2_with fail
        refine Hif.out.mono ?_
        rintro e w5 ⟨rfl, hb5⟩
        have HR5 := Lib.hid (HR.out.later hb5)
        clear hb5
        go_wp2
        refine hK _ _ (n - 1) (by omega) ⟨rfl, i + 1, by omega, HR5.out, ?_⟩
        rw [Hcs.out]
        simp only [Int.natCast_add, Int.natCast_one, ← Int.add_assoc]
        repeat (first | exact fits_nil | refine fits_none ?_ | refine fits_some ?_)
      | false =>
        rw [hct] at hif hcs
        have Hcs := Lib.hid (show cnt fs (fr + (i + 1)) - cnt fs fr = q by rw [← Nat.add_assoc, hcs, ← hq]; simp)
        have Hif := Lib.hid hif
        clear hif hcs hct hq
        go_wp2_with fail
        refine Hif.out.mono ?_
        rintro e w5 ⟨rfl, hb5⟩
        have HR5 := Lib.hid (HR.out.later hb5)
        clear hb5
        go_wp2
        refine hK _ _ (n - 1) (by omega) ⟨rfl, i + 1, by omega, HR5.out, ?_⟩
        rw [Hcs.out]
        simp only [Int.natCast_add, Int.natCast_one, ← Int.add_assoc]
        repeat (first | exact fits_nil | refine fits_none ?_ | refine fits_some ?_)
    · obtain rfl : i = wd := by omega
      rw [hq] at HE
      have i1 : decide ((fr : Int) + (i : Int) < (fr : Int) + (i : Int)) = false := by simp
      clear hK hq
      go_wp2
      go_ret
      exact ⟨ret_bool HE.out.symm, HR.out.bel⟩
  · have hd : decide ((L : Int) < (fr : Int) + (wd : Int)) = true := by simp; omega
    have HE := Lib.hid (show canB L (Fst fs L) ⟨wd, xp, xm⟩ fr = false by
      rw [← Bool.not_eq_true, canB_iff]
      exact fun h => by have := h.1; simp only at this; omega)
    go_enter Try.func60, Try.ntmps60
    go_wp2
    go_ret
    exact ⟨ret_bool HE.out.symm, HR.out.bel⟩
end Go.Proofs.Ytjmphmnimnbgkaa
