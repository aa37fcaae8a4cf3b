/- The walk of ClipJoined. -/
import Derived.Test.YtjmphmnimnbgkaaFaults
import Derived.Deep.RegionLaw
import Derived.Deep.AppendLies
import Derived.Deep.DeepCutAuto
namespace Go.Proofs.Ytjmphmnimnbgkaa
open Go.RowKit Go.Shelf

/-! ### An append to an empty row of the call's own -/
theorem own_empty {W : World} {base g size : Nat} {e : TypeId} (hb : base ≤ g) (hg : W.heap[g]? = some (.cells #[] e (0, 0))) : W.ownsRow base e size (.slice (some ⟨g, 0, none⟩) 0 0) 0 [] :=
  ⟨by simp, .inr ⟨g, 0, #[], rfl, hb, hg, Nat.le_refl _, by simp [maxLen], by simp, by simp⟩⟩
theorem step_of_run {ops : Array Oper} {o : Oper} {a : Act} {K : Act → World → Prop} {Q : Exit → Act → World → Prop} {E : Prop} {P : Program} {w : World} (hgd : o.guard = none) (s x : Operand) (t : TypeId)
    (ho : o.op = .call { callee := .builtin .append, args := #[s, x], argTypes := #[t, t] }) (v u : Value) (hs : a.eval s = v) (hx : a.eval x = u) {R : Value → World → Prop}
    (hr : ∃ v' w', (Builtin.append_ #[t, t] o.type #[v, u]).run P w = .ok v' w' ∧ R v' w') (h : ∀ v' w', R v' w' → K (a.put o.dst v') w') :
    if Region.wanted o (yielded ops a.tmps) = true then Oper.wp P o a w K Q else E := by
  have hw : Region.wanted o (yielded ops a.tmps) = true := by simp [Region.wanted, hgd]
  rw [if_pos hw]
  obtain ⟨v', w', h1, h2⟩ := hr
  unfold Oper.wp execOp
  simp only [ho, resolve, invoke, builtin, Sem.run_bind, Sem.run_pure, Result.andThen_ok, List.map_toArray, List.map_cons, List.map_nil, hs, hx, h1]
  exact h v' w' h2
theorem ints_news {W : World} {B b o : Nat} {n c : Nat} {xs : List Int} (h : Sl 1 encI W B (some ⟨b, o, none⟩) n c xs) (hn : 0 < n) : ∀ j u, (xs.map (Value.int .i64))[j]? = some u → W.cell? ((⟨b, o, none⟩ : Addr).add j) = some u := by
  intro j u hu
  obtain ⟨b', o', hA, _, hc⟩ := h.at_ hn
  cases hA
  rw [List.getElem?_map] at hu
  cases hx : xs[j]? with
  | none => rw [hx] at hu; cases hu
  | some x =>
    rw [hx] at hu
    cases hu
    have := hc j x hx 0 _ rfl
    have hadd : (⟨b, o, none⟩ : Addr).add j = ⟨b, o + j, none⟩ := by unfold Addr.add; split <;> simp_all
    rw [hadd]
    simpa using this
/-- All faults are appended to an empty list. -/
theorem run_app_ints {W : World} {base g : Nat} (ty : TypeId) (hb : base ≤ g) (hg : W.heap[g]? = some (.cells #[] 3 (0, 0))) {FA : Option Addr} {fn fc : Nat} {fs : List Int} (hs : Sl 1 encI W W.heap.size FA fn fc fs) (hfn : fn ≤ 1000) :
    ∃ v' W', (Builtin.append_ #[22, 22] ty #[.slice (some ⟨g, 0, none⟩) 0 0, .slice FA fn fc]).run Try.prog W = .ok v' W' ∧ (W'.ownsRow base 3 1 v' fs.length (fs.map (.int .i64)) ∧ W.grownBy W' (some g) ∧ ∃ gg cap, v' = .slice (some ⟨gg, 0, none⟩) fn cap) := by
  obtain ⟨i0, hi0, hz0, hz1, hz2⟩ := info_parts info_int
  have hlt : g < W.heap.size := (Array.getElem?_eq_some_iff.1 hg).1
  have hl := hs.len
  have hown := own_empty (size := 1) hb hg
  by_cases h0 : fn = 0
  · subst h0
    have : fs = [] := List.length_eq_zero_iff.1 hl
    subst this
    refine ⟨.slice (some ⟨g, 0, none⟩) 0 0, W, ?_, hown, ⟨rfl, rfl, rfl, Nat.le_refl _, fun _ _ _ => rfl⟩, g, 0, rfl⟩
    have hi1 : Try.prog.info? 3 = some i0 := hi0
    cases FA with
    | none => simp [Builtin.append_, run_underlying und_ints, sizeOf, typeInfo, hi1, Builtin.lenOf, Builtin.firstCells, loadCells, loadCellsFrom, storeCells]
    | some A => simp [Builtin.append_, run_underlying und_ints, sizeOf, typeInfo, hi1, Builtin.lenOf, Builtin.firstCells, loadCells, loadCellsFrom, storeCells]
  · obtain ⟨b, o, hA, _, _⟩ := hs.at_ (by omega)
    subst hA
    obtain ⟨v', W', h1, h2, h3, _⟩ := run_append_own (P := Try.prog) W base 22 ty 3 i0 (.int .i64 0) 1 8 und_ints hi0 hz0 hz1 hz2 rfl (by decide) _ 0 [] hown ⟨b, o, none⟩ fn fc (fs.map (.int .i64)) (by simp [hl]) (ints_news hs (by omega)) (by intro u hu; obtain ⟨x, _, rfl⟩ := List.mem_map.1 hu; rfl) (by simp only [maxLen]; omega) (by omega) (by omega)
    rw [Nat.zero_add, List.nil_append] at h2
    obtain ⟨k, rfl⟩ : ∃ k, fn = k + 1 := ⟨fn - 1, by omega⟩
    obtain ⟨gg, cap, rfl⟩ := own_succ h2
    rw [hl]
    exact ⟨_, W', h1, h2, h3, gg, cap, rfl⟩

/-- Two ribbons, and one that is being made in block K. -/
structure JW (w W : World) (K : Nat) (La : Int) (FA : Option Addr) (fn fc : Nat) (Lb : Int) (GA : Option Addr) (gn gc : Nat) (M : Int) (v : Value) (l : List Int) : Prop where
  bel : Below w.heap.size w W
  lo : w.heap.size + 1 < K
  b0 : Blk W w.heap.size 24 #[.int .i64 La, .slice FA fn fc]
  b1 : Blk W (w.heap.size + 1) 24 #[.int .i64 Lb, .slice GA gn gc]
  bm : Blk W K 24 #[.int .i64 M, v]
  own : W.ownsRow w.heap.size 3 1 v l.length (l.map (.int .i64))
section
variable {w W W' : World} {K : Nat} {La : Int} {FA : Option Addr} {fn fc : Nat} {Lb : Int} {GA : Option Addr} {gn gc : Nat} {M : Int} {v : Value} {l : List Int}
theorem JW.later (h : JW w W K La FA fn fc Lb GA gn gc M v l) (hb : Below W.heap.size W W') : JW w W' K La FA fn fc Lb GA gn gc M v l := ⟨Below.later h.bel hb, h.lo, h.b0.later hb, h.b1.later hb, h.bm.later hb, own_later h.own hb⟩
theorem JW.grown {v' : Value} {x : Int} (h : JW w W K La FA fn fc Lb GA gn gc M v l) (hg : W.grownBy W' v.ownBlock) (ho : W'.ownsRow w.heap.size 3 1 v' (l.length + 1) (l.map (.int .i64) ++ [.int .i64 x])) :
    JW w (W'.setCell ⟨K, 1, none⟩ v') K La FA fn fc Lb GA gn gc M v' (l ++ [x]) := by
  have hrow : ∀ k, v.ownBlock = some k → w.heap.size ≤ k := fun k hk => (h.own.lt k hk).1
  have b2 := h.bm.grown hg (h.bm.notRow h.own (by decide))
  have hlo := h.lo
  refine ⟨Below.setCell (h.bel.trans ⟨hg.os, hg.tape, hg.output, hg.size, fun i hi => hg.block i (by have := h.bel.size; omega) (fun e => by have := hrow i e.symm; omega)⟩) (by show w.heap.size ≤ K; omega) _, hlo,
    (h.b0.grown hg (h.b0.notRow h.own (by decide))).other (by show K ≠ _; omega) _, (h.b1.grown hg (h.b1.notRow h.own (by decide))).other (by show K ≠ _; omega) _, b2.set 1 _, ?_⟩
  have h5 := own_other ho ⟨K, 1, none⟩ (b2.notRow ho (by decide)) v'
  simpa using h5
end
theorem JW.made1 {w Wc W3 : World} {La : Int} {FA : Option Addr} {fn fc : Nat} {Lb : Int} {GA : Option Addr} {gn gc : Nat} {M : Int} {v : Value} {l : List Int} {g : Nat} (hW : Below w.heap.size w Wc) (b0 : Blk Wc w.heap.size 24 #[.int .i64 La, .slice FA fn fc]) (b1 : Blk Wc (w.heap.size + 1) 24 #[.int .i64 Lb, .slice GA gn gc]) (hgr : Wc.grownBy W3 (some g)) (hg : w.heap.size + 1 < g)
    (ho : W3.ownsRow w.heap.size 3 1 v l.length (l.map (.int .i64))) : JW w (W3.alloc (.cells #[.int .i64 M, v] 24)) W3.heap.size La FA fn fc Lb GA gn gc M v l := by
  have hb : Below w.heap.size w W3 := hW.trans ⟨hgr.os, hgr.tape, hgr.output, hgr.size, fun i hi => hgr.block i (by have := hW.size; omega) (fun e => by cases e; omega)⟩
  have c0 := b0.grown hgr (by simp; omega)
  have c1 := b1.grown hgr (by simp; omega)
  exact ⟨balloc hb _, c1.lt, c0.alloc _, c1.alloc _, Blk.new _ _ _, ho.alloc _⟩
theorem JW.made2 {w Wc W3 : World} {La : Int} {FA : Option Addr} {fn fc : Nat} {Lb : Int} {GA : Option Addr} {gn gc : Nat} {M : Int} {v : Value} {l : List Int} {g B : Nat} (hW : Below w.heap.size w Wc) (b0 : Blk Wc w.heap.size 24 #[.int .i64 La, .slice FA fn fc]) (b1 : Blk Wc (w.heap.size + 1) 24 #[.int .i64 Lb, .slice GA gn gc]) (hgr : Wc.grownBy W3 (some g)) (hg : w.heap.size + 1 < g)
    (hB : w.heap.size + 1 < B) (hne : g ≠ B) (bm : Blk Wc B 24 #[.int .i64 0, .slice none 0 0]) (ho : W3.ownsRow w.heap.size 3 1 v l.length (l.map (.int .i64))) : JW w ((W3.setCell ⟨B, 0, none⟩ (.int .i64 M)).setCell ⟨B, 1, none⟩ v) B La FA fn fc Lb GA gn gc M v l := by
  have hb : Below w.heap.size w W3 := hW.trans ⟨hgr.os, hgr.tape, hgr.output, hgr.size, fun i hi => hgr.block i (by have := hW.size; omega) (fun e => by cases e; omega)⟩
  have c0 := b0.grown hgr (by simp; omega)
  have c1 := b1.grown hgr (by simp; omega)
  have cm := bm.grown hgr (by simpa using hne)
  refine ⟨(hb.setCell (by show w.heap.size ≤ B; omega) _).setCell (by show w.heap.size ≤ B; omega) _, hB, (c0.other (by show B ≠ _; omega) _).other (by show B ≠ _; omega) _, (c1.other (by show B ≠ _; omega) _).other (by show B ≠ _; omega) _, (cm.set 0 _).set 1 _, ?_⟩
  have h1 := own_other ho ⟨B, 0, none⟩ (cm.notRow ho (by decide)) (.int .i64 M)
  exact own_other h1 ⟨B, 1, none⟩ ((cm.set 0 _).notRow h1 (by decide)) v
theorem join_step {La : Int} {fa fb : List Int} {i : Nat} {x : Int} (hx : fb[i]? = some x) : joinF La fa (fb.take (i + 1)) = joinF La fa (fb.take i) ++ [x + La] := by
  obtain ⟨h1, rfl⟩ := List.getElem?_eq_some_iff.1 hx
  unfold joinF
  rw [List.take_succ_eq_append_getElem h1, List.map_append, List.append_assoc]
  rfl
theorem join_len (La : Int) (fa fb : List Int) : (joinF La fa fb).length = fa.length + fb.length := by unfold joinF; simp

set_option maxRecDepth 100000 in
set_option maxHeartbeats 8000000 in
theorem joined_law (La : Int) (FA : Option Addr) (fn fc : Nat) (fa : List Int) (Lb : Int) (GA : Option Addr) (gn gc : Nat) (fb : List Int) (KA : Option Addr) (kc : Nat) (ks : List Kd) (w : World) (hfa : Sl 1 encI w w.heap.size FA fn fc fa) (hfb : Sl 1 encI w w.heap.size GA gn gc fb) (hks : Sl 3 encK w w.heap.size KA ks.length kc ks) :
    Calls Try.prog 14 #[.agg #[.int .i64 La, .slice FA fn fc], .agg #[.int .i64 Lb, .slice GA gn gc], .slice KA ks.length kc] w fun e w' => e = .returned (.bool true) ∧ Below w.heap.size w w' := by
  have hB := balloc (balloc (brefl w) (.cells #[.int .i64 La, .slice FA fn fc] 24)) (.cells #[.int .i64 Lb, .slice GA gn gc] 24)
  have HKa := Lib.hid (show LW w ((w.alloc (.cells #[.int .i64 La, .slice FA fn fc] 24)).alloc (.cells #[.int .i64 Lb, .slice GA gn gc] 24)) w.heap.size La FA fn fc fa KA kc ks from ⟨hB, (Blk.new w _ _).alloc _, hfa.later hB, hks.later hB⟩)
  have hb1 := Blk.new (w.alloc (.cells #[.int .i64 La, .slice FA fn fc] 24)) 24 #[.int .i64 Lb, .slice GA gn gc]
  rw [World.size_alloc] at hb1
  have HKb := Lib.hid (show LW w ((w.alloc (.cells #[.int .i64 La, .slice FA fn fc] 24)).alloc (.cells #[.int .i64 Lb, .slice GA gn gc] 24)) (w.heap.size + 1) Lb GA gn gc fb KA kc ks from ⟨hB, hb1, hfb.later hB, hks.later hB⟩)
  have hfiA := Lib.hid (fun W h1 h2 => fine_any La FA fn fc fa KA kc ks W h1 h2)
  have hfiB := Lib.hid (fun W h1 h2 => fine_any Lb GA gn gc fb KA kc ks W h1 h2)
  have Hfa := Lib.hid hfa
  have Hfb := Lib.hid hfb
  have Hks := Lib.hid hks
  have hfal := hfa.len
  have hfbl := hfb.len
  clear hB hb1 hfa hfb hks
  obtain ⟨c0, c1, c2⟩ := HKa.out.cells
  obtain ⟨d0, d1, d2⟩ := HKb.out.cells
  cases h1 : fineB La fn fa ks with
  | false =>
    rw [h1] at hfiA
    clear h1 c0 c1 c2 d0 d1 d2
    go_enter Try.func14, Try.ntmps14
    go_wp2_with fail
    refine (hfiA.out _ HKa.out.fsl HKa.out.ksl).mono ?_
    rintro e w1 ⟨rfl, hb1⟩
    have HB := Lib.hid (Below.later HKa.out.bel hb1)
    clear hb1
    go_wp2_with fail
    refine (works_any _).mono ?_
    rintro e w2 ⟨rfl, hb2⟩
    have HB2 := Lib.hid (Below.later HB.out hb2)
    clear hb2
    go_wp2
    go_ret
    exact ⟨rfl, HB2.out⟩
  | true =>
  cases h2 : fineB Lb gn fb ks with
  | false =>
    rw [h1] at hfiA
    rw [h2] at hfiB
    clear h1 h2 c0 c1 c2 d0 d1 d2
    go_enter Try.func14, Try.ntmps14
    go_wp2_with fail
    refine (hfiA.out _ HKa.out.fsl HKa.out.ksl).mono ?_
    rintro e w0 ⟨rfl, hb0⟩
    have HK0 := Lib.hid (HKb.out.later hb0)
    obtain ⟨d0, d1, d2⟩ := HK0.out.cells
    clear hb0
    go_wp2_with fail
    refine (hfiB.out _ HK0.out.fsl HK0.out.ksl).mono ?_
    rintro e w1 ⟨rfl, hb1⟩
    have HB := Lib.hid (Below.later HK0.out.bel hb1)
    clear hb1 d0 d1 d2
    go_wp2_with fail
    refine (works_any _).mono ?_
    rintro e w2 ⟨rfl, hb2⟩
    have HB2 := Lib.hid (Below.later HB.out hb2)
    clear hb2
    go_wp2
    go_ret
    exact ⟨rfl, HB2.out⟩
  | true =>
  rw [h1] at hfiA
  rw [h2] at hfiB
  obtain ⟨hea, hfn, _⟩ := fine_rk h1
  obtain ⟨heb, hgn, _⟩ := fine_rk h2
  obtain ⟨na, rfl, hla1, hla2, hko⟩ := valid_nat hea
  obtain ⟨nb, rfl, hlb1, hlb2, _⟩ := valid_nat heb
  obtain ⟨n, hn⟩ : ∃ n, na + nb = n := ⟨_, rfl⟩
  have a1 : IntKind.i64.wrap ((na : Int) + (nb : Int)) = (n : Int) := by rw [IntKind.wrap_i64]; omega
  have hva := valid_len hea
  have hvb := valid_len heb
  have hfn2 : fn ≤ 24 := by omega
  have hgn2 : gn ≤ 24 := by omega
  clear h1 h2
  by_cases hs : (24 : Int) < (n : Int)
  · have a2 : decide ((24 : Int) < (n : Int)) = true := by simpa using hs
    clear hs hea heb hko c0 c1 c2 d0 d1 d2
    go_enter Try.func14, Try.ntmps14
    go_wp2_with fail
    refine (hfiA.out _ HKa.out.fsl HKa.out.ksl).mono ?_
    rintro e w0 ⟨rfl, hb0⟩
    have HK0 := Lib.hid (HKb.out.later hb0)
    have HK1 := Lib.hid (HKa.out.later hb0)
    obtain ⟨d0, d1, d2⟩ := HK0.out.cells
    clear hb0
    go_wp2_with fail
    refine (hfiB.out _ HK0.out.fsl HK0.out.ksl).mono ?_
    rintro e w1 ⟨rfl, hb1⟩
    have HK2 := Lib.hid (HK0.out.later hb1)
    have HK3 := Lib.hid (HK1.out.later hb1)
    clear hb1 d0 d1 d2 HK0 HK1
    obtain ⟨c0, c1, c2⟩ := HK3.out.cells
    obtain ⟨d0, d1, d2⟩ := HK2.out.cells
    have HB := Lib.hid HK2.out.bel
    go_wp2_with fail
    refine (works_any _).mono ?_
    rintro e w2 ⟨rfl, hb2⟩
    have HB2 := Lib.hid (Below.later HB.out hb2)
    clear hb2
    go_wp2
    go_ret
    exact ⟨rfl, HB2.out⟩
  have a2 : decide ((24 : Int) < (n : Int)) = false := by simpa using hs
  have hn24 : n ≤ 24 := by omega
  obtain ⟨hra, hkn⟩ := rk_rib hea
  obtain ⟨hrb, _⟩ := rk_rib heb
  have hrx0 := join_rib hra hrb (by omega)
  have hrx : rkE (n : Int) (joinF na fa fb) ks = 0 := rk_of (by rw [show ((n : Nat) : Int) = (na : Int) + (nb : Int) by omega]; exact hrx0) hkn
  have hC1 := join_can1 (La := na) (Lb := nb) (fa := fa) (fb := fb) hko hrb
  have hC2 := join_can2 (La := na) (Lb := nb) (fa := fa) (fb := fb) hko hra hrb
  obtain ⟨w1, w2, w3, w4, w5⟩ := parts_worth (L := na + nb) (p := na) (F := Fst (joinF na fa fb) (na + nb)) (F1 := Fst fa na) (F2 := Fst fb nb) hko (by omega) hC1 hC2
  rw [Nat.add_sub_cancel_left, hn] at w1 w2
  rw [hn] at w3
  have hba := behindAt_bd (L := na) (F := Fst fa na) hko na (Nat.le_refl _) 0
  have hbb := behindAt_bd (L := nb) (F := Fst fb nb) hko nb (Nat.le_refl _) 0
  obtain ⟨va, hva⟩ : ∃ va, behindAt na (Fst fa na) ks na 0 = va := ⟨_, rfl⟩
  obtain ⟨vb, hvb⟩ : ∃ vb, behindAt nb (Fst fb nb) ks nb 0 = vb := ⟨_, rfl⟩
  obtain ⟨vx, hvx⟩ : ∃ vx, behindAt n (Fst (joinF na fa fb) n) ks n 0 = vx := ⟨_, rfl⟩
  obtain ⟨⟨pr, pe⟩, hpr⟩ : ∃ r, partedP n (Fst (joinF na fa fb) n) ks (aheadAt n (Fst (joinF na fa fb) n) ks n) (behindAt n (Fst (joinF na fa fb) n) ks n) na = r := ⟨_, rfl⟩
  rw [hpr] at w2 w3
  rw [hva, hvb, hvx] at w1 w2
  rw [hva] at hba
  rw [hvb] at hbb
  simp only at w2 w3
  subst w3
  obtain ⟨ab, hab⟩ : ∃ ab, va + vb = ab := ⟨_, rfl⟩
  have a3 : IntKind.i64.wrap (va + vb) = ab := by rw [IntKind.wrap_i64]; omega
  have a4 : decide (ab ≤ vx) = true := by simp; omega
  have a5 : ((vx == ab) == (pr != 0)) = true := by
    rw [beq_iff_eq, Bool.eq_iff_iff, beq_iff_eq, bne_iff_ne, ← w2, hab]
    exact ⟨fun h => h.symm, fun h => h.symm⟩
  obtain ⟨q1, hq1⟩ : ∃ q, (vx == ab) = q := ⟨_, rfl⟩
  obtain ⟨q2, hq2⟩ : ∃ q, (pr != 0) = q := ⟨_, rfl⟩
  rw [hq1, hq2] at a5
  have hq12 : q1 = q2 := by simpa using a5
  subst hq12
  clear a5
  have Hva := Lib.hid hva
  have Hvb := Lib.hid hvb
  have Hvx := Lib.hid hvx
  have Hpr := Lib.hid hpr
  have Hea := Lib.hid hea
  have Heb := Lib.hid heb
  have Hex := Lib.hid hrx
  have Hrb := Lib.hid hrb
  clear hs hea heb hko hra hrb hkn hrx0 hrx hC1 hC2 w1 w2 w4 w5 hba hbb hva hvb hvx hpr hab c0 c1 c2 d0 d1 d2
  go_enter Try.func14, Try.ntmps14
  go_wp2_with fail
  refine (hfiA.out _ HKa.out.fsl HKa.out.ksl).mono ?_
  rintro e w0 ⟨rfl, hb0⟩
  have HK0 := Lib.hid (HKb.out.later hb0)
  have HK1 := Lib.hid (HKa.out.later hb0)
  obtain ⟨d0, d1, d2⟩ := HK0.out.cells
  clear hb0 HKa HKb hfiA
  go_wp2_with fail
  refine (hfiB.out _ HK0.out.fsl HK0.out.ksl).mono ?_
  rintro e W ⟨rfl, hb1⟩
  have HK2 := Lib.hid (HK0.out.later hb1)
  have HK3 := Lib.hid (HK1.out.later hb1)
  clear hb1 d0 d1 d2 HK0 HK1 hfiB
  obtain ⟨c0, c1, c2⟩ := HK3.out.cells
  obtain ⟨d0, d1, d2⟩ := HK2.out.cells
  go_upto_region 3 with fail
  go_cut [7] from 20 (fun s7 wx => ∃ B v, s7 = .pointer (some ⟨B, 0, none⟩) ∧ JW w wx B na FA fn fc nb GA gn gc n v (joinF na fa (fb.take 0)))
  case first =>
    have hj0 : joinF (na : Int) fa (fb.take 0) = fa := by unfold joinF; simp
    have hWle : w.heap.size ≤ W.heap.size := HK2.out.bel.size
    have hrun1 := run_app_ints (W := (W.alloc (.cells #[] 3)).drew) (base := w.heap.size) (g := W.heap.size) 22 hWle (heap_alloc_new W (.cells #[] 3)) (Hfa.out.later (w' := (W.alloc (.cells #[] 3)).drew) (Below.later HK2.out.bel (bdrew (balloc (brefl W) _) 1))) (by omega)
    have hrun2 := run_app_ints (W := ((W.alloc (.cells #[.int .i64 0, .slice none 0 0] 24)).alloc (.cells #[] 3)).drew) (base := w.heap.size) (g := W.heap.size + 1) 22 (by omega) (by have h5 := heap_alloc_new (W.alloc (.cells #[.int .i64 0, .slice none 0 0] 24)) (.cells #[] 3); rw [World.size_alloc] at h5; exact h5) (Hfa.out.later (w' := ((W.alloc (.cells #[.int .i64 0, .slice none 0 0] 24)).alloc (.cells #[] 3)).drew) (Below.later HK2.out.bel (bdrew (balloc (balloc (brefl W) _) _) 1))) (by omega)
    have hrun3 := run_app_ints (W := ((W.alloc (.cells #[] 3)).alloc (.cells #[.int .i64 0, .slice none 0 0] 24)).drew) (base := w.heap.size) (g := W.heap.size) 22 (by omega) (by have h5 := heap_alloc_new W (.cells #[] 3); have h6 := heap_alloc_old (W.alloc (.cells #[] 3)) (.cells #[.int .i64 0, .slice none 0 0] 24) (show W.heap.size < _ by rw [World.size_alloc]; omega); exact h6.trans h5) (Hfa.out.later (w' := ((W.alloc (.cells #[] 3)).alloc (.cells #[.int .i64 0, .slice none 0 0] 24)).drew) (Below.later HK2.out.bel (bdrew (balloc (balloc (brefl W) _) _) 1))) (by omega)
    have Hblk2 := Lib.hid (show Blk (((W.alloc (.cells #[.int .i64 0, .slice none 0 0] 24)).alloc (.cells #[] 3)).drew) W.heap.size 24 #[.int .i64 0, .slice none 0 0] from ((Blk.new W 24 #[.int .i64 0, .slice none 0 0]).alloc _).later (bdrew (brefl _) 1))
    have hbn := Blk.new (W.alloc (.cells #[] 3)) 24 #[.int .i64 0, .slice none 0 0]
    rw [World.size_alloc] at hbn
    have Hblk3 := Lib.hid (show Blk (((W.alloc (.cells #[] 3)).alloc (.cells #[.int .i64 0, .slice none 0 0] 24)).drew) (W.heap.size + 1) 24 #[.int .i64 0, .slice none 0 0] from hbn.later (bdrew (brefl _) 1))
    clear hbn
    have Hrun3 := Lib.hid hrun3
    clear hrun3
    have Hrun1 := Lib.hid hrun1
    have Hrun2 := Lib.hid hrun2
    clear hrun1 hrun2
    go_region_held3 (fun w' => w'.cell? ⟨w.heap.size, 0, none⟩ = some (.int .i64 na) ∧ w'.cell? ⟨w.heap.size, 1, none⟩ = some (.slice FA fn fc) ∧ w'.cell? ⟨w.heap.size + 1, 0, none⟩ = some (.int .i64 nb))
      (first
        | go_keep
        | (go_split_ands
           refine ⟨?_, ?_, ?_⟩
           · (rw [World.cell?_setCell_far _ _ _ _ (by simp; omega), World.cell?_setCell_far _ _ _ _ (by simp; omega)]; assumption)
           · (rw [World.cell?_setCell_far _ _ _ _ (by simp; omega), World.cell?_setCell_far _ _ _ _ (by simp; omega)]; assumption)
           · (rw [World.cell?_setCell_far _ _ _ _ (by simp; omega), World.cell?_setCell_far _ _ _ _ (by simp; omega)]; assumption))
        | (go_split_ands
           refine ⟨?_, ?_, ?_⟩
           · (rw [hgrow.cell_far _ (by simp; omega) (by simp; omega)]; assumption)
           · (rw [hgrow.cell_far _ (by simp; omega) (by simp; omega)]; assumption)
           · (rw [hgrow.cell_far _ (by simp; omega) (by simp; omega)]; assumption)))
      ((first
        | (refine step_of_run ?_ (.tmp 44) (.tmp 46) 22 ?_ (.slice (some ⟨W.heap.size, 0, none⟩) 0 0) (.slice FA fn fc) ?_ ?_ Hrun1.out ?_; rotate_left 4; intro v' W3 hR; obtain ⟨hown1, hgrow, gg, cap, rfl⟩ := hR; have yb := (HK3.out.b0.later (bdrew (balloc (brefl W) _) 1)).grown hgrow (by simp; omega); have y0 := yb.cell 0; have y1 := yb.cell 1; have y2 := yb.lt; clear yb; have zb := (HK2.out.b0.later (bdrew (balloc (brefl W) _) 1)).grown hgrow (by simp; omega); have z0 := zb.cell 0; have z2 := zb.lt; clear zb; rotate_right 4; rfl; rfl; rfl; rfl)
        | (refine step_of_run ?_ (.tmp 44) (.tmp 46) 22 ?_ (.slice (some ⟨W.heap.size + 1, 0, none⟩) 0 0) (.slice FA fn fc) ?_ ?_ Hrun2.out ?_; rotate_left 4; intro v' W3 hR; obtain ⟨hown1, hgrow, gg, cap, rfl⟩ := hR; have yb := (HK3.out.b0.later (bdrew (balloc (balloc (brefl W) _) _) 1)).grown hgrow (by simp; omega); have y0 := yb.cell 0; have y1 := yb.cell 1; have y2 := yb.lt; clear yb; have zb := (HK2.out.b0.later (bdrew (balloc (balloc (brefl W) _) _) 1)).grown hgrow (by simp; omega); have z0 := zb.cell 0; have z2 := zb.lt; clear zb; have hb5 := Hblk2.out.grown hgrow (by simp); have x0 := hb5.cell 0; have x1 := hb5.cell 1; have x2 := hb5.frozen 0; have x3 := hb5.frozen 1; have x4 := hb5.lt; clear hb5; rotate_right 4; rfl; rfl; rfl; rfl)
        | (refine step_of_run ?_ (.tmp 44) (.tmp 46) 22 ?_ (.slice (some ⟨W.heap.size, 0, none⟩) 0 0) (.slice FA fn fc) ?_ ?_ Hrun3.out ?_; rotate_left 4; intro v' W3 hR; obtain ⟨hown1, hgrow, gg, cap, rfl⟩ := hR; have yb := (HK3.out.b0.later (bdrew (balloc (balloc (brefl W) _) _) 1)).grown hgrow (by simp; omega); have y0 := yb.cell 0; have y1 := yb.cell 1; have y2 := yb.lt; clear yb; have zb := (HK2.out.b0.later (bdrew (balloc (balloc (brefl W) _) _) 1)).grown hgrow (by simp; omega); have z0 := zb.cell 0; have z2 := zb.lt; clear zb; have hb5 := Hblk3.out.grown hgrow (by simp); have x0 := hb5.cell 0; have x1 := hb5.cell 1; have x2 := hb5.frozen 0; have x3 := hb5.frozen 1; have x4 := hb5.lt; clear hb5; rotate_right 4; rfl; rfl; rfl; rfl)))
    · have HJ := Lib.hid (JW.made1 (M := (n : Int)) (Below.later HK2.out.bel (bdrew (balloc (brefl W) _) 1)) (HK3.out.b0.later (bdrew (balloc (brefl W) _) 1)) (HK2.out.b0.later (bdrew (balloc (brefl W) _) 1)) hgrow (by omega) hown1)
      clear hown1 hgrow y0 y1 y2 z0 z2
      try clear x0 x1 x2 x3 x4
      go_wp2_with fail
      go_meet
      exact ⟨_, _, rfl, by rw [hj0]; exact HJ.out⟩
    · have HJ := Lib.hid (JW.made2 (M := (n : Int)) (B := W.heap.size + 1) (Below.later HK2.out.bel (bdrew (balloc (balloc (brefl W) _) _) 1)) (HK3.out.b0.later (bdrew (balloc (balloc (brefl W) _) _) 1)) (HK2.out.b0.later (bdrew (balloc (balloc (brefl W) _) _) 1)) hgrow (by omega) (by omega) (by omega) Hblk3.out hown1)
      clear hown1 hgrow y0 y1 y2 z0 z2
      try clear x0 x1 x2 x3 x4
      go_wp2_with fail
      go_meet
      exact ⟨_, _, rfl, by rw [hj0]; exact HJ.out⟩
    · have HJ := Lib.hid (JW.made2 (M := (n : Int)) (B := W.heap.size) (Below.later HK2.out.bel (bdrew (balloc (balloc (brefl W) _) _) 1)) (HK3.out.b0.later (bdrew (balloc (balloc (brefl W) _) _) 1)) (HK2.out.b0.later (bdrew (balloc (balloc (brefl W) _) _) 1)) hgrow (by omega) (by omega) (by omega) Hblk2.out hown1)
      clear hown1 hgrow y0 y1 y2 z0 z2
      try clear x0 x1 x2 x3 x4
      go_wp2_with fail
      go_meet
      exact ⟨_, _, rfl, by rw [hj0]; exact HJ.out⟩
  case rest =>
    obtain ⟨B, v, rfl, hJ⟩ := hcut
    have HJ := Lib.hid hJ
    clear hJ c0 c1 c2 d0 d1 d2 HK2 HK3 a1
    go_wp2_with fail
    refine loop_n (fun m b W => b.defers = [] ∧ ∃ (i : Nat) (v : Value), i + m = gn ∧ JW w W B na FA fn fc nb GA gn gc n v (joinF na fa (fb.take i)) ∧ Fits (none :: none :: some (.slice KA ks.length kc) :: some (.pointer (some ⟨w.heap.size, 0, none⟩)) :: some (.pointer (some ⟨w.heap.size + 1, 0, none⟩)) :: none :: none :: some (.pointer (some ⟨B, 0, none⟩)) :: some (.int .i64 (i : Nat)) :: none :: none :: none :: none :: none :: none :: none :: none :: none :: none :: none :: none :: none :: none :: none :: none :: none :: none :: none :: none :: none :: none :: none :: none :: none :: none :: none :: none :: none :: none :: none :: none :: none :: none :: none :: none :: none :: none :: none :: none :: none :: none :: none :: none :: none :: none :: none :: none :: none :: none :: none :: none :: none :: none :: none :: none :: none :: none :: none :: none :: none :: none :: none :: none :: none :: none :: none :: none :: none :: none :: none :: none :: none :: none :: none :: none :: none :: none :: none :: none :: none :: none :: none :: none :: none :: none :: none :: none :: none :: none :: none :: none :: none :: none :: none :: none :: none :: none :: none :: none :: none :: none :: none :: none :: none :: none :: none :: none :: none :: none :: none :: none :: none :: none :: none :: none :: none :: none :: none :: none :: []) b.tmps.toList) gn ?_ ?_
    · refine ⟨rfl, 0, v, by omega, HJ.out, ?_⟩
      repeat (first | exact fits_nil | refine fits_none ?_ | refine fits_some ?_)
    clear HJ
    intro m b W hI K hK
    obtain ⟨hds, i, v, him, hM, hfit⟩ := hI
    obtain ⟨g, hg⟩ := fits_act hfit
    rw [hds] at hg
    subst hg
    clear hfit hds
    simp only [fillP, Nat.reduceAdd]
    have c0 := hM.b0.cell 0
    have c2 := hM.b0.lt
    have d1 := hM.b1.cell 1
    have d2 := hM.b1.lt
    have e1 := hM.bm.cell 1
    have z1 := hM.bm.lt
    have hlo := hM.lo
    by_cases hlt : i < gn
    · have i1 : (i : Int) < (gn : Int) := by omega
      have i2 : (0 : Int) ≤ (i : Int) := by omega
      have i3 : IntKind.i64.wrap ((i : Int) + 1) = (i : Int) + 1 := by rw [IntKind.wrap_i64]; omega
      obtain ⟨xb, o, x, rfl, hbw, hx, _⟩ := Hfb.out.ltI hlt
      obtain ⟨b', o', x', hA', hbx, hx', q0⟩ := (Hfb.out.later hM.bel).ltI hlt
      cases hA'
      rw [hx] at hx'
      cases hx'
      have hxb := (rib_pair Hrb.out).2 x (List.mem_of_getElem? hx)
      obtain ⟨y, hy⟩ : ∃ y, x + (na : Int) = y := ⟨_, rfl⟩
      have jx : IntKind.i64.wrap (x + (na : Int)) = y := by rw [IntKind.wrap_i64]; omega
      have hadd := join_step (La := (na : Int)) (fa := fa) hx
      rw [hy] at hadd
      have hwl := join_len (na : Int) fa (fb.take i)
      have hwl2 : (fb.take i).length ≤ fb.length := by simp; omega
      obtain ⟨xs, hxs⟩ : ∃ xs, joinF (na : Int) fa (fb.take i) = xs := ⟨_, rfl⟩
      rw [hxs] at hM hadd hwl
      have hwb : xs.length ≤ 80 := by omega
      clear hwl hwl2
      have HP := Lib.hid hM
      have Hadd := Lib.hid hadd
      obtain ⟨i0, hi0, hz0, hz1, hz2⟩ := info_parts info_int
      have zbel := hM.bel.size
      have hvb : v.ownBlock ≠ some xb := fun e => by have := (HP.out.own.lt xb e).1; omega
      have hv0 : v.ownBlock ≠ some w.heap.size := HP.out.b0.notRow HP.out.own (by decide)
      have hv1 : v.ownBlock ≠ some (w.heap.size + 1) := HP.out.b1.notRow HP.out.own (by decide)
      have hv2 : v.ownBlock ≠ some B := HP.out.bm.notRow HP.out.own (by decide)
      have hf2 : W.frozen? ⟨B, 1, none⟩ = false := hM.bm.frozen _
      clear hM hadd hx hxs hxb hy
      go_wp2_with fail
      go_region_law
        ((refine step_append_lies _ (by rfl) _ _ _ (by rfl) w.heap.size 3 i0 _ 1 8 und_ints hi0 hz0 hz1 hz2 rfl (by omega) v xs.length _ (by rfl) ((HP.out.own.alloc _).drew)
            ⟨W.heap.size, 0, none⟩ 1 1 [.int .i64 y] (by rfl) (by rfl) (World.news_of_block (cs := #[.int .i64 y]) (t := 3) (fr := (0, 0)) (heap_alloc_new W _)) (by simp [Value.oneCell'])
            (by omega) (by simp only [maxLen]; omega) (by omega) (by simp; omega) (W.heap.size + 1) (by simp) ?_; intro gg cap w3 hown1 hgrow hat hlt'; have hb3 := (HP.out.bm.later (bdrew (balloc (brefl W) _) 1)).grown hgrow hv2; have hc3 := hb3.cell 1; have hf3 := hb3.frozen 1; have hz3 := hb3.lt; clear hb3))
      all_goals
        have hP3 := (HP.out.later (bdrew (balloc (brefl W) (.cells #[.int .i64 y] 3)) 1)).grown (x := y) hgrow hown1
        rw [← Hadd.out] at hP3
        have HP3 := Lib.hid hP3
        clear hown1 hgrow hat hP3 hlt' hc3 hf3 hz3
        go_wp2
        refine hK _ _ (m - 1) (by omega) ⟨rfl, i + 1, _, by omega, HP3.out, ?_⟩
        repeat (first | exact fits_nil | refine fits_none ?_ | refine fits_some ?_)
    · obtain rfl : i = gn := by omega
      rw [← hfbl, List.take_length] at hM
      rw [hfbl] at hM
      obtain ⟨mf, hmf⟩ : ∃ mf, joinF (na : Int) fa fb = mf := ⟨_, rfl⟩
      rw [hmf] at hM
      obtain ⟨G, gc2, rfl, hGs⟩ := own_sl hM.own
      obtain ⟨ml, hml⟩ : ∃ ml, mf.length = ml := ⟨_, rfl⟩
      have HGs := Lib.hid hGs
      have HK1 := Lib.hid (show LW w W w.heap.size na FA fn fc fa KA kc ks from ⟨hM.bel, hM.b0, Hfa.out.later hM.bel, Hks.out.later hM.bel⟩)
      have HK2 := Lib.hid (show LW w W (w.heap.size + 1) nb GA i gc fb KA kc ks from ⟨hM.bel, hM.b1, Hfb.out.later hM.bel, Hks.out.later hM.bel⟩)
      have HBm := Lib.hid hM.bm
      rw [hml] at e1 HGs HBm
      have Hmf := Lib.hid hmf
      rw [hmf] at Hvx Hpr Hex
      clear hM hGs hml hmf hK hlt hlo c0 c2 d1 d2 e1 z1
      obtain ⟨c0, c1, c2⟩ := HK1.out.cells
      obtain ⟨d0, d1, d2⟩ := HK2.out.cells
      go_wp2_with fail
      refine (best_fine na FA fn fc fa KA kc ks _ HK1.out.fsl HK1.out.ksl Hea.out).mono ?_
      rintro e w3 ⟨G3, n3, d3, rfl, hb3, _⟩
      rw [Hva.out]
      have HK3x := Lib.hid (HK1.out.later hb3)
      have HB3x := Lib.hid (HBm.out.later hb3)
      have HG3x := Lib.hid (HGs.out.later hb3)
      have HC3x := Lib.hid (HK2.out.later hb3)
      clear hb3 HK1 HBm HGs HK2 c0 c1 c2 d0 d1 d2
      try clear e0 e1 z1
      have HK1 := HK3x
      have HBm := HB3x
      have HGs := HG3x
      have HK2 := HC3x
      clear HK3x HB3x HG3x HC3x
      obtain ⟨c0, c1, c2⟩ := HK1.out.cells
      obtain ⟨d0, d1, d2⟩ := HK2.out.cells
      have e0 := HBm.out.cell 0
      have e1 := HBm.out.cell 1
      have z1 := HBm.out.lt
      go_wp2_with fail
      refine (best_fine nb GA i gc fb KA kc ks _ HK2.out.fsl HK2.out.ksl Heb.out).mono ?_
      rintro e w3 ⟨G3, n3, d3, rfl, hb3, _⟩
      rw [Hvb.out]
      have HK3x := Lib.hid (HK1.out.later hb3)
      have HB3x := Lib.hid (HBm.out.later hb3)
      have HG3x := Lib.hid (HGs.out.later hb3)
      have HC3x := Lib.hid (HK2.out.later hb3)
      clear hb3 HK1 HBm HGs HK2 c0 c1 c2 d0 d1 d2
      try clear e0 e1 z1
      have HK1 := HK3x
      have HBm := HB3x
      have HGs := HG3x
      have HK2 := HC3x
      clear HK3x HB3x HG3x HC3x
      obtain ⟨c0, c1, c2⟩ := HK1.out.cells
      obtain ⟨d0, d1, d2⟩ := HK2.out.cells
      have e0 := HBm.out.cell 0
      have e1 := HBm.out.cell 1
      have z1 := HBm.out.lt
      go_wp2_with fail
      refine (best_fine n G ml gc2 mf KA kc ks _ HGs.out HK1.out.ksl Hex.out).mono ?_
      rintro e w3 ⟨G3, n3, d3, rfl, hb3, _⟩
      rw [Hvx.out]
      have HK3x := Lib.hid (HK1.out.later hb3)
      have HB3x := Lib.hid (HBm.out.later hb3)
      have HG3x := Lib.hid (HGs.out.later hb3)
      have HC3x := Lib.hid (HK2.out.later hb3)
      clear hb3 HK1 HBm HGs HK2 c0 c1 c2 d0 d1 d2
      try clear e0 e1 z1
      have HK1 := HK3x
      have HBm := HB3x
      have HGs := HG3x
      have HK2 := HC3x
      clear HK3x HB3x HG3x HC3x
      obtain ⟨c0, c1, c2⟩ := HK1.out.cells
      obtain ⟨d0, d1, d2⟩ := HK2.out.cells
      have e0 := HBm.out.cell 0
      have e1 := HBm.out.cell 1
      have z1 := HBm.out.lt
      go_wp2_with fail
      refine (Parted_ok n G ml gc2 mf KA kc ks na _ HGs.out HK1.out.ksl Hex.out).mono ?_
      rintro e w3 ⟨rfl, hb3⟩
      rw [Hpr.out]
      have HK1' := Lib.hid (HK1.out.later hb3)
      clear hb3 HK1 HK2 HGs HBm c0 c1 c2 d0 d1 d2 e0 e1 z1
      cases q1
      all_goals
        go_wp2_with fail
        refine (works_any _).mono ?_
        rintro e w4 ⟨rfl, hb4⟩
        have HB := Lib.hid (HK1'.out.later hb4).bel
        clear hb4
        go_wp2
        go_ret
        exact ⟨rfl, HB.out⟩
end Go.Proofs.Ytjmphmnimnbgkaa
