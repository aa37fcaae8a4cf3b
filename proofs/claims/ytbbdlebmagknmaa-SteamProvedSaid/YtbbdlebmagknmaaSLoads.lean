/- steam's vat.loads: the loads of right hours. -/
import Derived.Test.YtbbdlebmagknmaaSNeed
import Derived.Lib.SliceRun
import Derived.Lib.EndianMore
import Derived.ChangeKeysEq
import Derived.BigRegion
namespace Go.Proofs.Ytbbdlebmagknmaa
open Go.RowKit Go.Shelf

def cntP (hs : List Int) (t : Nat) : Int := ((hs.countP fun h => decide (h = (t : Int)) : Nat) : Int)
/-- The loads of hours. -/
def loadsTo (L : Int) (hs : List Int) : Nat → Int
  | 0 => 0
  | t + 1 => loadsTo L hs t + upI (cntP hs t) L
def loadsP (L : Int) (hs : List Int) : Int := loadsTo L hs 101

/-! ### A block of 101 numbers -/
@[irreducible] def cArr (F : Nat → Int) : Array Value := ((List.range 101).map (fun j => Value.int .i64 (F j))).toArray
theorem cArr_get (F : Nat → Int) {j : Nat} (h : j < 101) : (cArr F)[j]? = some (.int .i64 (F j)) := by unfold cArr; simp [h]
theorem cArr_size (F : Nat → Int) : (cArr F).size = 101 := by unfold cArr; simp
def updN (F : Nat → Int) (j : Nat) (v : Int) : Nat → Int := fun k => if k = j then v else F k
theorem cArr_set (F : Nat → Int) (j : Nat) (v : Int) : (cArr F).setIfInBounds j (.int .i64 v) = cArr (updN F j v) := by
  apply Array.ext
  · simp [cArr_size]
  · intro i h1 h2
    have hi : i < 101 := by simpa [cArr_size] using h2
    have e1 := cArr_get (updN F j v) hi
    have e2 := cArr_get F hi
    rw [Array.getElem?_eq_getElem h2] at e1
    rw [Array.getElem?_eq_getElem (by simpa [cArr_size] using hi)] at e2
    simp only [Option.some.injEq] at e1 e2
    rw [e1, Array.getElem_setIfInBounds (by simpa [cArr_size] using hi)]
    by_cases e : j = i
    · subst e; simp [updN]
    · rw [if_neg e, e2]
      simp [updN, show ¬ i = j from fun h => e h.symm]
theorem und_i64 : Try.prog.underlying 2 = some (.int .i64) := by kernel_rfl
theorem info_counts : ∃ i, Try.prog.info? 97 = some i ∧ i.size = 101 ∧ i.zero = some (.agg (cArr fun _ => 0)) := by
  have h : (Try.prog.info? 97).map (fun i => (i.size, i.zero)) = some (101, some (.agg (cArr fun _ => 0))) := by kernel_rfl
  cases hi : Try.prog.info? 97 with
  | none => simp [hi] at h
  | some i => simp only [hi, Option.map_some, Option.some.injEq, Prod.mk.injEq] at h; exact ⟨i, rfl, h.1, h.2⟩
theorem eqc_items (d : Nat) (A B : Nat → Int) (W : World) : ∀ l : List Nat, (∀ j ∈ l, j < 101) → (Op.eqItems (d + 1) 2 1 (cArr A) (cArr B) l).run Try.prog W = .ok (l.all fun j => A j == B j) W := by
  intro l
  induction l with
  | nil => intro _; simp [Op.eqItems]
  | cons j l ih =>
    intro h
    have ih := ih (fun k hk => h k (by simp [hk]))
    have p1 : ∀ F, (part 2 (cArr F) j).run Try.prog W = .ok (.int .i64 (F j)) W := by
      intro F
      have hpk : Try.prog.plainKey 2 = true := by kernel_rfl
      exact run_part_plain W hpk (cArr_get F (h j (by simp)))
    simp only [Op.eqItems, Nat.mul_one, Sem.run_bind, p1, Result.andThen_ok, run_equalIn_int _ _ _ _ _ _ _ und_i64]
    cases hab : (A j == B j) with
    | true => simp [hab, ih]
    | false => simp [hab]
theorem counts_eq (A B : Nat → Int) (W : World) : (Op.equalIn 10000 97 (.agg (cArr A)) (.agg (cArr B))).run Try.prog W = .ok ((List.range 101).all fun j => A j == B j) W := by
  have hq : (Try.prog.info? 2).isSome = true := by kernel_rfl
  obtain ⟨i, hi⟩ := Option.isSome_iff_exists.1 hq
  have hu : Try.prog.underlying 97 = some (.array 101 2) := by kernel_rfl
  rw [run_equalIn_array (P := Try.prog) (w := W) 9999 (e := 2) (n := 101) (cArr A) (cArr B) hu hi, show Try.prog.cellsOf 2 = 1 from by kernel_rfl]
  exact eqc_items 9998 A B W _ (fun j hj => List.mem_range.1 hj)
theorem load_counts {W : World} {T : Nat} {A : Nat → Int} (h : Blk W T 97 (cArr A)) : (loadVar 97 ⟨T, 0, none⟩).run Try.prog W = .ok (.agg (cArr A)) W := by
  have hl : (loadCells ⟨T, 0, none⟩ (cArr A).toList.length).run Try.prog W = .ok (cArr A).toList.toArray W :=
    run_loadCells_list (P := Try.prog) W ⟨T, 0, none⟩ (cArr A).toList (fun j v hv => by
      have hj : j < 101 := by have := (List.getElem?_eq_some_iff.1 hv).1; simpa [cArr_size] using this
      have hadd : (⟨T, 0, none⟩ : Addr).add j = ⟨T, j, none⟩ := by unfold Addr.add; split <;> simp_all
      rw [hadd, h.cell j]
      simpa using hv)
  have hsz : (cArr A).toList.length = 101 := by simp [cArr_size]
  rw [hsz] at hl
  obtain ⟨i, hi, hs, _⟩ := info_counts
  have hagg : (isAgg 97).run Try.prog W = .ok true W := by
    unfold isAgg
    rw [Sem.run_bind, run_underlying (t := 97) (d := .array 101 2) (by kernel_rfl) W]
    rfl
  simp only [Array.toArray_toList] at hl
  simp [loadVar, Sem.run_bind, hagg, sizeOf, typeInfo, hi, hs, hl]
theorem blk_setCells_other {b b' : Nat} {t : TypeId} {cs : Array Value} (hne : b ≠ b') : ∀ (vs : List Value) (o : Nat) (W : World), Blk W b t cs → Blk (W.setCells b' o vs) b t cs
  | [], _, _, h => h
  | v :: vs, o, _, h => blk_setCells_other hne vs (o + 1) _ (h.other (p := ⟨b', o, none⟩) (fun e => hne e.symm) v)
theorem repl_get {α : Type} {n j : Nat} {z v : α} (h : (List.replicate n z)[j]? = some v) : j < n ∧ v = z := by
  rw [List.getElem?_replicate] at h
  split at h
  · rename_i h1; cases h; exact ⟨h1, rfl⟩
  · cases h
theorem blk_setCells {b : Nat} {t : TypeId} {cs : Array Value} : ∀ (vs : List Value) (o : Nat) (W : World), Blk W b t cs → (∀ j v, vs[j]? = some v → cs[o + j]? = some v) → Blk (W.setCells b o vs) b t cs
  | [], _, _, h, _ => h
  | v :: vs, o, W, h, hv => by
    have h0 := hv 0 v rfl
    have h1 : cs.setIfInBounds o v = cs := by
      apply Array.ext
      · simp
      · intro i h2 h3
        rw [Array.getElem_setIfInBounds h3]
        by_cases e : o = i
        · subst e
          rw [Nat.add_zero, Array.getElem?_eq_getElem h3] at h0
          simp at h0
          simp [h0]
        · simp [e]
    have h2 := h.set o v
    rw [h1] at h2
    exact blk_setCells vs (o + 1) _ h2 (fun j u hu => by rw [Nat.add_assoc, Nat.add_comm 1 j]; exact hv (j + 1) u (by simpa using hu))

/-- The counts' block stands. -/
structure CW (w W : World) (g : Nat) (L : Int) (A : Option Addr) (n c : Nat) (F : Nat → Int) : Prop where
  bel : Below w.heap.size w W
  b0 : Blk W w.heap.size 97 (cArr F)
  v0 : Blk W g 87 #[.int .i64 L, .slice A n c]
section
variable {w W W' : World} {g : Nat} {L : Int} {A : Option Addr} {n c : Nat} {F : Nat → Int}
theorem CW.later (h : CW w W g L A n c F) (hb : Below W.heap.size W W') : CW w W' g L A n c F := ⟨Below.later h.bel hb, h.b0.later hb, h.v0.later hb⟩
theorem CW.set (h : CW w W g L A n c F) (hg : g < w.heap.size) (j : Nat) (v : Int) : CW w (W.setCell ⟨w.heap.size, j, none⟩ (.int .i64 v)) g L A n c (updN F j v) :=
  ⟨h.bel.setCell (Nat.le_refl _) _, by have h1 := h.b0.set j (.int .i64 v); rw [cArr_set] at h1; exact h1, h.v0.other (by simp; omega) _⟩
end

theorem zero_counts (w : World) : (zeroValue 97).run Try.prog w = .ok (.agg (cArr fun _ => 0)) w := by
  obtain ⟨i, hi, _, hz⟩ := info_counts
  simp [zeroValue, typeInfo, Sem.run_bind, hi, hz]
theorem info_one : ∃ i, Try.prog.info? 2 = some i ∧ i.size = 1 := by
  have h : (Try.prog.info? 2).map (fun i => i.size) = some 1 := by kernel_rfl
  cases hi : Try.prog.info? 2 with
  | none => simp [hi] at h
  | some i => simp only [hi, Option.map_some, Option.some.injEq] at h; exact ⟨i, rfl, h⟩
theorem index_counts (F : Nat → Int) (i : Nat) (hi : i < 101) (w : World) : (Instr.index 97 (.agg (cArr F)) (.int .i64 (i : Int))).run Try.prog w = .ok (.int .i64 (F i)) w := by
  have hu : Try.prog.underlying 97 = some (.array 101 2) := by kernel_rfl
  have hpk : Try.prog.plainKey 2 = true := by kernel_rfl
  obtain ⟨ie, hie, hs⟩ := info_one
  have hp : (part 2 (cArr F) i).run Try.prog w = .ok (.int .i64 (F i)) w := run_part_plain w hpk (cArr_get F hi)
  simp [Instr.index, asIntOf, run_underlying hu, Sem.run_bind, sizeOf, typeInfo, hie, hs, hp]
  intro h
  omega
theorem wpList_alloc_val {P : Program} {w : World} {ops : Array Oper} {rest : List Oper} {o : Oper} {a : Act} {Q : Exit → Act → World → Prop} (hg : o.guard = none) (t : TypeId) (hop : o.op = .alloc t) (v : Value) (hz : (zeroValue t).run P w = .ok v w)
    (h : wpList P ops Q rest (a.put o.dst (.pointer (some ⟨w.heap.size, 0, none⟩))) (w.alloc (.cells v.cells t))) : wpList P ops Q (o :: rest) a w := by
  refine wpList_plain hg fun K' hK' => ?_
  unfold Oper.wp
  simp [execOp, hop, Instr.alloc, hz, newVar, newRow, Sem.run_bind, Result.andThen_ok]
  exact hK' _ _ h
theorem wpList_load_val {P : Program} {w : World} {ops : Array Oper} {rest : List Oper} {o : Oper} {a : Act} {Q : Exit → Act → World → Prop} (hg : o.guard = none) (ty : TypeId) (x : Operand) (hop : o.op = .load ty x) (p : Addr) (hx : a.eval x = .pointer (some p)) (v : Value)
    (hr : (loadVar ty p).run P w = .ok v w) (h : wpList P ops Q rest (a.put o.dst v) w) : wpList P ops Q (o :: rest) a w := by
  refine wpList_plain hg fun K' hK' => ?_
  unfold Oper.wp
  simp only [execOp, hop, hx, Instr.loadAt, Instr.sureAddr, Sem.run_bind, Sem.run_pure, Result.andThen_ok, hr]
  exact hK' _ _ h
theorem wpList_build_val {P : Program} {w : World} {ops : Array Oper} {rest : List Oper} {o : Oper} {a : Act} {Q : Exit → Act → World → Prop} (hg : o.guard = none) (t : TypeId) (hop : o.op = .build t #[]) (n : Nat) (e : TypeId) (i : TypeInfo) (hu : P.underlying t = some (.array n e)) (hi : P.info? e = some i) (v : Value) (hz : (zeroValue t).run P w = .ok v w)
    (h : wpList P ops Q rest (a.put o.dst (.agg v.cells)) w) : wpList P ops Q (o :: rest) a w := by
  refine wpList_plain hg fun K' hK' => ?_
  unfold Oper.wp
  simp [execOp, hop, Instr.build, hz, run_underlying hu, sizeOf, typeInfo, hi, Instr.fill, Sem.run_bind, Result.andThen_ok]
  exact hK' _ _ h
set_option maxRecDepth 100000 in
set_option maxHeartbeats 2000000 in
theorem loads_any (g : Nat) (L : Int) (A : Option Addr) (n c : Nat) (B : Option Addr) (m k : Nat) (hs : List Int) (w : World) (hv : Blk w g 87 #[.int .i64 L, .slice A n c]) (hh : Sl 1 encI w w.heap.size B m k hs) (hm : m ≤ 100) (hL : 1 ≤ L ∧ L ≤ 10) (hr : ∀ h ∈ hs, 0 ≤ h ∧ h ≤ 100) :
    Calls Try.prog 55 #[.pointer (some ⟨g, 0, none⟩), .slice B m k] w fun e w' => e = .returned (.int .i64 (loadsP L hs)) ∧ Below w.heap.size w w' := by
  obtain rfl := hh.len
  have Hh := Lib.hid hh
  have hgl := hv.lt
  have hb0 : Blk (w.alloc (.cells (cArr fun _ => 0) 97)) w.heap.size 97 (cArr fun _ => 0) := Blk.new w _ _
  have hbs := blk_setCells (List.replicate 101 (.int .i64 0)) 0 _ hb0 (fun j v hv => by
    obtain ⟨hj, rfl⟩ := repl_get hv
    rw [Nat.zero_add, cArr_get _ hj])
  have Hv := Lib.hid (blk_setCells_other (show g ≠ w.heap.size by omega) (List.replicate 101 (.int .i64 0)) 0 _ (hv.alloc (.cells (cArr fun _ => 0) 97)))
  have hcl := fun ty => Lib.run_clear_slice (P := Try.prog) (w.alloc (.cells (cArr fun _ => 0) 97)) 25 2 ty (.int .i64 0) (by kernel_rfl) (fun _ => by rfl) rfl rfl w.heap.size 0 101 101 (by omega) (fun j hj => by rw [hb0.cell, Nat.zero_add, cArr_get _ hj]; rfl) (fun j hj => hb0.frozen _)
  have Hcl := Lib.hid hcl
  have HC := Lib.hid (show CW w _ g L A n c _ from ⟨(balloc (brefl w) (.cells (cArr fun _ => 0) 97)).trans (Lib.below_setCells_w (Nat.le_refl _) _ 0 _), hbs, Hv.out⟩)
  have hz := zero_counts w
  have c0 := hb0.lt
  clear hb0 hbs hcl hv hh Hv
  have Hr := Lib.hid hr
  clear hr
  go_enter Try.func55, Try.ntmps55
  go_wp2_with (refine wpList_alloc_val rfl 97 rfl _ hz ?_)
  clear hz
  rw [Hcl.out]
  simp only [Result.andThen]
  rw [Oper.upon_value]
  generalize (w.alloc (.cells (cArr fun _ => 0) 97)).setCells w.heap.size 0 (List.replicate 101 (.int .i64 0)) = W0 at *
  clear Hcl c0
  go_wp2_with fail
  refine loop_n (fun m b W => b.defers = [] ∧ ∃ i : Nat, i + m = hs.length ∧ CW w W g L A n c (cntP (hs.take i)) ∧ Fits (some (.pointer (some ⟨g, 0, none⟩)) :: none :: none :: none :: none :: some (.pointer (some ⟨w.heap.size, 0, none⟩)) :: none :: none :: none :: none :: none :: none :: none :: some (.slice B hs.length k) :: some (.int .i64 (hs.length : Nat)) :: some (.int .i64 (i : Nat)) :: none :: none :: none :: none :: none :: none :: none :: none :: none :: none :: none :: none :: none :: none :: none :: none :: none :: none :: none :: none :: none :: none :: none :: none :: none :: []) b.tmps.toList) hs.length ?_ ?_
  · refine ⟨rfl, 0, by omega, ?_, ?_⟩
    · rw [show cntP (hs.take 0) = fun _ => 0 from funext fun t => by simp [cntP]]; exact HC.out
    repeat (first | exact fits_nil | refine fits_none ?_ | refine fits_some ?_)
  clear HC
  clear W0
  intro m b W hI K hK
  obtain ⟨hds, i, him, hC, hfit⟩ := hI
  obtain ⟨f, hf⟩ := fits_act hfit
  rw [hds] at hf
  subst hf
  clear hfit hds
  simp only [fillP, Nat.reduceAdd]
  have HC := Lib.hid hC
  by_cases hlt : i < hs.length
  · obtain ⟨rb, ro, x, rfl, hrb, hx, g0⟩ := (Hh.out.later hC.bel).ltI hlt
    have i1 : (i : Int) < (hs.length : Int) := by omega
    have i2 : (0 : Int) ≤ (i : Int) := by omega
    obtain ⟨h0, h1⟩ := Hr.out x (List.mem_of_getElem? hx)
    obtain ⟨t, rfl⟩ : ∃ t : Nat, x = t := ⟨x.toNat, by omega⟩
    have ht : t < 101 := by omega
    have hst := fun p => count_take (p := p) hx
    have c0 := hC.b0.cell t
    rw [cArr_get _ ht] at c0
    have c2 := hC.b0.lt
    have c3 := hC.b0.frozen t
    have hbd : cntP (hs.take i) t ≤ 100 ∧ 0 ≤ cntP (hs.take i) t := by
      have := List.countP_le_length (p := fun h => decide (h = (t : Int))) (l := hs.take i)
      have : (hs.take i).length ≤ hs.length := by simp; omega
      unfold cntP; omega
    have HS := Lib.hid (hC.set hgl t (cntP (hs.take i) t + 1))
    have hfun : updN (cntP (hs.take i)) t (cntP (hs.take i) t + 1) = cntP (hs.take (i + 1)) := by
      funext s
      unfold updN cntP
      rw [hst]
      by_cases e : s = t
      · subst e; simp
      · rw [if_neg e]; simp [show ¬ (t : Int) = (s : Int) from by omega]
    rw [hfun] at HS
    generalize cntP (hs.take i) t = q at *
    have i4 : IntKind.i64.wrap (q + 1) = q + 1 := by rw [IntKind.wrap_i64]; omega
    have i3 : IntKind.i64.wrap ((i : Int) + 1) = (i : Int) + 1 := by rw [IntKind.wrap_i64]; omega
    have i5 : (t : Int) < 101 := by omega
    have i6 : (0 : Int) ≤ (t : Int) := by omega
    clear hC hx hst hfun HC
    go_wp2
    refine hK _ _ (m - 1) (by omega) ⟨rfl, i + 1, by omega, HS.out, ?_⟩
    repeat (first | exact fits_nil | refine fits_none ?_ | refine fits_some ?_)
  · obtain rfl : i = hs.length := by omega
    rw [List.take_length] at hC HC
    have hbd : ∀ t, 0 ≤ cntP hs t ∧ cntP hs t ≤ 100 := fun t => by
      have := List.countP_le_length (p := fun h => decide (h = (t : Int))) (l := hs)
      unfold cntP; omega
    have hld := load_counts hC.b0
    have heq := counts_eq (cntP hs) (fun _ => 0) W
    have Hbd := Lib.hid hbd
    have Hlo := Lib.hid (show ∀ t : Nat, t ≤ 101 → 0 ≤ loadsTo L hs t ∧ loadsTo L hs t ≤ t * 2000 from fun t => by
      induction t with
      | zero => intro _; simp [loadsTo]
      | succ t ih =>
        intro ht
        have h1 := ih (by omega)
        obtain ⟨_, _, _, _, _, u0, u1⟩ := upI_facts hL (x := cntP hs t) (by have := hbd t; omega)
        simp only [loadsTo]
        omega)
    have hP : ∀ t, (∀ j, j < t → cntP hs j = 0) → loadsTo L hs t = 0 := by
      intro t
      induction t with
      | zero => intro _; rfl
      | succ t ih =>
        intro h
        have h1 := ih (fun j hj => h j (by omega))
        have h2 : upI 0 L = 0 := by unfold upI; exact Int.ediv_eq_zero_of_lt (by omega) (by omega)
        simp only [loadsTo, h1, h t (by omega), h2]; rfl
    obtain ⟨zb, hzb⟩ : ∃ zb, ((List.range 101).all fun j => cntP hs j == 0) = zb := ⟨_, rfl⟩
    rw [hzb] at heq
    have Hz := Lib.hid hzb
    have HP := Lib.hid hP
    obtain ⟨ie, hie⟩ := Option.isSome_iff_exists.1 (show (Try.prog.info? 2).isSome = true by kernel_rfl)
    have Hie := Lib.hid hie
    have c2 := hC.b0.lt
    clear hK hC hbd hzb hP hie
    cases zb with
    | true =>
      go_wp2_with (first | refine wpList_load_val rfl 97 _ rfl _ rfl _ hld ?_ | refine wpList_build_val rfl 97 rfl 101 2 ie (by kernel_rfl) Hie.out _ (zero_counts _) ?_)
      go_ret
      exact ⟨ret_int (by unfold loadsP; rw [HP.out 101 fun j hj => by simpa using List.all_eq_true.1 Hz.out j (List.mem_range.2 hj)]), HC.out.bel⟩
    | false =>
      clear HP
      go_wp2_with (first | refine wpList_load_val rfl 97 _ rfl _ rfl _ hld ?_ | refine wpList_build_val rfl 97 rfl 101 2 ie (by kernel_rfl) Hie.out _ (zero_counts _) ?_)
      clear heq hld
      refine loop_n (fun m b V => b.defers = [] ∧ ∃ i : Nat, i + m = 101 ∧ CW w V g L A n c (cntP hs) ∧ Fits (none :: none :: none :: none :: none :: none :: none :: none :: some (.int .i64 (loadsTo L hs i)) :: some (.func (.func 78) #[.pointer (some ⟨g, 0, none⟩)] #[]) :: none :: none :: none :: none :: none :: none :: none :: none :: none :: none :: none :: none :: none :: none :: none :: none :: none :: none :: none :: none :: some (.agg (cArr (cntP hs))) :: some (.int .i64 (i : Nat)) :: none :: none :: none :: none :: none :: none :: none :: none :: none :: []) b.tmps.toList) 101 ?_ ?_
      · refine ⟨rfl, 0, by omega, HC.out, ?_⟩
        repeat (first | exact fits_nil | refine fits_none ?_ | refine fits_some ?_)
      clear HC
      intro m b V hI K hK
      obtain ⟨hds, i, him, hC, hfit⟩ := hI
      obtain ⟨f, hf⟩ := fits_act hfit
      rw [hds] at hf
      subst hf
      clear hfit hds
      simp only [fillP, Nat.reduceAdd]
      have HC := Lib.hid hC
      have hlo := Hlo.out i (by omega)
      obtain ⟨a0, a1⟩ := hlo
      by_cases hlt : i < 101
      · have i1 : (i : Int) < 101 := by omega
        have i2 : (0 : Int) ≤ (i : Int) := by omega
        have i3 : IntKind.i64.wrap ((i : Int) + 1) = (i : Int) + 1 := by rw [IntKind.wrap_i64]; omega
        have hb := Hbd.out i
        obtain ⟨_, _, _, _, _, u0, u1⟩ := upI_facts hL (x := cntP hs i) (by omega)
        have hw : IntKind.i64.wrap (loadsTo L hs i + upI (cntP hs i) L) = loadsTo L hs (i + 1) := by rw [IntKind.wrap_i64]; simp only [loadsTo]; omega
        have hg := index_counts (cntP hs) i hlt V
        have hup := Lib.hid (up_any g L A n c (cntP hs i) V hC.v0 hL (by omega))
        clear hC u0 u1 hb
        generalize loadsTo L hs i = s at *
        obtain ⟨s', hs'⟩ : ∃ s', loadsTo L hs (i + 1) = s' := ⟨_, rfl⟩
        rw [hs'] at hw
        have HS := Lib.hid hs'
        clear hs'
        generalize upI (cntP hs i) L = u at *
        generalize cntP hs i = q at *
        go_wp2_with fail
        refine hup.out.mono ?_
        rintro e w2 ⟨rfl, hb2⟩
        have HC2 := Lib.hid (HC.out.later hb2)
        clear hb2
        go_wp2
        refine hK _ _ (m - 1) (by omega) ⟨rfl, i + 1, by omega, HC2.out, ?_⟩
        rw [HS.out]
        repeat (first | exact fits_nil | refine fits_none ?_ | refine fits_some ?_)
      · obtain rfl : i = 101 := by omega
        clear hK
        go_wp2
        go_ret
        exact ⟨ret_int rfl, HC.out.bel⟩
end Go.Proofs.Ytbbdlebmagknmaa
