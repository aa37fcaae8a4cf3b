/- steam's vat.windows: what it hands back yields all windows from the beginning of a log to the end of one. -/
import Derived.Test.YtbbdlebmagknmaaSMap
import Derived.Carry
namespace Go.Proofs.Ytbbdlebmagknmaa
open Go.RowKit Go.Shelf Go.Maps
attribute [local go_sem] Oper.semAt_some

/-- The windows. -/
def winsL (rs : List Rg) : List Rg := rs.flatMap fun a => (rs.filter fun b => decide (a.lo ≤ b.hi)).map fun b => ⟨a.lo, b.hi⟩
theorem winsL_iff {rs : List Rg} {r : Rg} : r ∈ winsL rs ↔ ∃ a b, a ∈ rs ∧ b ∈ rs ∧ a.lo ≤ b.hi ∧ r = ⟨a.lo, b.hi⟩ := by
  unfold winsL
  simp only [List.mem_flatMap, List.mem_map, List.mem_filter, decide_eq_true_eq]
  constructor
  · rintro ⟨a, ha, b, ⟨hb, h⟩, rfl⟩; exact ⟨a, b, ha, hb, h, rfl⟩
  · rintro ⟨a, b, ha, hb, h, rfl⟩; exact ⟨a, ha, b, ⟨hb, h⟩, rfl⟩
abbrev Wi (rs : List Rg) := { r : Rg // r ∈ winsL rs }
/-- What is cells lies as it lay. -/
structure KpC (W W' : World) : Prop where
  size : W.heap.size ≤ W'.heap.size
  cells : ∀ (k : Nat) (c : Array Value) (e : TypeId) (f : Nat × Nat), W.heap[k]? = some (.cells c e f) → W'.heap[k]? = some (.cells c e f)
section
variable {A B C : World}
theorem KpC.refl (W : World) : KpC W W := ⟨Nat.le_refl _, fun _ _ _ _ h => h⟩
theorem KpC.trans (h : KpC A B) (k : KpC B C) : KpC A C := ⟨Nat.le_trans h.size k.size, fun i c e f hi => k.cells i c e f (h.cells i c e f hi)⟩
theorem KpC.of_below (h : Below A.heap.size A B) : KpC A B := ⟨h.size, fun i _ _ _ hi => (h.block i (Array.getElem?_eq_some_iff.1 hi).1).trans hi⟩
theorem KpC.blk (h : KpC A B) {b : Nat} {t : TypeId} {cs : Array Value} (hb : Blk A b t cs) : Blk B b t cs := h.cells b cs t (0, 0) hb
theorem KpC.cell (h : KpC A B) {p : Addr} {v : Value} (hv : A.cell? p = some v) : B.cell? p = some v := by
  unfold World.cell? at hv ⊢
  cases ho : A.heap[p.block]? with
  | none => rw [ho] at hv; cases hv
  | some o =>
    rw [ho] at hv
    cases o with
    | cells c e f => rw [h.cells _ c e f ho]; exact hv
    | _ => cases hv
theorem KpC.sl {α : Type} {k : Nat} {enc : α → List Value} {b : Nat} {P : Option Addr} {n c : Nat} {xs : List α} (h : KpC A B) (hs : Sl k enc A b P n c xs) : Sl k enc B b P n c xs :=
  ⟨hs.len, hs.cap, hs.big, fun hn => by
    obtain ⟨b, o, hA, hB, hc⟩ := hs.at_ hn
    exact ⟨b, o, hA, hB, fun i x hx j u hu => h.cell (hc i x hx j u hu)⟩⟩
theorem KpC.put (W : World) (l : Nat) (o o' : Obj) (hl : W.heap[l]? = some o) (hc : o.isCells = false) : KpC W (W.putObj l o') :=
  ⟨(grownBy_putObj' W l o').size, fun k c e f hk => (World.putObj_heap_other (by rintro rfl; rw [hl] at hk; cases hk; simp [Obj.isCells] at hc)).trans hk⟩
theorem KpC.grown {row : Option Nat} (hg : A.grownBy B row) (hr : ∀ r, row = some r → ∃ o, A.heap[r]? = some o ∧ o.isCells = false) : KpC A B :=
  ⟨hg.size, fun k c e f hk => (hg.block k (Array.getElem?_eq_some_iff.1 hk).1 (fun e' => by
    obtain ⟨o, ho, hc⟩ := hr k e'.symm
    rw [hk] at ho; cases ho; simp [Obj.isCells] at hc)).trans hk⟩
end
theorem Sl.wider {α : Type} {k : Nat} {enc : α → List Value} {w : World} {B B' : Nat} {A : Option Addr} {n c : Nat} {xs : List α} (h : Sl k enc w B A n c xs) (hB : B ≤ B') : Sl k enc w B' A n c xs :=
  ⟨h.len, h.cap, h.big, fun hn => by
    obtain ⟨b, o, hA, hb, hc⟩ := h.at_ hn
    exact ⟨b, o, hA, Nat.lt_of_lt_of_le hb hB, hc⟩⟩
/-- What the iterator reads. -/
structure IR (W : World) (B1 g : Nat) (L : Int) (A : Option Addr) (c : Nat) (rs : List Rg) : Prop where
  b1 : Blk W B1 70 #[.pointer (some ⟨g, 0, none⟩)]
  vt : Blk W g 87 #[.int .i64 L, .slice A rs.length c]
  sl : Sl 2 encR W W.heap.size A rs.length c rs
theorem IR.kp {W W' : World} {B1 g : Nat} {L : Int} {A : Option Addr} {c : Nat} {rs : List Rg} (h : IR W B1 g L A c rs) (k : KpC W W') : IR W' B1 g L A c rs := ⟨k.blk h.b1, k.blk h.vt, (k.sl h.sl).wider k.size⟩
/-- Which windows have been yielded. -/
def Cov (rs : List Rg) (k q : Nat) (pre : List (Wi rs)) : Prop := ∀ i j a b, (i < k ∨ (i = k ∧ j < q)) → rs[i]? = some a → rs[j]? = some b → a.lo ≤ b.hi → ∃ y ∈ pre, y.1 = ⟨a.lo, b.hi⟩
section
variable {rs : List Rg} {k q : Nat} {pre : List (Wi rs)}
theorem Cov.no (h : Cov rs k q pre) {a b : Rg} (ha : rs[k]? = some a) (hb : rs[q]? = some b) (hn : ¬ a.lo ≤ b.hi) : Cov rs k (q + 1) pre := by
  intro i j a' b' hij ha' hb' hle
  by_cases e : i = k ∧ j = q
  · obtain ⟨rfl, rfl⟩ := e
    rw [ha] at ha'; rw [hb] at hb'; cases ha'; cases hb'
    exact absurd hle hn
  · exact h i j a' b' (by omega) ha' hb' hle
theorem Cov.yes (h : Cov rs k q pre) {a b : Rg} (ha : rs[k]? = some a) (hb : rs[q]? = some b) {y : Wi rs} (hy : y.1 = ⟨a.lo, b.hi⟩) : Cov rs k (q + 1) (pre ++ [y]) := by
  intro i j a' b' hij ha' hb' hle
  by_cases e : i = k ∧ j = q
  · obtain ⟨rfl, rfl⟩ := e
    rw [ha] at ha'; rw [hb] at hb'; cases ha'; cases hb'
    exact ⟨y, by simp, hy⟩
  · obtain ⟨z, hz, hz2⟩ := h i j a' b' (by omega) ha' hb' hle
    exact ⟨z, by simp [hz], hz2⟩
theorem Cov.next (h : Cov rs k rs.length pre) : Cov rs (k + 1) 0 pre := by
  intro i j a b hij ha hb hle
  have hj := (List.getElem?_eq_some_iff.1 hb).1
  exact h i j a b (by omega) ha hb hle
end

set_option maxRecDepth 100000 in
set_option maxHeartbeats 4000000 in
theorem wins1_in (n : Nat) (l B1 g : Nat) (L : Int) (A : Option Addr) (c : Nat) (rs : List Rg) (hr : RsOk rs) (J Jx : List (Wi rs) → World → Prop) (W : World)
    (hJ : AbidesFrom W.heap.size J)
    (hY : ∀ pre x W1, J pre W1 → pre.length < 1000 → YieldAt Fence.wide (n - 1) Try.prog l #[.agg #[.int .i64 x.1.lo, .int .i64 x.1.hi]] W1 fun e W' =>
      (e = .returned (.bool true) ∧ J (pre ++ [x]) W' ∧ KpC W1 W') ∨ (e = .returned (.bool false) ∧ Jx (pre ++ [x]) W'))
    (hR : IR W B1 g L A c rs) (h0 : J [] W) :
    CallsIn Fence.wide n Try.prog 90 #[.func (.yield l) #[] #[], .pointer (some ⟨B1, 0, none⟩)] W fun e W' => (∃ v, e = .returned v) ∧
      ((∃ ys, ((∀ r ∈ winsL rs, ∃ y ∈ ys, y.1 = r) ∧ ys.length ≤ 100) ∧ J ys W') ∨ (∃ pre, True ∧ Jx pre W')) := by
  have hn10 := hr.1
  have m0 := hR.b1.cell 0
  have m1 := hR.vt.cell 0
  have m2 := hR.vt.cell 1
  have ml := hR.b1.lt
  have mg := hR.vt.lt
  have HR := Lib.hid hR
  have HY := Lib.hid hY
  have HJ := Lib.hid hJ
  have H0 := Lib.hid h0
  clear hY hR hJ h0 hr
  obtain ⟨n1, hn1⟩ : ∃ n1, rs.length = n1 := ⟨_, rfl⟩
  rw [hn1] at hn10 m2
  have Hn := Lib.hid hn1
  clear hn1
  refine callsIn_of_wp Try.func90 rfl trivial ?_ rfl
  simp only [Try.ntmps90, List.size_toArray, List.length_cons, List.length_nil, Nat.reduceAdd, Nat.reduceSub, Array.replicate_succ, Array.replicate_zero, List.push_toArray, List.append_toArray, List.nil_append, List.cons_append]
  gi_wp2
  clear m0 m1 m2 ml mg
  gi_loopw [13] (fun i wr => ∃ (k : Nat) (pre : List (Wi rs)), k ≤ n1 ∧ i = .int .i64 k ∧ J pre wr ∧ KpC W wr ∧ pre.length ≤ k * 10 ∧ Cov rs k 0 pre)
    (fun i _ => n1 - (intOf i).toNat)
  case atStart => exact ⟨0, [], Nat.zero_le _, rfl, H0.out, KpC.refl _, by simp, fun i j a b h => by omega⟩
  case round =>
    obtain ⟨k, pre, hk, rfl, hJs, hkp, hpl, hcov⟩ := hrel
    have hRr := HR.out.kp hkp
    have m0 := hRr.b1.cell 0
    have m1 := hRr.vt.cell 0
    have m2 := hRr.vt.cell 1
    have ml := hRr.b1.lt
    have mg := hRr.vt.lt
    rw [Hn.out] at m2
    have HJs := Lib.hid hJs
    have Hkp := Lib.hid hkp
    have Hcov := Lib.hid hcov
    clear hJs hkp hcov
    by_cases hlt : k < n1
    · obtain ⟨rb, ro, x, rfl, hrb, hx, g0, g1⟩ := hRr.sl.ltR (show k < rs.length by rw [Hn.out]; exact hlt)
      have Hx := Lib.hid hx
      have hJ1 := HJ.out _ _ _ none HJs.out (World.grownBy_alloc wr (.cells #[.int .i64 x.lo, .int .i64 x.hi] 27) none) (fun r e => by cases e)
      have HJ1 := Lib.hid hJ1
      have HB4 := Lib.hid (show Blk (wr.alloc (.cells #[.int .i64 x.lo, .int .i64 x.hi] 27)) wr.heap.size 27 #[.int .i64 x.lo, .int .i64 x.hi] from Blk.new wr _ _)
      have Hkp1 := Lib.hid (Hkp.out.trans (KpC.of_below (balloc (brefl wr) (.cells #[.int .i64 x.lo, .int .i64 x.hi] 27))))
      clear hx hJ1 hRr HJs Hkp
      gi_wp2
      clear m0 m1 m2 ml mg g0 g1
      gi_loopw [23] (fun j w2 => ∃ (q : Nat) (pr2 : List (Wi rs)), q ≤ n1 ∧ j = .int .i64 q ∧ J pr2 w2 ∧ KpC W w2 ∧ Blk w2 wr.heap.size 27 #[.int .i64 x.lo, .int .i64 x.hi] ∧ pr2.length ≤ k * 10 + q ∧ Cov rs k q pr2)
        (fun j _ => n1 - (intOf j).toNat)
      case atStart => exact ⟨0, pre, Nat.zero_le _, rfl, HJ1.out, Hkp1.out, HB4.out, by omega, Hcov.out⟩
      case round =>
        obtain ⟨q, pr2, hq, rfl, hJ2, hkp2, hb4, hpl2, hcov2⟩ := hrel
        have hRq := HR.out.kp hkp2
        have z4 := hb4.lt
        have HJ2 := Lib.hid hJ2
        have Hkp2 := Lib.hid hkp2
        have Hcov2 := Lib.hid hcov2
        have Hb4 := Lib.hid hb4
        have Hpl2 := Lib.hid hpl2
        clear hJ2 hkp2 hcov2 hb4 hpl2
        by_cases hlt2 : q < n1
        · obtain ⟨rb2, ro2, y, hA, hrb2, hy, g2, g3⟩ := hRq.sl.ltR (show q < rs.length by rw [Hn.out]; exact hlt2)
          simp only [Option.some.injEq, Addr.mk.injEq, and_true] at hA
          obtain ⟨rfl, rfl⟩ := hA
          have hJ3 := HJ.out _ _ _ none HJ2.out (World.grownBy_alloc wr (.cells #[.int .i64 y.lo, .int .i64 y.hi] 27) none) (fun r e => by cases e)
          have HJ3 := Lib.hid hJ3
          have hal := balloc (brefl wr) (.cells #[.int .i64 y.lo, .int .i64 y.hi] 27)
          have HB4' := Lib.hid (Hb4.out.later hal)
          have Hkp3 := Lib.hid (Hkp2.out.trans (KpC.of_below hal))
          have d0 := HB4'.out.cell 0
          have d1 := HB4'.out.cell 1
          have d2 := HB4'.out.lt
          have hnb : Blk (wr.alloc (.cells #[.int .i64 y.lo, .int .i64 y.hi] 27)) wr.heap.size 27 #[.int .i64 y.lo, .int .i64 y.hi] := Blk.new wr _ _
          have d3 := hnb.cell 0
          have d4 := hnb.cell 1
          have Hy := Lib.hid hy
          clear hy hJ3 hal hRq HJ2 Hkp2 hnb
          cases hc : decide (x.lo ≤ y.hi) with
          | true =>
            have hmem : (⟨x.lo, y.hi⟩ : Rg) ∈ winsL rs := winsL_iff.2 ⟨x, y, List.mem_of_getElem? Hx.out, List.mem_of_getElem? Hy.out, of_decide_eq_true hc, rfl⟩
            obtain ⟨fn', tmps', assign', body', hy, hR⟩ := HY.out pr2 ⟨⟨x.lo, y.hi⟩, hmem⟩ _ HJ3.out (by have := Hpl2.out; omega)
            dsimp only at hy
            have HR3 := Lib.hid hR
            clear hR
            gi_wp2
            refine ⟨fun h => (by simp [Fence.wide] at h), ?_⟩
            refine HR3.out.mono ?_
            rintro e W3 (⟨rfl, hJ4, hk4⟩ | ⟨rfl, hJx4⟩)
            · have HJ4 := Lib.hid hJ4
              have Hk4 := Lib.hid hk4
              clear hJ4 hk4 d0 d1 d2 d3 d4
              gi_wp2
              go_roundw
              case rel => exact ⟨q + 1, _, by omega, by go_num, HJ4.out, Hkp3.out.trans Hk4.out, Hk4.out.blk HB4'.out, by have := Hpl2.out; simp; omega, Hcov2.out.yes Hx.out Hy.out rfl⟩
              case measure => simp [intOf]; omega
            · have HJx4 := Lib.hid hJx4
              clear hJx4 d0 d1 d2 d3 d4
              gi_wp2
              refine bodyPost_ret (results_none rfl _ _ _) rfl ?_
              exact ⟨⟨_, rfl⟩, .inr ⟨_, trivial, HJx4.out⟩⟩
          | false =>
            have hc' := of_decide_eq_false hc
            have Hc2 := Lib.hid (Hcov2.out.no Hx.out Hy.out hc')
            clear hc'
            gi_wp2
            refine ⟨fun _ h => (by cases h), ?_⟩
            gi_wp2
            go_roundw
            case rel => exact ⟨q + 1, _, by omega, by go_num, HJ3.out, Hkp3.out, HB4'.out, by have := Hpl2.out; omega, Hc2.out⟩
            case measure => simp [intOf]; omega
        · obtain rfl : q = n1 := by omega
          have Hc2 := Lib.hid (show Cov rs (k + 1) 0 pr2 from Cov.next (by rw [Hn.out]; exact Hcov2.out))
          clear hRq
          gi_wp2
          go_roundw
          case rel => exact ⟨k + 1, _, by omega, by go_num, HJ2.out, Hkp2.out, by have := Hpl2.out; omega, Hc2.out⟩
          case measure => simp [intOf]; omega
    · obtain rfl : k = n1 := by omega
      gi_wp2
      go_end0
      refine ⟨⟨_, rfl⟩, .inl ⟨_, ⟨fun r hr => ?_, by omega⟩, HJs.out⟩⟩
      obtain ⟨a, b, ha, hb, hle, rfl⟩ := winsL_iff.1 hr
      obtain ⟨i, hi⟩ := List.getElem?_of_mem ha
      obtain ⟨j, hj⟩ := List.getElem?_of_mem hb
      exact Hcov.out i j a b (.inl (by rw [← Hn.out]; exact (List.getElem?_eq_some_iff.1 hi).1)) hi hj hle
end Go.Proofs.Ytbbdlebmagknmaa
