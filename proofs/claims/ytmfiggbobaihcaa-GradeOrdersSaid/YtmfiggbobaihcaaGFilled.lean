/- The law's Filled: a fill, by numbers. -/
import Derived.Test.YtmfiggbobaihcaaGAllF
namespace Go.Proofs.Ytmfiggbobaihcaa
open Go.RowKit Go.Shelf

/-- While rows are filled: what the first rows are. -/
structure FilOk (S : List Int) (O : List Od) (X : List (List Int)) (left : Nat → Int) (full : Bool) : Prop where
  row : ∀ x ∈ X, x.length = S.length
  small : ∀ x ∈ X, ∀ y ∈ x, 0 ≤ y ∧ y ≤ 20
  good : ∀ i, i < X.length → ∀ g, g < S.length → gAt O i < (g : Int) → fX X i g = 0
  full_ : full = !sumT S.length O X X.length
  left_ : ∀ g, g < S.length → 0 ≤ left g ∧ left g + gotP X X.length g = stockM S g
/-- While one row is filled. -/
structure RowOk (S : List Int) (gr : Nat) (m : Int) (row left0 left : Nat → Int) (want : Int) : Prop where
  nn : ∀ g, 0 ≤ row g
  no : ∀ g, gr < g → row g = 0
  sum : sumN row S.length + want = m
  want_ : 0 ≤ want
  left_ : ∀ g, g < S.length → 0 ≤ left g ∧ left g + row g = left0 g
theorem sumN_upd (F : Nat → Int) (g : Nat) (d : Int) : ∀ n, g < n → sumN (Gr9.upd F g (F g + d)) n = sumN F n + d := fun n hg => by
  rw [sumN_pre, sumN_pre, Gr9.pre_upd F g _ n hg]
  omega
theorem RowOk.step {S : List Int} {gr : Nat} {m : Int} {row left0 left : Nat → Int} {want n : Int} (h : RowOk S gr m row left0 left want) {g : Nat} (hg : g < S.length) (hgr : g ≤ gr) (hn : 0 ≤ n ∧ n ≤ want ∧ n ≤ left g) : RowOk S gr m (Gr9.upd row g (row g + n)) left0 (Gr9.upd left g (left g - n)) (want - n) := by
  refine ⟨fun k => ?_, fun k hk => ?_, ?_, by omega, fun k hk => ?_⟩
  · unfold Gr9.upd
    split
    · have := h.nn g; omega
    · exact h.nn k
  · unfold Gr9.upd
    rw [if_neg (by omega)]
    exact h.no k hk
  · rw [sumN_upd row g n _ hg]
    have := h.sum
    omega
  · unfold Gr9.upd
    by_cases e : k = g
    · subst e
      rw [if_pos rfl, if_pos rfl]
      have := h.left_ k hk
      omega
    · rw [if_neg e, if_neg e]
      exact h.left_ k hk
theorem sumN_part {F : Nat → Int} (h : ∀ g, 0 ≤ F g) : ∀ n k, k < n → F k ≤ sumN F n := fun n k hk => by
  rw [sumN_pre]
  have h1 := Gr9.pre_mono h (show k + 1 ≤ n by omega)
  have h2 := Gr9.pre_nonneg h k
  have h3 : Gr9.pre F (k + 1) = Gr9.pre F k + F k := rfl
  omega
theorem fX_app_old {X : List (List Int)} {x : List Int} {i : Nat} (h : i < X.length) (g : Nat) : fX (X ++ [x]) i g = fX X i g := by
  unfold fX
  rw [List.getD_eq_getElem?_getD (l := X ++ [x]), List.getElem?_append_left h, ← List.getD_eq_getElem?_getD]
theorem fX_app_new {X : List (List Int)} {n : Nat} {row : Nat → Int} {g : Nat} (hg : g < n) : fX (X ++ [(List.range n).map row]) X.length g = row g := by
  refine fX_at (x := (List.range n).map row) (by simp) ?_
  rw [List.getElem?_map, List.getElem?_range hg]
  rfl
theorem sumN_congr {F G : Nat → Int} : ∀ n, (∀ i, i < n → F i = G i) → sumN F n = sumN G n := fun n h => by rw [sumN_pre, sumN_pre]; exact Gr9.pre_congr n h
theorem sumT_app {n : Nat} {O : List Od} {X : List (List Int)} {x : List Int} : ∀ i, i ≤ X.length → sumT n O (X ++ [x]) i = sumT n O X i
  | 0, _ => rfl
  | i + 1, h => by
    rw [sumT, sumT, sumT_app i (by omega), sumN_congr n fun g _ => fX_app_old (show i < X.length by omega) g]
theorem FilOk.start {S : List Int} {O : List Od} {b : Int} (h : ∀ x ∈ S, 0 ≤ x ∧ x ≤ b) (hb : 0 ≤ b) : FilOk S O [] (stockM S) true :=
  ⟨by simp, by simp, fun i hi => by simp at hi, rfl, fun g _ => ⟨(stockM_bound h hb g).1, by show stockM S g + 0 = _; omega⟩⟩
theorem FilOk.add {S : List Int} {O : List Od} {X : List (List Int)} {left0 left row : Nat → Int} {full : Bool} {gr : Nat} {want : Int} (h : FilOk S O X left0 full) (hm : mAt O X.length ≤ 20) (hg : gAt O X.length = (gr : Int)) (hr : RowOk S gr (mAt O X.length) row left0 left want) : FilOk S O (X ++ [(List.range S.length).map row]) left (full && decide (want = 0)) := by
  have hrs := hr.sum
  have hrw := hr.want_
  refine ⟨fun x hx => ?_, fun x hx y hy => ?_, fun i hi g hg2 hgi => ?_, ?_, fun g hg2 => ?_⟩
  · rcases List.mem_append.1 hx with hx | hx
    · exact h.row x hx
    · obtain rfl : x = (List.range S.length).map row := by simpa using hx
      simp
  · rcases List.mem_append.1 hx with hx | hx
    · exact h.small x hx y hy
    · obtain rfl : x = (List.range S.length).map row := by simpa using hx
      obtain ⟨g, hg2, rfl⟩ := List.mem_map.1 hy
      have h1 := sumN_part hr.nn S.length g (List.mem_range.1 hg2)
      have h2 := hr.nn g
      omega
  · rw [List.length_append, List.length_singleton] at hi
    by_cases e : i < X.length
    · rw [fX_app_old e]
      exact h.good i e g hg2 hgi
    · obtain rfl : i = X.length := by omega
      rw [fX_app_new hg2]
      exact hr.no g (by omega)
  · rw [List.length_append, List.length_singleton, sumT, sumT_app _ (Nat.le_refl _), h.full_, sumN_congr S.length fun g hg2 => fX_app_new hg2, Bool.not_or]
    congr 1
    by_cases e : want = 0
    · rw [decide_eq_true e, decide_eq_false (show ¬ mAt O X.length - sumN (fun i => row i) S.length ≠ 0 by have : sumN (fun i => row i) S.length = sumN row S.length := rfl; omega)]
      rfl
    · rw [decide_eq_false e, decide_eq_true (show mAt O X.length - sumN (fun i => row i) S.length ≠ 0 by have : sumN (fun i => row i) S.length = sumN row S.length := rfl; omega)]
      rfl
  · have h1 := h.left_ g hg2
    have h2 := hr.left_ g hg2
    refine ⟨h2.1, ?_⟩
    have h3 : gotP (X ++ [(List.range S.length).map row]) (X ++ [(List.range S.length).map row]).length g = gotP X X.length g + row g := by
      rw [List.length_append, List.length_singleton]
      show sumN _ (X.length + 1) = _
      rw [sumN, fX_app_new hg2]
      congr 1
      exact sumN_congr _ fun i hi => fX_app_old hi g
    rw [h3]
    omega
/-- What the fill is. -/
theorem FilOk.err {S P : List Int} {O : List Od} {X : List (List Int)} {left : Nat → Int} {full : Bool} (h : FilOk S O X left full) (he : shopE S P O = 0) (hl : X.length = O.length) : Sized S.length O X ∧ fillE S P O X = if full then 0 else 14 := by
  have hs : Sized S.length O X := ⟨hl, h.row, h.small⟩
  refine ⟨hs, ?_⟩
  have hp : poorT S.length O X X.length = false := by
    rw [Bool.eq_false_iff]
    intro hp
    obtain ⟨i, hi, h1⟩ := (poorT_iff _).1 hp
    obtain ⟨g, hg, h2, h3⟩ := (poorR_iff i _).1 h1
    have := h.good i hi g hg h3
    omega
  have ho : overT (stockM S) (gotX X) S.length = false := by
    rw [Bool.eq_false_iff]
    intro hp
    obtain ⟨g, hg, h1⟩ := (overT_iff _ _ _).1 hp
    have h2 := h.left_ g hg
    have h3 : gotX X g = gotP X X.length g := rfl
    omega
  unfold fillE
  rw [sizeE_of he hs, if_neg (fun h => h rfl), hp, ho, h.full_]
  cases sumT S.length O X X.length <;> rfl
/-! ### The walk -/
/-- A row and what is left, while one row is filled. -/
structure FR (Wr W : World) (B LB cL : Nat) (n : Nat) (left row : Nat → Int) : Prop where
  gr : Wr.grownBy W (some LB)
  lf : W.ownsRow B 2 1 (.slice (some ⟨LB, 0, none⟩) n cL) n (((List.range n).map left).map (Value.int .i64))
  rw_ : Blk W Wr.heap.size 2 (numArr n row)
section
variable {Wr W W' : World} {B LB cL n : Nat} {left row : Nat → Int}
theorem FR.later (h : FR Wr W B LB cL n left row) (hb : Below W.heap.size W W') : FR Wr W' B LB cL n left row :=
  ⟨⟨hb.os.trans h.gr.os, hb.tape.trans h.gr.tape, hb.output.trans h.gr.output, Nat.le_trans h.gr.size hb.size, fun k hk hne => (hb.block k (Nat.lt_of_lt_of_le hk h.gr.size)).trans (h.gr.block k hk hne)⟩, own_later h.lf hb, h.rw_.later hb⟩
theorem FR.leftAt (h : FR Wr W B LB cL n left row) {g : Nat} (hg : g < n) : W.cell? ⟨LB, g, none⟩ = some (.int .i64 (left g)) := by
  rw [h.lf.cellAt g (by omega), List.getElem?_map, List.getElem?_map, List.getElem?_range hg]
  rfl
theorem set_left (left : Nat → Int) (g : Nat) (v : Int) : ((((List.range n).map left).map (Value.int .i64)).set g (.int .i64 v)) = ((List.range n).map (Gr9.upd left g v)).map (Value.int .i64) := by
  rw [← List.map_set]
  congr 1
  apply List.ext_getElem
  · simp
  · intro i h1 h2
    simp only [List.getElem_set, List.getElem_map, List.getElem_range]
    unfold Gr9.upd
    by_cases e : g = i
    · subst e; simp
    · rw [if_neg e, if_neg (fun h => e h.symm)]
theorem FR.setRow (h : FR Wr W B LB cL n left row) (hne : LB ≠ Wr.heap.size) (g : Nat) (v : Int) : FR Wr (W.setCell ⟨Wr.heap.size, g, none⟩ (.int .i64 v)) B LB cL n left (Gr9.upd row g v) := by
  refine ⟨⟨h.gr.os, h.gr.tape, h.gr.output, by simpa using h.gr.size, fun k hk hk2 => (Below.heap_setCell W _ _ k (by show k ≠ Wr.heap.size; omega)).trans (h.gr.block k hk hk2)⟩, own_other h.lf _ (by simp only [Value.ownBlock]; intro e; cases e; exact hne rfl) _, ?_⟩
  have h1 := h.rw_.set g (.int .i64 v)
  rw [numArr_set] at h1
  exact h1
theorem FR.setLeft (h : FR Wr W B LB cL n left row) (hne : LB ≠ Wr.heap.size) (g : Nat) (v : Int) : FR Wr (W.setCell ⟨LB, g, none⟩ (.int .i64 v)) B LB cL n (Gr9.upd left g v) row := by
  have h2 := (h.lf.stored g (.int .i64 v)).1
  rw [set_left] at h2
  exact ⟨⟨h.gr.os, h.gr.tape, h.gr.output, by simpa using h.gr.size, fun k hk hk2 => (Below.heap_setCell W _ _ k (by intro e; exact hk2 (by rw [e]))).trans (h.gr.block k hk hk2)⟩, h2, h.rw_.other hne _⟩
end
/-- Rows that do not lie in a block stay when it is written. -/
theorem OutW.grownBy {W W' : World} {B LB : Nat} {v : Value} {L : List Rw} (h : OutW W B v L) (hg : W.grownBy W' (some LB)) (hB : LB < B) : OutW W' B v L :=
  ⟨own_grown h.own hg (fun g e e2 => by have := own_base h.own g e; cases e2; omega), fun r hr => ⟨own_grown (h.rows r hr).1 hg (fun g e e2 => by have := own_base (h.rows r hr).1 g e; cases e2; omega), (h.rows r hr).2⟩⟩
theorem blk_own {W : World} {B b n : Nat} {F : Nat → Int} (h : Blk W b 2 (numArr n F)) (hB : B ≤ b) (hn : n ≤ 1000) : W.ownsRow B 2 1 (.slice (some ⟨b, 0, none⟩) n n) n (((List.range n).map F).map (Value.int .i64)) := by
  rw [numArr_eq] at h
  refine ⟨by simp, .inr ⟨b, n, _, rfl, hB, h, Nat.le_refl _, by simp only [maxLen]; omega, by simp, ?_⟩⟩
  exact List.take_of_length_le (by simp)
theorem GW.by_ {w W W' : World} {SA : Option Addr} {sn sc : Nat} {PA : Option Addr} {pn pc : Nat} {OA : Option Addr} {on oc : Nat} {S P : List Int} {O : List Od} {LB : Nat} (hs : ShopIn w w.heap.size SA sn sc PA pn pc OA on oc S P O) (h : GW w W w.heap.size SA sn sc PA pn pc OA on oc S P O) (hg : W.grownBy W' (some LB)) (hL : w.heap.size + 1 ≤ LB) : GW w W' w.heap.size SA sn sc PA pn pc OA on oc S P O := by
  have hb : Below w.heap.size w W' := h.bel.trans ⟨hg.os, hg.tape, hg.output, hg.size, fun k hk => hg.block k (by have := h.bel.size; omega) (fun e => by cases e; omega)⟩
  exact ⟨hb, h.b0.grown hg (fun e => by cases e; omega), hs.later hb⟩
theorem stock_list (S : List Int) : (List.range S.length).map (stockM S) = S := by
  apply List.ext_getElem
  · simp
  · intro i h1 h2
    simp only [List.getElem_map, List.getElem_range]
    exact stockM_at (List.getElem?_eq_getElem h2)
/-- While orders are filled. -/
structure FI (w W : World) (RB LB cL : Nat) (SA : Option Addr) (sn sc : Nat) (PA : Option Addr) (pn pc : Nat) (OA : Option Addr) (on oc : Nat) (S P : List Int) (O : List Od) (v : Value) (L : List Rw) (left : Nat → Int) (full : Bool) : Prop where
  gw : GW w W w.heap.size SA sn sc PA pn pc OA on oc S P O
  out : OutW W RB v L
  lf : W.ownsRow (w.heap.size + 1) 2 1 (.slice (some ⟨LB, 0, none⟩) S.length cL) S.length (((List.range S.length).map left).map (Value.int .i64))
  ok : FilOk S O (rowsX L) left full
  rb : RB ≤ W.heap.size
/-- A number that can be taken. -/
def MinV (want left : Int) (v : Value) (_ : World) : Prop := ∃ x : Int, v = .int .i64 x ∧ 0 ≤ x ∧ x ≤ want ∧ x ≤ left
set_option maxRecDepth 100000 in
set_option maxHeartbeats 16000000 in
theorem filled_any (SA : Option Addr) (sn sc : Nat) (PA : Option Addr) (pn pc : Nat) (OA : Option Addr) (on oc : Nat) (S P : List Int) (O : List Od) (BA : Option Addr) (bn bc : Nat) (bs : List Nat) (w : World) (hs : ShopIn w w.heap.size SA sn sc PA pn pc OA on oc S P O) (hbs : Sl 1 encB w w.heap.size BA bn bc bs) (hbd : ∀ x ∈ bs, x < 256) (hb50 : bn ≤ 50) (he : shopE S P O = 0) : Calls Try.prog 45 #[.agg #[.slice SA sn sc, .slice PA pn pc, .slice OA on oc], .slice BA bn bc] w fun e w' => ∃ A c L, e = .returned (.tuple #[.slice A O.length c, .bool (decide (fillE S P O (rowsX L) = 0))]) ∧ Below w.heap.size w w' ∧ FillIn w' A O.length c L ∧ Sized S.length O (rowsX L) ∧ (fillE S P O (rowsX L) = 0 ∨ fillE S P O (rowsX L) = 14) := by
  have Hs := Lib.hid hs
  obtain rfl := hs.stk.len
  obtain rfl := hs.prc.len
  obtain rfl := hs.ord.len
  have HG0 := Lib.hid (GW.start hs)
  obtain ⟨g0, g1, g2, g3⟩ := HG0.out.cells
  have hF := fine_of he
  have HF := Lib.hid hF
  have He := Lib.hid he
  have n5 := hF.n5
  have n1 := hF.n1
  have o8 := hF.o8
  have Hbs := Lib.hid hbs
  have Hbd := Lib.hid hbd
  clear hs hbs hbd he hF
  go_enter Try.func45, Try.ntmps45
  go_wp2_with fail
  refine dag 5 (by kernel_rfl) (by kernel_rfl) (.is (.slice none 0 0) :: .is ?_ :: .is ?_ :: .like (RowI (w.heap.size + 1) S) :: .like (RowI (w.heap.size + 1) S) :: []) rfl ?st1 ?ob1
  case st1 => repeat (first | exact stab_nil | refine stab_is ?_ | refine stab_like RowI.stab ?_)
  case ob1 =>
  intro env V hG
  obtain ⟨hc, hf⟩ := bcell hG
  have HG1 := Lib.hid (HG0.out.later hG)
  refine obls_is ?_ ?_
  · unfold doesAt
    go_simp
    refine (longs_any _ _ _ V).mono ?_
    rintro e w1 ⟨rfl, hb1⟩
    (exact ⟨rfl, hb1⟩)
  intro K hK
  go_simp
  refine hK _ ?_
  clear hK K
  iterate 2 (refine obls_is ?_ ?_; unfold doesAt; go_simp; (try go_bits); (first | (refine ⟨brefl _, ?_⟩; rfl) | rfl); intro K hK; go_simp; refine hK _ ?_; clear hK K)
  refine obls_like (fun _ => ?_) ?_
  · refine app_of_run rfl (.tmp 16) (.tmp 18) 22 rfl rfl rfl ?_
    obtain ⟨i0, hi0, hz0, hz1, hz2⟩ := info_parts info_long
    obtain ⟨b, o, hA, _, _⟩ := HG1.out.sh.stk.at_ (by omega)
    subst hA
    obtain ⟨v', W', e1, e2, e3, _⟩ := run_append_own (P := Try.prog) V (w.heap.size + 1) 22 _ 2 i0 (.int .i64 0) 1 8 und_longs hi0 hz0 hz1 hz2 rfl (by decide) (.slice none 0 0) 0 [] (World.ownsRow_nil V _ 2 1) ⟨b, o, none⟩ S.length sc (S.map (Value.int .i64)) (by simp) (sl_news HG1.out.sh.stk (by omega)) (by simp [Value.oneCell']) (by simp only [maxLen]; omega) (by omega) HG1.out.b0.lt
    exact ⟨v', W', e1, ⟨e3.os, e3.tape, e3.output, e3.size, fun k hk => e3.block k hk (by simp [Value.ownBlock])⟩, by unfold RowI; simpa using e2⟩
  intro K hK
  go_simp
  refine hK _ ?_
  clear hK K
  refine obls_like (fun hl => ?_) ?_
  · have h3 : RowI (w.heap.size + 1) S (env 3) V := hl ⟨3, .data⟩ (by simp) rfl
    unfold doesAt
    go_simp
    exact brefl V
  intro K hK
  go_simp
  refine hK _ ?_
  clear hK K
  refine obls_nil (fun hok => ?_)
  have h4 : RowI (w.heap.size + 1) S (env 4) V := hok 4 _ rfl
  unfold RowI at h4
  obtain ⟨n', hn'⟩ : ∃ n', S.length = n' + 1 := ⟨S.length - 1, by omega⟩
  have h4' := h4
  rw [hn'] at h4'
  obtain ⟨LB, cL, hE⟩ := own_succ h4'
  rw [← hn'] at hE
  rw [hE] at h4 ⊢
  have HLB := Lib.hid (show w.heap.size + 1 ≤ LB ∧ LB < V.heap.size from ⟨own_base h4 LB rfl, own_lt h4 LB rfl⟩)
  have hst : S.map (Value.int .i64) = ((List.range S.length).map (stockM S)).map (Value.int .i64) := by rw [stock_list]
  rw [hst] at h4
  have HI0 := Lib.hid (show FI w V V.heap.size LB cL SA S.length sc PA P.length pc OA O.length oc S P O (.slice none 0 0) [] (stockM S) true from ⟨HG1.out, ⟨World.ownsRow_nil _ _ _ _, fun r hr => by cases hr⟩, h4, FilOk.start HF.out.stk (by omega), Nat.le_refl _⟩)
  obtain ⟨RB, hRB⟩ : ∃ RB, V.heap.size = RB := ⟨_, rfl⟩
  rw [hRB] at HI0 HLB
  clear hRB h4 h4' hn' hE hst hok hG hc hf HG0 HG1 g0 g1 g2 g3
  go_wp2_with fail
  refine loop_n (fun m b W => b.defers = [] ∧ ∃ (i : Nat) (v : Value) (L : List Rw) (left : Nat → Int) (full : Bool) (at_ : Nat), i + m = O.length ∧ L.length = i ∧ at_ ≤ 10 * i ∧ Hid (FI w W RB LB cL SA S.length sc PA P.length pc OA O.length oc S P O v L left full) ∧ Fits (none :: some (.slice BA bn bc) :: some (.pointer (some ⟨w.heap.size, 0, none⟩)) :: none :: none :: none :: some (.slice (some ⟨LB, 0, none⟩) S.length cL) :: some (v) :: some (.bool full) :: some (.int .i64 (at_ : Nat)) :: some (.int .i64 (i : Nat)) :: none :: none :: none :: none :: none :: none :: none :: none :: none :: none :: none :: none :: none :: none :: none :: none :: none :: none :: none :: none :: none :: none :: none :: none :: none :: none :: none :: none :: none :: none :: none :: none :: none :: none :: none :: none :: none :: none :: none :: none :: none :: none :: none :: none :: none :: none :: none :: none :: none :: none :: none :: none :: none :: none :: none :: none :: none :: none :: none :: none :: none :: none :: none :: none :: none :: none :: none :: none :: none :: none :: none :: none :: none :: none :: none :: none :: none :: none :: none :: none :: none :: none :: none :: none :: none :: none :: none :: none :: none :: none :: none :: none :: none :: none :: none :: none :: none :: none :: none :: none :: []) b.tmps.toList) O.length ?_ ?_
  · refine ⟨rfl, 0, _, [], _, true, 0, by omega, rfl, by omega, HI0, ?_⟩
    repeat (first | exact fits_nil | refine fits_none ?_ | refine fits_some ?_)
  clear HI0
  clear V
  intro m b W hI K hK
  obtain ⟨hds, i, v, L, left0, full, at0, him, hLi, hat, HI, hfit⟩ := hI
  obtain ⟨f, hf⟩ := fits_act hfit
  rw [hds] at hf
  subst hf
  clear hfit hds
  simp only [fillP, Nat.reduceAdd]
  obtain ⟨g0, g1, g2, g3⟩ := HI.out.gw.cells
  by_cases hlt : i < O.length
  · obtain ⟨ob, oo, u, rfl, hob, hu, q0, q1⟩ := HI.out.gw.sh.ord.ltO (i := i) hlt
    have hu1 := HF.out.ord u (List.mem_of_getElem? hu)
    obtain ⟨gr, hgr⟩ : ∃ gr : Nat, u.g = (gr : Int) := ⟨u.g.toNat, by omega⟩
    have i1 : (i : Int) < (O.length : Int) := by omega
    have i2 : (0 : Int) ≤ (i : Int) := by omega
    have i3 : IntKind.i64.wrap ((i : Int) + 1) = (i : Int) + 1 := by rw [IntKind.wrap_i64]; omega
    have hmk := make_longs S.length (by omega) W
    have Hi := Lib.hid (show i + m = O.length ∧ i < O.length ∧ L.length = i ∧ at0 ≤ 10 * i from ⟨him, hlt, hLi, hat⟩)
    have Hgr := Lib.hid (show gr < S.length ∧ u.g = (gr : Int) ∧ gAt O i = (gr : Int) ∧ mAt O i = u.m ∧ 0 ≤ u.m ∧ u.m ≤ 20 from ⟨by omega, hgr, by rw [gAt_eq hu, hgr], mAt_eq hu, hu1.2.1, hu1.2.2⟩)
    have Hu := Lib.hid hu
    have HFR0 := Lib.hid (show FR W (W.alloc (.cells (numArr S.length (fun _ => 0)) 2)) (w.heap.size + 1) LB cL S.length left0 (fun _ => 0) from ⟨⟨rfl, rfl, rfl, by simp, fun k hk _ => (balloc (brefl W) (.cells (numArr S.length (fun _ => 0)) 2)).block k hk⟩, own_later HI.out.lf (balloc (brefl W) _), Blk.new W _ _⟩)
    have HR0 := Lib.hid (show RowOk S gr (mAt O i) (fun _ => 0) left0 left0 u.m from ⟨fun _ => Int.le_refl _, fun _ _ => rfl, by rw [show sumN (fun _ => 0) S.length = 0 by rw [sumN_pre]; exact Gr9.pre_zero _, mAt_eq hu]; omega, hu1.2.1, fun g hg => by have := HI.out.ok.left_ g hg; omega⟩)
    have HWs := Lib.hid (show LB ≠ W.heap.size ∧ w.heap.size < W.heap.size from ⟨by have := HI.out.rb; have := HLB.out; omega, HI.out.gw.b0.lt⟩)
    have hrb := HI.out.rb
    have q2 : ob < W.heap.size + 1 := by omega
    have q3 : W.heap.size ≠ ob := by omega
    clear him hlt hLi hat hu hu1 hgr
    go_wp2_with fail
    refine loop_n (fun p b Wx => b.defers = [] ∧ ∃ (r : Nat) (row left : Nat → Int) (want : Int) (at_ : Nat), r + p = 2 ∧ at_ ≤ 10 * i + 5 * r ∧ Hid (FR W Wx (w.heap.size + 1) LB cL S.length left row) ∧ Hid (RowOk S gr (mAt O i) row left0 left want) ∧ Fits (none :: some (.slice BA bn bc) :: some (.pointer (some ⟨w.heap.size, 0, none⟩)) :: none :: none :: none :: some (.slice (some ⟨LB, 0, none⟩) S.length cL) :: some (v) :: some (.bool full) :: some (.int .i64 (at_ : Nat)) :: some (.int .i64 (i : Nat)) :: some (.slice (some ⟨W.heap.size, 0, none⟩) S.length S.length) :: some (.int .i64 want) :: some (.int .i64 (r : Nat)) :: none :: none :: none :: none :: none :: none :: none :: none :: none :: none :: none :: none :: none :: none :: none :: none :: none :: none :: none :: none :: none :: none :: none :: none :: none :: none :: none :: none :: none :: none :: none :: none :: none :: none :: none :: none :: none :: none :: none :: none :: none :: none :: none :: none :: none :: none :: none :: none :: none :: none :: none :: none :: none :: none :: none :: none :: none :: none :: none :: none :: none :: none :: none :: none :: none :: none :: none :: none :: none :: none :: none :: none :: none :: none :: none :: none :: none :: none :: none :: none :: none :: none :: none :: none :: none :: none :: none :: none :: none :: none :: none :: none :: none :: none :: none :: none :: none :: []) b.tmps.toList) 2 ?_ ?_
    · refine ⟨rfl, 0, _, left0, u.m, at0, by omega, by have := Hi.out; omega, HFR0, HR0, ?_⟩
      repeat (first | exact fits_nil | refine fits_none ?_ | refine fits_some ?_)
    clear HFR0 HR0 hmk g0 g1 g2 g3 q0 q1 q2 q3 hob hrb
    intro p b Wx hI K2 hK2
    obtain ⟨hds, r, row, left, want, at1, hrp, hat, HFR, HRo, hfit⟩ := hI
    obtain ⟨f2, hf2⟩ := fits_act hfit
    rw [hds] at hf2
    subst hf2
    clear hfit hds
    simp only [fillP, Nat.reduceAdd]
    have hil := Hi.out
    by_cases hlt : r < 2
    · have r1 : (r : Int) < 2 := by omega
      have r3 : IntKind.i64.wrap ((r : Int) + 1) = (r : Int) + 1 := by rw [IntKind.wrap_i64]; omega
      have Hr := Lib.hid (show r + p = 2 ∧ r < 2 from ⟨hrp, hlt⟩)
      clear hrp hlt
      go_wp2_with fail
      refine loop_n (fun q b Wx => b.defers = [] ∧ ∃ (g : Nat) (row left : Nat → Int) (want : Int) (at_ : Nat), g + q = gr + 1 ∧ at_ ≤ 10 * i + 5 * r + g ∧ Hid (FR W Wx (w.heap.size + 1) LB cL S.length left row) ∧ Hid (RowOk S gr (mAt O i) row left0 left want) ∧ Fits (none :: some (.slice BA bn bc) :: some (.pointer (some ⟨w.heap.size, 0, none⟩)) :: none :: none :: none :: some (.slice (some ⟨LB, 0, none⟩) S.length cL) :: some (v) :: some (.bool full) :: some (.int .i64 (at_ : Nat)) :: some (.int .i64 (i : Nat)) :: some (.slice (some ⟨W.heap.size, 0, none⟩) S.length S.length) :: some (.int .i64 want) :: some (.int .i64 (r : Nat)) :: some (.int .i64 (g : Nat)) :: none :: none :: none :: none :: none :: none :: none :: none :: none :: none :: none :: none :: none :: none :: none :: none :: none :: none :: none :: none :: none :: none :: none :: none :: none :: none :: none :: none :: none :: none :: none :: none :: none :: none :: none :: none :: none :: none :: none :: none :: none :: none :: none :: none :: none :: none :: none :: none :: none :: none :: none :: none :: none :: none :: none :: none :: none :: none :: none :: none :: none :: none :: none :: none :: none :: none :: none :: none :: none :: none :: none :: none :: none :: none :: none :: none :: none :: none :: none :: none :: none :: none :: none :: none :: none :: none :: none :: none :: none :: none :: none :: none :: none :: none :: none :: none :: []) b.tmps.toList) (gr + 1) ?_ ?_
      · refine ⟨rfl, 0, row, left, want, at1, by omega, by have := Hr.out; omega, HFR, HRo, ?_⟩
        repeat (first | exact fits_nil | refine fits_none ?_ | refine fits_some ?_)
      clear HFR HRo hat
      clear Wx row left want at1
      intro q b Wx hI K3 hK3
      obtain ⟨hds, g, row, left, want, at1, hgq, hat, HFR, HRo, hfit⟩ := hI
      obtain ⟨f3, hf3⟩ := fits_act hfit
      rw [hds] at hf3
      subst hf3
      clear hfit hds
      simp only [fillP, Nat.reduceAdd]
      have hgw := HI.out.gw.by_ Hs.out HFR.out.gr HLB.out.1
      obtain ⟨g0, g1, g2, g3⟩ := hgw.cells
      obtain ⟨ob2, oo2, u2, hA2, hob2, hu2, q0, -⟩ := hgw.sh.ord.ltO (i := i) Hi.out.2.1
      simp only [Option.some.injEq, Addr.mk.injEq, and_true] at hA2
      obtain ⟨rfl, rfl⟩ := hA2
      rw [Hu.out] at hu2
      cases hu2
      rw [Hgr.out.2.1] at q0
      have i1 : (i : Int) < (O.length : Int) := by omega
      have i2 : (0 : Int) ≤ (i : Int) := by omega
      by_cases hlt : g < gr + 1
      · have hgn : g < S.length := by have := Hgr.out; omega
        have c0 := HFR.out.leftAt hgn
        have c1 := HFR.out.lf.frozenAt g
        have c2 := own_lt HFR.out.lf LB rfl
        have d0 := (HFR.out.rw_.cell g).trans (numArr_get hgn)
        have d1 := HFR.out.rw_.frozen g
        have d2 := HFR.out.rw_.lt
        have hl0 := HRo.out.left_ g hgn
        have hl1 := HI.out.ok.left_ g hgn
        have hst50 := stockM_bound HF.out.stk (by omega) g
        have hrw := sumN_part HRo.out.nn S.length g hgn
        have hrn := HRo.out.nn g
        have hsu := HRo.out.sum
        have hwa := HRo.out.want_
        have hgg := Hgr.out
        have hgp := gotP_bound HI.out.ok.small g (rowsX L).length
        have g4 : (g : Int) ≤ (gr : Int) := by omega
        have g5 : (0 : Int) ≤ (g : Int) := by omega
        have g6 : (g : Int) < (S.length : Int) := by omega
        have g7 : IntKind.i64.wrap ((g : Int) + 1) = (g : Int) + 1 := by rw [IntKind.wrap_i64]; omega
        have hb1 : 0 ≤ left g ∧ left g ≤ 50 := by omega
        have hb2 : 0 ≤ row g ∧ row g ≤ 20 := by omega
        have hb3 : 0 ≤ want ∧ want ≤ 20 := by
          have := sumN_part HRo.out.nn S.length g hgn
          omega
        have Hb := Lib.hid (show (0 ≤ left g ∧ left g ≤ 50) ∧ (0 ≤ row g ∧ row g ≤ 20) ∧ 0 ≤ want ∧ want ≤ 20 from ⟨hb1, hb2, hb3⟩)
        have Hg := Lib.hid (show g + q = gr + 1 ∧ g ≤ gr ∧ g < S.length ∧ at1 ≤ 10 * i + 5 * r + g from ⟨hgq, by omega, hgn, hat⟩)
        have a1 : IntKind.i64.wrap ((at1 : Int) + 1) = (at1 : Int) + 1 := by have := Hr.out; rw [IntKind.wrap_i64]; omega
        have hne := HWs.out.1
        obtain ⟨nm, hnm⟩ : ∃ nm, min want (left g) = nm := ⟨_, rfl⟩
        have hm1 : (if left g < want then left g else want) = nm := by rw [← hnm]; split <;> omega
        have hm2 : (if want < left g then want else left g) = nm := by rw [← hnm]; split <;> omega
        have Hnm := Lib.hid (show 0 ≤ nm ∧ nm ≤ want ∧ nm ≤ left g by omega)
        clear hgq hlt hgn hl0 hl1 hst50 hrw hrn hsu hwa hgg hgp hb1 hb2 hb3 hat hnm hgw hob2
        by_cases hr0 : r = 0
        case neg =>
          have r4 : ((r : Int) == 0) = false := by rw [beq_eq_false_iff_ne]; omega
          have r5 : ¬ r = 0 := hr0
          have hn := Hnm.out
          have s1 : IntKind.i64.wrap (row g + nm) = row g + nm := by have := Hb.out; rw [IntKind.wrap_i64]; omega
          have s2 : IntKind.i64.wrap (left g - nm) = left g - nm := by have := Hb.out; rw [IntKind.wrap_i64]; omega
          have s3 : IntKind.i64.wrap (want - nm) = want - nm := by have := Hb.out; rw [IntKind.wrap_i64]; omega
          have HFa := Lib.hid ((HFR.out.setRow hne g (row g + nm)).setLeft hne g (left g - nm))
          have HRn := Lib.hid (show RowOk S gr (mAt O i) (Gr9.upd row g (row g + nm)) left0 (Gr9.upd left g (left g - nm)) (want - nm) by simpa using HRo.out.step Hg.out.2.2.1 Hg.out.2.1 hn)
          have hne2 : W.heap.size ≠ LB := Ne.symm hne
          clear hn
          go_wp2_with fail
          go_region
          all_goals
            go_wp2_with fail
            refine hK3 _ _ (q - 1) (by have := Hg.out; omega) ⟨rfl, g + 1, _, _, want - nm, at1, by have := Hg.out; omega, by have := Hg.out; omega, Lib.hid (HFa.out.later (brefl _).drew), HRn, ?_⟩
            repeat (first | exact fits_nil | refine fits_none ?_ | refine fits_some ?_)
        case pos =>
          subst hr0
          by_cases hb0 : bn = 0
          · have b1 : ¬ ((0 : Int) < (bn : Int)) := by omega
            have hn : 0 ≤ (0 : Int) ∧ 0 ≤ want ∧ 0 ≤ left g := by have := Hnm.out; omega
            clear hb0
            have s1 : IntKind.i64.wrap (row g) = row g := by have := Hb.out; rw [IntKind.wrap_i64]; omega
            have s2 : IntKind.i64.wrap (left g) = left g := by have := Hb.out; rw [IntKind.wrap_i64]; omega
            have s3 : IntKind.i64.wrap (want) = want := by have := Hb.out; rw [IntKind.wrap_i64]; omega
            have HFa := Lib.hid ((HFR.out.setRow hne g (row g)).setLeft hne g (left g))
            have HRn := Lib.hid (show RowOk S gr (mAt O i) (Gr9.upd row g (row g)) left0 (Gr9.upd left g (left g)) (want) by simpa using HRo.out.step Hg.out.2.2.1 Hg.out.2.1 hn)
            have hne2 : W.heap.size ≠ LB := Ne.symm hne
            clear hn
            go_wp2_with fail
            go_region
            all_goals
              go_wp2_with fail
              refine hK3 _ _ (q - 1) (by have := Hg.out; omega) ⟨rfl, g + 1, _, _, want, at1, by have := Hg.out; omega, by have := Hg.out; omega, Lib.hid (HFa.out.later (brefl _).drew), HRn, ?_⟩
              repeat (first | exact fits_nil | refine fits_none ?_ | refine fits_some ?_)
          · have b1 : (0 : Int) < (bn : Int) := by omega
            obtain ⟨kk, hkk⟩ : ∃ kk, at1 % bn = kk := ⟨_, rfl⟩
            have hkl : kk < bn := by rw [← hkk]; exact Nat.mod_lt _ (by omega)
            obtain ⟨bb, bo, y, rfl, hbb, hy, y0⟩ := (Hbs.out.later (HI.out.gw.by_ Hs.out HFR.out.gr HLB.out.1).bel).ltB hkl
            have hyn := Hbd.out y (List.mem_of_getElem? hy)
            obtain ⟨z, hz⟩ : ∃ z, y % 8 = z := ⟨_, rfl⟩
            have e1 : (at1 : Int).tmod (bn : Int) = (kk : Int) := by rw [Int.tmod_eq_emod_of_nonneg (by omega), ← hkk]; rfl
            have e2 : (bn : Int) ≠ 0 := by omega
            have e3 : (kk : Int) < (bn : Int) := by omega
            have e4 : (0 : Int) ≤ (kk : Int) := by omega
            have e5 : IntKind.i64.wrap (kk : Int) = (kk : Int) := by rw [IntKind.wrap_i64]; omega
            have e6 : (y : Int).tmod 8 = (z : Int) := by rw [Int.tmod_eq_emod_of_nonneg (by omega), ← hz]; rfl
            have hz8 : z < 8 := by rw [← hz]; exact Nat.mod_lt _ (by omega)
            have e7 : IntKind.u8.wrap (z : Int) = (z : Int) := by rw [IntKind.wrap_u8]; omega
            have e8 : IntKind.i64.wrap (z : Int) = (z : Int) := by rw [IntKind.wrap_i64]; omega
            have hnm := Hnm.out
            have e9 : ¬ bn = 0 := hb0
            clear hb0 hy hyn hkk hz
            go_wp2_with fail
            refine dag 16 (by kernel_rfl) (by kernel_rfl) (.is ?_ :: .is ?_ :: .is ?_ :: .is ?_ :: .is ?_ :: .is ?_ :: .is ?_ :: .is ?_ :: .is ?_ :: .is ?_ :: .is ?_ :: .is ?_ :: .is ?_ :: .is ?_ :: .like (MinV want (left g)) :: .like (MinV want (left g)) :: []) rfl ?st7 ?ob7
            case st7 => repeat (first | exact stab_nil | refine stab_is ?_ | refine stab_like (R := MinV want (left g)) (fun _ _ _ _ h => h) ?_)
            case ob7 =>
            intro env7 V7 hG
            obtain ⟨hc, hf⟩ := bcell hG
            have HFR7 := Lib.hid (HFR.out.later hG)
            have HG7 := Lib.hid hG
            iterate 14 (refine obls_is ?_ ?_; unfold doesAt; go_simp; (try go_bits); (first | (refine ⟨brefl _, ?_⟩; rfl) | rfl); intro K hK; go_simp; refine hK _ ?_; clear hK K)
            refine obls_like (fun _ => ?_) ?_
            · unfold doesAt
              go_simp
              refine ⟨brefl _, _, rfl, ?_, ?_, ?_⟩ <;> (repeat' split) <;> omega
            intro K hK
            go_simp
            refine hK _ ?_
            clear hK K
            refine obls_like (fun hl => ?_) ?_
            · have h14 : MinV want (left g) (env7 14) V7 := hl ⟨14, .data⟩ (by simp) rfl
              unfold doesAt
              go_simp
              exact brefl _
            intro K hK
            go_simp
            refine hK _ ?_
            clear hK K
            refine obls_nil (fun hok => ?_)
            obtain ⟨nv, hE, hn⟩ : MinV want (left g) (env7 15) V7 := hok 15 _ rfl
            rw [hE]
            have HFR := HFR7
            clear hok hE hc hf hG g0 g1 g2 g3 q0 y0 c0 c1 c2 d0 d1 d2 HFR7 hbb
            have c0 := HFR.out.leftAt Hg.out.2.2.1
            have c1 := HFR.out.lf.frozenAt g
            have c2 := own_lt HFR.out.lf LB rfl
            have d0 := (HFR.out.rw_.cell g).trans (numArr_get Hg.out.2.2.1)
            have d1 := HFR.out.rw_.frozen g
            have d2 := HFR.out.rw_.lt
            have s1 : IntKind.i64.wrap (row g + nv) = row g + nv := by have := Hb.out; rw [IntKind.wrap_i64]; omega
            have s2 : IntKind.i64.wrap (left g - nv) = left g - nv := by have := Hb.out; rw [IntKind.wrap_i64]; omega
            have s3 : IntKind.i64.wrap (want - nv) = want - nv := by have := Hb.out; rw [IntKind.wrap_i64]; omega
            have HFa := Lib.hid ((HFR.out.setRow hne g (row g + nv)).setLeft hne g (left g - nv))
            have HRn := Lib.hid (show RowOk S gr (mAt O i) (Gr9.upd row g (row g + nv)) left0 (Gr9.upd left g (left g - nv)) (want - nv) by simpa using HRo.out.step Hg.out.2.2.1 Hg.out.2.1 hn)
            have hne2 : W.heap.size ≠ LB := Ne.symm hne
            clear hn
            go_wp2_with fail
            go_region
            all_goals
              go_wp2_with fail
              refine hK3 _ _ (q - 1) (by have := Hg.out; omega) ⟨rfl, g + 1, _, _, want - nv, (at1 + 1), by have := Hg.out; omega, by have := Hg.out; omega, Lib.hid (HFa.out.later (brefl _).drew), HRn, ?_⟩
              repeat (first | exact fits_nil | refine fits_none ?_ | refine fits_some ?_)
      · obtain rfl : g = gr + 1 := by omega
        have g4 : ¬ ((gr + 1 : Nat) : Int) ≤ (gr : Int) := by omega
        have hgg := Hgr.out
        clear hgq hlt hK3 hgw hob2
        go_wp2
        refine hK2 _ _ (p - 1) (by have := Hr.out; omega) ⟨rfl, r + 1, row, left, want, at1, by have := Hr.out; omega, by omega, HFR, HRo, ?_⟩
        repeat (first | exact fits_nil | refine fits_none ?_ | refine fits_some ?_)
    · obtain rfl : r = 2 := by omega
      have r1 : ¬ ((2 : Nat) : Int) < 2 := by omega
      obtain ⟨q1, hq1⟩ : ∃ q1, (want == 0) = q1 := ⟨_, rfl⟩
      have hq2 : decide (want = 0) = q1 := by rw [← hq1, Bool.eq_iff_iff]; simp
      have hgw := HI.out.gw.by_ Hs.out HFR.out.gr HLB.out.1
      have HOa := Lib.hid ((HI.out.out.grownBy HFR.out.gr HLB.out.2).later (balloc (brefl Wx) (.cells #[.slice (some ⟨W.heap.size, 0, none⟩) S.length S.length] 22)))
      have HRw := Lib.hid (own_later (blk_own (B := RB) HFR.out.rw_ HI.out.rb (by omega)) (balloc (brefl Wx) (.cells #[.slice (some ⟨W.heap.size, 0, none⟩) S.length S.length] 22)))
      have HLf := Lib.hid (own_later HFR.out.lf (balloc (brefl Wx) (.cells #[.slice (some ⟨W.heap.size, 0, none⟩) S.length S.length] 22)))
      have HGa := Lib.hid (hgw.later (balloc (brefl Wx) (.cells #[.slice (some ⟨W.heap.size, 0, none⟩) S.length S.length] 22)))
      have hil2 := HI.out.ok
      have hmi := Hgr.out
      have Hadd := Lib.hid (hil2.add (gr := gr) (want := want) (row := row) (left := left) (by rw [rows_length, Hi.out.2.2.1, hmi.2.2.2.1]; omega) (by rw [rows_length, Hi.out.2.2.1]; exact hmi.2.2.1) (by rw [rows_length, Hi.out.2.2.1]; exact HRo.out))
      rw [hq2] at Hadd
      have hrl : ((List.range S.length).map row).length = S.length := by simp
      have Hrl := Lib.hid hrl
      have HRb := Lib.hid (show RB ≤ Wx.heap.size from Nat.le_trans HI.out.rb HFR.out.gr.size)
      have hll := Hi.out
      have hrb := HRb.out
      obtain ⟨i0, hi0, hz0, hz1, hz2⟩ := info_parts info_row
      have hi3 : IntKind.i64.wrap ((i : Int) + 1) = (i : Int) + 1 := by rw [IntKind.wrap_i64]; omega
      clear hrp hlt hq2 hgw hil2 hmi hK2 hrl
      cases full with
      | true =>
        go_wp2_with (at_builtin; refine wpList_append_own _ rfl _ _ 26 rfl RB 22 i0 (.slice none 0 0) 1 24 und_rows hi0 hz0 hz1 hz2 rfl (by decide) v L.length _ rfl HOa.out.own ⟨Wx.heap.size, 0, none⟩ 1 1 [.slice (some ⟨W.heap.size, 0, none⟩) S.length S.length] rfl rfl (one_new _ _ _) (by simp [Value.oneCell']) (by simp only [maxLen]; omega) (by omega) (by simp; omega) ?_; intro v' W3 hown' hgr _; have hb4 := below_own HGa.out.bel HOa.out.own (show w.heap.size ≤ RB by have := HLB.out; omega) hgr; have HF4 := Lib.hid (show FI w W3 RB LB cL SA S.length sc PA P.length pc _ O.length oc S P O v' (L ++ [⟨some ⟨W.heap.size, 0, none⟩, S.length, S.length, (List.range S.length).map row⟩]) left (true && q1) from ⟨HGa.out.row Hs.out hb4 hgr (fun e => by have := own_base HOa.out.own _ e; have := HLB.out; omega), HOa.out.app (r := ⟨some ⟨W.heap.size, 0, none⟩, S.length, S.length, (List.range S.length).map row⟩) (by rw [Hrl.out]; exact HRw.out) Hrl.out.symm hgr hown', own_grown HLf.out hgr (own_apart (v' := v) HLf.out HOa.out.own (by decide)), by have h9 := Hadd.out; unfold rowsX at h9 ⊢; rw [List.map_append]; exact h9, by have := hgr.size; rw [World.size_alloc] at this; omega⟩); clear hown' hgr hb4)
        refine hK _ _ (m - 1) (by omega) ⟨rfl, i + 1, v', L ++ [⟨some ⟨W.heap.size, 0, none⟩, S.length, S.length, (List.range S.length).map row⟩], left, true && q1, at1, by omega, by rw [List.length_append, Hi.out.2.2.1]; rfl, by omega, HF4, ?_⟩
        repeat (first | exact fits_nil | refine fits_none ?_ | refine fits_some ?_)
      | false =>
        go_wp2_with (at_builtin; refine wpList_append_own _ rfl _ _ 26 rfl RB 22 i0 (.slice none 0 0) 1 24 und_rows hi0 hz0 hz1 hz2 rfl (by decide) v L.length _ rfl HOa.out.own ⟨Wx.heap.size, 0, none⟩ 1 1 [.slice (some ⟨W.heap.size, 0, none⟩) S.length S.length] rfl rfl (one_new _ _ _) (by simp [Value.oneCell']) (by simp only [maxLen]; omega) (by omega) (by simp; omega) ?_; intro v' W3 hown' hgr _; have hb4 := below_own HGa.out.bel HOa.out.own (show w.heap.size ≤ RB by have := HLB.out; omega) hgr; have HF4 := Lib.hid (show FI w W3 RB LB cL SA S.length sc PA P.length pc _ O.length oc S P O v' (L ++ [⟨some ⟨W.heap.size, 0, none⟩, S.length, S.length, (List.range S.length).map row⟩]) left (false && q1) from ⟨HGa.out.row Hs.out hb4 hgr (fun e => by have := own_base HOa.out.own _ e; have := HLB.out; omega), HOa.out.app (r := ⟨some ⟨W.heap.size, 0, none⟩, S.length, S.length, (List.range S.length).map row⟩) (by rw [Hrl.out]; exact HRw.out) Hrl.out.symm hgr hown', own_grown HLf.out hgr (own_apart (v' := v) HLf.out HOa.out.own (by decide)), by have h9 := Hadd.out; unfold rowsX at h9 ⊢; rw [List.map_append]; exact h9, by have := hgr.size; rw [World.size_alloc] at this; omega⟩); clear hown' hgr hb4)
        refine hK _ _ (m - 1) (by omega) ⟨rfl, i + 1, v', L ++ [⟨some ⟨W.heap.size, 0, none⟩, S.length, S.length, (List.range S.length).map row⟩], left, false && q1, at1, by omega, by rw [List.length_append, Hi.out.2.2.1]; rfl, by omega, HF4, ?_⟩
        repeat (first | exact fits_nil | refine fits_none ?_ | refine fits_some ?_)
  · obtain rfl : i = O.length := by omega
    have i1 : ¬ (O.length : Int) < (O.length : Int) := by omega
    obtain ⟨A, c, rfl, hfi⟩ := HI.out.out.fill
    obtain ⟨hsz, hfe⟩ := HI.out.ok.err (P := P) He.out (by rw [rows_length]; exact hLi)
    rw [hLi] at hfi ⊢
    have Hfi := Lib.hid hfi
    have Hsz := Lib.hid hsz
    have Hfd := Lib.hid (show decide (fillE S P O (rowsX L) = 0) = full by rw [hfe]; cases full <;> rfl)
    have Hfe := Lib.hid (show fillE S P O (rowsX L) = 0 ∨ fillE S P O (rowsX L) = 14 by rw [hfe]; cases full <;> simp)
    clear him hlt hK hfi hsz hfe
    go_wp2
    go_ret2
    exact ⟨A, c, L, by rw [Hfd.out]; rfl, HI.out.gw.bel, Hfi.out, Hsz.out, Hfe.out⟩
/-- A list of numbers that the law itself makes. -/
structure GB (w W : World) (B n : Nat) (SA : Option Addr) (sn sc : Nat) (PA : Option Addr) (pn pc : Nat) (OA : Option Addr) (on oc : Nat) (S P : List Int) (O : List Od) (F : Nat → Int) : Prop where
  gw : GW w W w.heap.size SA sn sc PA pn pc OA on oc S P O
  bk : Blk W B 2 (numArr n F)
section
variable {w W W' : World} {B n : Nat} {SA : Option Addr} {sn sc : Nat} {PA : Option Addr} {pn pc : Nat} {OA : Option Addr} {on oc : Nat} {S P : List Int} {O : List Od} {F : Nat → Int}
theorem GB.later (h : GB w W B n SA sn sc PA pn pc OA on oc S P O F) (hb : Below W.heap.size W W') : GB w W' B n SA sn sc PA pn pc OA on oc S P O F := ⟨h.gw.later hb, h.bk.later hb⟩
theorem GB.set (hs : ShopIn w w.heap.size SA sn sc PA pn pc OA on oc S P O) (h : GB w W B n SA sn sc PA pn pc OA on oc S P O F) (hB : w.heap.size < B) (g : Nat) (v : Int) : GB w (W.setCell ⟨B, g, none⟩ (.int .i64 v)) B n SA sn sc PA pn pc OA on oc S P O (Gr9.upd F g v) := by
  have hb := bset h.gw.bel (p := ⟨B, g, none⟩) (by show w.heap.size ≤ B; omega) (.int .i64 v)
  refine ⟨⟨hb, h.gw.b0.other (by show B ≠ w.heap.size; omega) _, hs.later hb⟩, ?_⟩
  have h1 := h.bk.set g (.int .i64 v)
  rw [numArr_set] at h1
  exact h1
theorem GB.sl (h : GB w W B n SA sn sc PA pn pc OA on oc S P O F) (hn : n ≤ 1000) : Sl 1 encI W W.heap.size (some ⟨B, 0, none⟩) n n ((List.range n).map F) := by
  have h1 := h.bk
  rw [numArr_eq] at h1
  exact lit_sl h1 h1.lt (by simp) hn
end
theorem fillR_snd {S P : List Int} {O : List Od} {X : List (List Int)} : (fillR S P O X).2 = fillE S P O X := by
  unfold fillR
  by_cases h : fillE S P O X = 0
  · rw [if_neg (fun h' => h' h), h]
  · rw [if_pos h]
/-- What the law's least returns first. -/
def leastN (S P : List Int) (O : List Od) : Int := if canB S.length O (stockM S) then leV S.length P O (stockM S) else 0
theorem leastN_can {S P : List Int} {O : List Od} (h : canB S.length O (stockM S) = true) : leastN S P O = leV S.length P O (stockM S) := by unfold leastN; rw [h]; rfl
/-- No proof proves more than the least cost. -/
theorem proof_le {S P : List Int} {O : List Od} {X : List (List Int)} {L : List Int} (hi : FillIs S.length O (stockM S) X) (hn : L.length = S.length) (hL : ∀ x ∈ L, 0 ≤ x ∧ x ≤ 100) : proofV S P O L ≤ leV S.length P O (stockM S) := by
  have h1 := weak_proof (P := P) hi.len hi.right hn hL
  rw [costL_leV (O := O) (M := stockM S) fun g hg => by
    have h1 := hi.got g hg
    unfold gotX gotP
    rw [sumN_pre, hi.len]
    exact h1] at h1
  exact h1
/-- The law's least, of any fine shop. -/
theorem least_both (SA : Option Addr) (sn sc : Nat) (PA : Option Addr) (pn pc : Nat) (OA : Option Addr) (on oc : Nat) (S P : List Int) (O : List Od) (w : World) (hs : ShopIn w w.heap.size SA sn sc PA pn pc OA on oc S P O) (he : shopE S P O = 0) : Calls Try.prog 44 #[.agg #[.slice SA sn sc, .slice PA pn pc, .slice OA on oc]] w fun e w' => e = .returned (.tuple #[.int .i64 (leastN S P O), .bool (canB S.length O (stockM S)), .bool true]) ∧ Below w.heap.size w w' ∧ (canB S.length O (stockM S) = true → ∃ X, FillIs S.length O (stockM S) X) := by
  cases hc : canB S.length O (stockM S) with
  | true =>
    rw [leastN_can hc]
    refine (least_ok SA sn sc PA pn pc OA on oc S P O w hs he hc).mono ?_
    rintro e w' ⟨X, rfl, hb, hX⟩
    exact ⟨rfl, hb, fun _ => ⟨X, hX⟩⟩
  | false =>
    rw [show leastN S P O = 0 by unfold leastN; rw [hc]; rfl]
    refine (least_no SA sn sc PA pn pc OA on oc S P O w hs he hc).mono ?_
    rintro e w' ⟨rfl, hb⟩
    exact ⟨rfl, hb, fun h => by cases h⟩
/-- What is given, in a fill of the right size. -/
theorem giv_bound {n : Nat} {O : List Od} {X : List (List Int)} (h : Sized n O X) (h8 : O.length ≤ 8) : ∀ x ∈ givL n X, 0 ≤ x ∧ x ≤ 1000 := fun x hx => by
  unfold givL at hx
  simp only [List.mem_map, List.mem_range] at hx
  obtain ⟨k, _, rfl⟩ := hx
  have h1 := gotP_bound h.small k X.length
  have h2 := h.len
  unfold gotX
  omega
end Go.Proofs.Ytmfiggbobaihcaa
