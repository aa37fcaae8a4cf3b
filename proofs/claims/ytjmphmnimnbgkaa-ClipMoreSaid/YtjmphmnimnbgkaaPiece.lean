/- crossbandref02.Piece and Without: a part of a ribbon; a ribbon without one of its faults. -/
import Derived.Test.YtjmphmnimnbgkaaPrices
import Derived.Test.YtjmphmnimnbgkaaConcat
import Derived.Test.YtjmphmnimnbgkaaRefPrices
import Derived.Deep.RegionLaw
namespace Go.Proofs.Ytjmphmnimnbgkaa
open Go.RowKit Go.Shelf

/-! ### Plain -/
def pieceF (fs : List Int) (a b : Int) : List Int := (fs.filter fun x => decide (a ≤ x) && decide (x < b)).map (· - a)
theorem piece_has {fs : List Int} {a b : Nat} {j : Nat} (hj : a + j < b) : (pieceF fs a b).contains (j : Int) = fs.contains ((a + j : Nat) : Int) := by
  rw [Bool.eq_iff_iff, List.contains_iff_mem, List.contains_iff_mem]
  unfold pieceF
  rw [List.mem_map]
  constructor
  · rintro ⟨x, hx, he⟩
    rw [List.mem_filter] at hx
    have : x = ((a + j : Nat) : Int) := by omega
    rw [← this]; exact hx.1
  · intro hx
    refine ⟨_, List.mem_filter.2 ⟨hx, ?_⟩, by omega⟩
    simp only [Bool.and_eq_true, decide_eq_true_eq]
    omega
theorem piece_cnt {fs : List Int} {a b : Nat} : ∀ j, a + j ≤ b → cnt (pieceF fs a b) j = cnt fs (a + j) - cnt fs a := by
  intro j
  induction j with
  | zero => intro _; rw [cnt_zero, Nat.add_zero]; omega
  | succ j ih =>
    intro h
    rw [cnt_succ, ← Nat.add_assoc, cnt_succ fs (a + j), ih (by omega), piece_has (by omega)]
    omega
theorem piece_can1 {L p : Nat} {fs : List Int} {ks : List Kd} (hk : KOk ks) (hp : p ≤ L) (i : Nat) (x : Kd) (hx : x ∈ ks) : canB p (Fst (pieceF fs (0 : Nat) p) p) x i = (canB L (Fst fs L) x i && decide ((i : Int) + x.w ≤ p)) := by
  obtain ⟨k, hxk⟩ := List.getElem?_of_mem hx
  have hb := hk.bd hxk
  rw [Bool.eq_iff_iff, Bool.and_eq_true, canB_iff, canB_iff, decide_eq_true_eq]
  constructor
  · rintro ⟨h1, h2⟩
    refine ⟨⟨by omega, ?_⟩, h1⟩
    unfold Fst at h2 ⊢
    rw [if_pos (by omega), if_pos (by omega), piece_cnt _ (by omega), piece_cnt _ (by omega), cnt_zero, Nat.zero_add, Nat.zero_add] at h2
    rw [if_pos (by omega), if_pos (by omega)]
    omega
  · rintro ⟨⟨h1, h2⟩, h3⟩
    refine ⟨h3, ?_⟩
    unfold Fst at h2 ⊢
    rw [if_pos (by omega), if_pos (by omega)] at h2
    rw [if_pos (by omega), if_pos (by omega), piece_cnt _ (by omega), piece_cnt _ (by omega), cnt_zero, Nat.zero_add, Nat.zero_add]
    omega
theorem piece_can2 {L p : Nat} {fs : List Int} {ks : List Kd} (hk : KOk ks) (hp : p ≤ L) (i : Nat) (x : Kd) (hx : x ∈ ks) : canB (L - p) (Fst (pieceF fs p L) (L - p)) x i = canB L (Fst fs L) x (p + i) := by
  obtain ⟨k, hxk⟩ := List.getElem?_of_mem hx
  have hb := hk.bd hxk
  rw [Bool.eq_iff_iff, canB_iff, canB_iff]
  constructor
  · rintro ⟨h1, h2⟩
    refine ⟨by omega, ?_⟩
    unfold Fst at h2 ⊢
    rw [if_pos (by omega), if_pos (by omega), piece_cnt _ (by omega), piece_cnt _ (by omega)] at h2
    rw [if_pos (by omega), if_pos (by omega), Nat.add_assoc]
    omega
  · rintro ⟨h1, h2⟩
    refine ⟨by omega, ?_⟩
    unfold Fst at h2 ⊢
    rw [if_pos (by omega), if_pos (by omega), Nat.add_assoc] at h2
    rw [if_pos (by omega), if_pos (by omega), piece_cnt _ (by omega), piece_cnt _ (by omega)]
    omega

/-- Of the first i faults all but one. -/
def woF (fs : List Int) (f i : Nat) : List Int := if i ≤ f then fs.take i else fs.take f ++ (fs.take i).drop (f + 1)
theorem woF_skip (fs : List Int) (f : Nat) : woF fs f (f + 1) = woF fs f f := by
  unfold woF
  rw [if_neg (by omega), if_pos (Nat.le_refl _), List.drop_eq_nil_of_le (by simp; omega), List.append_nil]
theorem woF_add {fs : List Int} {f i : Nat} {x : Int} (hx : fs[i]? = some x) (hne : i ≠ f) : woF fs f (i + 1) = woF fs f i ++ [x] := by
  obtain ⟨hi, rfl⟩ := List.getElem?_eq_some_iff.1 hx
  unfold woF
  by_cases h : i < f
  · rw [if_pos (by omega), if_pos (by omega), List.take_succ_eq_append_getElem hi]
  · rw [if_neg (by omega), if_neg (by omega), List.take_succ_eq_append_getElem hi, List.drop_append_of_le_length (by simp; omega), List.append_assoc]
theorem woF_all {fs : List Int} {f : Nat} (hf : f < fs.length) : woF fs f fs.length = fs.take f ++ fs.drop (f + 1) := by
  unfold woF
  rw [if_neg (by omega), List.take_length]
theorem woF_len (fs : List Int) (f i : Nat) : (woF fs f i).length ≤ fs.length := by
  unfold woF
  split <;> simp <;> omega
/-! ### The walks -/
structure PC (w W : World) (L : Int) (FA : Option Addr) (fn fc : Nat) (len : Int) (v : Value) (l : List Int) : Prop where
  bel : Below w.heap.size w W
  b0 : Blk W w.heap.size 24 #[.int .i64 L, .slice FA fn fc]
  b1 : Blk W (w.heap.size + 1) 24 #[.int .i64 0, .slice none 0 0]
  b2 : Blk W (w.heap.size + 1 + 1) 24 #[.int .i64 len, v]
  own : W.ownsRow w.heap.size 3 1 v l.length (l.map (.int .i64))
section
variable {w W W' : World} {L : Int} {FA : Option Addr} {fn fc : Nat} {len : Int} {v : Value} {l : List Int}
theorem PC.later (h : PC w W L FA fn fc len v l) (hb : Below W.heap.size W W') : PC w W' L FA fn fc len v l := ⟨Below.later h.bel hb, h.b0.later hb, h.b1.later hb, h.b2.later hb, own_later h.own hb⟩
theorem PC.grown {v' : Value} {x : Int} (h : PC w W L FA fn fc len v l) (hg : W.grownBy W' v.ownBlock) (ho : W'.ownsRow w.heap.size 3 1 v' (l.length + 1) (l.map (.int .i64) ++ [.int .i64 x])) :
    PC w (W'.setCell ⟨w.heap.size + 1 + 1, 1, none⟩ v') L FA fn fc len v' (l ++ [x]) := by
  have hrow : ∀ k, v.ownBlock = some k → w.heap.size ≤ k := fun k hk => (h.own.lt k hk).1
  have b2 := h.b2.grown hg (h.b2.notRow h.own (by decide))
  refine ⟨Below.setCell (h.bel.trans ⟨hg.os, hg.tape, hg.output, hg.size, fun i hi => hg.block i (by have := h.bel.size; omega) (fun e => by have := hrow i e.symm; omega)⟩) (by show w.heap.size ≤ w.heap.size + 1 + 1; omega) _,
    (h.b0.grown hg (h.b0.notRow h.own (by decide))).other (by show w.heap.size + 1 + 1 ≠ _; omega) _, (h.b1.grown hg (h.b1.notRow h.own (by decide))).other (by show w.heap.size + 1 + 1 ≠ _; omega) _, b2.set 1 _, ?_⟩
  have h5 := own_other ho ⟨w.heap.size + 1 + 1, 1, none⟩ (b2.notRow ho (by decide)) v'
  simpa using h5
end
theorem PC.new (w : World) (L : Int) (FA : Option Addr) (fn fc : Nat) (len : Int) : PC w (((w.alloc (.cells #[.int .i64 L, .slice FA fn fc] 24)).alloc (.cells #[.int .i64 0, .slice none 0 0] 24)).alloc (.cells #[.int .i64 len, .slice none 0 0] 24)) L FA fn fc len (.slice none 0 0) [] := by
  refine ⟨balloc (balloc (balloc (brefl w) _) _) _, ((Blk.new w _ _).alloc _).alloc _, ?_, ?_, World.ownsRow_nil _ _ _ _⟩
  · have h5 := (Blk.new (w.alloc (.cells #[.int .i64 L, .slice FA fn fc] 24)) 24 #[.int .i64 0, .slice none 0 0]).alloc (.cells #[.int .i64 len, .slice none 0 0] 24)
    rw [World.size_alloc] at h5
    exact h5
  · have h5 := Blk.new ((w.alloc (.cells #[.int .i64 L, .slice FA fn fc] 24)).alloc (.cells #[.int .i64 0, .slice none 0 0] 24)) 24 #[.int .i64 len, .slice none 0 0]
    rw [World.size_alloc, World.size_alloc] at h5
    exact h5

set_option maxRecDepth 100000 in
set_option maxHeartbeats 2000000 in
theorem without_any (L : Int) (FA : Option Addr) (fn fc : Nat) (fs : List Int) (f : Nat) (w : World) (hfs : Sl 1 encI w w.heap.size FA fn fc fs) (hfn : fn ≤ 40) (hf : f < fn) :
    Calls Try.prog 47 #[.agg #[.int .i64 L, .slice FA fn fc], .int .i64 f] w fun e w' => ∃ G n c, e = .returned (.agg #[.int .i64 L, .slice G n c]) ∧ Below w.heap.size w w' ∧ Sl 1 encI w' w'.heap.size G n c (fs.take f ++ fs.drop (f + 1)) := by
  have hcl := hfs.len
  have hcap := hfs.cap
  have Hfs := Lib.hid hfs
  have HP := Lib.hid (PC.new w L FA fn fc L)
  clear hfs
  go_enter Try.func47, Try.ntmps47
  go_wp2_with fail
  refine loop_n (fun m a W => a.defers = [] ∧ ∃ (i : Nat) (v : Value), i + m = fn ∧ PC w W L FA fn fc L v (woF fs f i) ∧ Fits (none :: some (.int .i64 (f : Nat)) :: some (.pointer (some ⟨w.heap.size, 0, none⟩)) :: none :: some (.pointer (some ⟨w.heap.size + 1, 0, none⟩)) :: some (.pointer (some ⟨w.heap.size + 1 + 1, 0, none⟩)) :: some (.int .i64 (i : Nat)) :: none :: none :: none :: none :: none :: none :: none :: none :: none :: none :: none :: none :: none :: none :: none :: none :: none :: none :: none :: none :: none :: none :: none :: none :: []) a.tmps.toList) fn ?_ ?_
  · refine ⟨rfl, 0, _, by omega, by unfold woF; rw [if_pos (Nat.zero_le _)]; exact HP.out, ?_⟩
    repeat (first | exact fits_nil | refine fits_none ?_ | refine fits_some ?_)
  clear HP
  intro m a W hI K hK
  obtain ⟨hds, i, v, him, hP, hfit⟩ := hI
  obtain ⟨g, hg⟩ := fits_act hfit
  rw [hds] at hg
  subst hg
  clear hfit hds
  simp only [fillP, Nat.reduceAdd]
  have c0 := hP.b0.cell 0
  have c1 := hP.b0.cell 1
  have c2 := hP.b2.cell 1
  have z0 := hP.b0.lt
  have z2 := hP.b2.lt
  by_cases hlt : i < fn
  · have i1 : (i : Int) < (fn : Int) := by omega
    have i2 : (0 : Int) ≤ (i : Int) := by omega
    have i3 : IntKind.i64.wrap ((i : Int) + 1) = (i : Int) + 1 := by rw [IntKind.wrap_i64]; omega
    obtain ⟨b, o, x, rfl, hbw, hx, _⟩ := Hfs.out.ltI hlt
    obtain ⟨b', o', x', hA', hb, hx', q0⟩ := (Hfs.out.later hP.bel).ltI hlt
    cases hA'
    rw [hx] at hx'
    cases hx'
    by_cases hif : i = f
    · have hd : ((i : Int) != (f : Int)) = false := by simp; omega
      have HP := Lib.hid (show PC w W L (some ⟨b, o, none⟩) fn fc L v (woF fs f (i + 1)) by rw [hif, woF_skip]; rw [hif] at hP; exact hP)
      clear hP hx hif
      go_wp2
      refine hK _ _ (m - 1) (by omega) ⟨rfl, i + 1, _, by omega, HP.out, ?_⟩
      repeat (first | exact fits_nil | refine fits_none ?_ | refine fits_some ?_)
    · have hd : ((i : Int) != (f : Int)) = true := by simp; omega
      have hadd := woF_add hx hif
      have hwl := woF_len fs f i
      have HP := Lib.hid hP
      have Hadd := Lib.hid hadd
      obtain ⟨i0, hi0, hz0, hz1, hz2⟩ := info_parts info_int
      have zbel := hP.bel.size
      have hvb : v.ownBlock ≠ some b := fun e => by have := (HP.out.own.lt b e).1; omega
      have hv0 : v.ownBlock ≠ some w.heap.size := HP.out.b0.notRow HP.out.own (by decide)
      have hv2 : v.ownBlock ≠ some (w.heap.size + 1 + 1) := HP.out.b2.notRow HP.out.own (by decide)
      have hf2 : W.frozen? ⟨w.heap.size + 1 + 1, 1, none⟩ = false := hP.b2.frozen _
      clear hP hadd hx hif
      go_wp2_with fail
      go_region_law
        ((refine step_append_lies _ (by rfl) _ _ _ (by rfl) w.heap.size 3 i0 _ 1 8 und_ints hi0 hz0 hz1 hz2 rfl (by omega) v (woF fs f i).length _ (by rfl) ((HP.out.own.alloc _).drew)
            ⟨W.heap.size, 0, none⟩ 1 1 [.int .i64 x] (by rfl) (by rfl) (World.news_of_block (cs := #[.int .i64 x]) (t := 3) (fr := (0, 0)) (heap_alloc_new W _)) (by simp [Value.oneCell'])
            (by omega) (by simp only [maxLen]; omega) (by omega) (by simp; omega) (W.heap.size + 1) (by simp) ?_; intro gg cap w3 hown1 hgrow hat hlt'; have hb3 := (HP.out.b2.later (bdrew (balloc (brefl W) _) 1)).grown hgrow hv2; have hc3 := hb3.cell 1; have hf3 := hb3.frozen 1; have hz3 := hb3.lt; clear hb3))
      all_goals
        have hP3 := (HP.out.later (bdrew (balloc (brefl W) (.cells #[.int .i64 x] 3)) 1)).grown (x := x) hgrow hown1
        rw [← Hadd.out] at hP3
        have HP3 := Lib.hid hP3
        clear hown1 hgrow hat hP3 hlt' hc3 hf3 hz3
        go_wp2
        refine hK _ _ (m - 1) (by omega) ⟨rfl, i + 1, _, by omega, HP3.out, ?_⟩
        repeat (first | exact fits_nil | refine fits_none ?_ | refine fits_some ?_)
  · obtain rfl : i = fn := by omega
    rw [← hcl, woF_all (by omega)] at hP
    rw [hcl] at hP
    obtain ⟨l, hl⟩ : ∃ l, fs.take f ++ fs.drop (f + 1) = l := ⟨_, rfl⟩
    rw [hl] at hP
    have Hl := Lib.hid hl
    clear hl
    obtain ⟨G, c, rfl, _⟩ := own_sl hP.own
    obtain ⟨ln, hln⟩ : ∃ ln, l.length = ln := ⟨_, rfl⟩
    have hon := hP.own
    rw [hln] at hP hon
    clear c2
    have c2 := hP.b2.cell 1
    have hp1 : (Value.slice G ln c).ownBlock ≠ some (w.heap.size + 1) := hP.b1.notRow hon (by decide)
    have d0 := hP.b1.cell 0
    have d1 := hP.b1.cell 1
    have z1 := hP.b1.lt
    have e0 := hP.b2.cell 0
    have e1 : W.frozen? ⟨w.heap.size + 1, 0, none⟩ = false := hP.b1.frozen 0
    have e2 : W.frozen? ⟨w.heap.size + 1, 1, none⟩ = false := hP.b1.frozen 1
    have HP := Lib.hid hP
    have Hln := Lib.hid hln
    have Hon := Lib.hid hon
    clear hP hK hln hon
    go_wp2
    refine bodyPost_ret (v := .agg #[.int .i64 L, .slice G ln c]) ?_ rfl ⟨G, ln, c, rfl, ?_, ?_⟩
    · simp [results, Try.results47, go_sem, d0, d1]
    · exact (HP.out.bel.setCell (by show w.heap.size ≤ w.heap.size + 1; omega) _).setCell (by show w.heap.size ≤ w.heap.size + 1; omega) _
    · rw [Hl.out]
      obtain ⟨G', c', hE, hsl⟩ := own_sl (own_other (own_other Hon.out ⟨w.heap.size + 1, 0, none⟩ hp1 (.int .i64 L)) ⟨w.heap.size + 1, 1, none⟩ hp1 (.slice G ln c))
      cases hE
      exact hsl
theorem piece_add {fs : List Int} {a b : Nat} {i : Nat} {x : Int} (hx : fs[i]? = some x) (h : (decide ((a : Int) ≤ x) && decide (x < (b : Int))) = true) : pieceF (fs.take (i + 1)) a b = pieceF (fs.take i) a b ++ [x - a] := by
  obtain ⟨hi, rfl⟩ := List.getElem?_eq_some_iff.1 hx
  unfold pieceF
  rw [List.take_succ_eq_append_getElem hi, List.filter_append, List.map_append]
  simp only [List.filter_cons, List.filter_nil, h, if_true, List.map_cons, List.map_nil]
theorem piece_skip {fs : List Int} {a b : Nat} {i : Nat} {x : Int} (hx : fs[i]? = some x) (h : (decide ((a : Int) ≤ x) && decide (x < (b : Int))) = false) : pieceF (fs.take (i + 1)) a b = pieceF (fs.take i) a b := by
  obtain ⟨hi, rfl⟩ := List.getElem?_eq_some_iff.1 hx
  unfold pieceF
  rw [List.take_succ_eq_append_getElem hi, List.filter_append, List.map_append]
  simp [h]
theorem piece_len (fs : List Int) (a b : Int) : (pieceF fs a b).length ≤ fs.length := by
  unfold pieceF
  rw [List.length_map]
  exact List.length_filter_le _ _

set_option maxRecDepth 100000 in
set_option maxHeartbeats 2000000 in
theorem piece_any (L : Int) (FA : Option Addr) (fn fc : Nat) (fs : List Int) (a b : Nat) (w : World) (hfs : Sl 1 encI w w.heap.size FA fn fc fs) (hfn : fn ≤ 40) (hab : a ≤ b) (hb24 : b ≤ 24) :
    Calls Try.prog 43 #[.agg #[.int .i64 L, .slice FA fn fc], .int .i64 a, .int .i64 b] w fun e w' => ∃ G n c, e = .returned (.agg #[.int .i64 ((b : Int) - a), .slice G n c]) ∧ Below w.heap.size w w' ∧ Sl 1 encI w' w'.heap.size G n c (pieceF fs a b) := by
  have hcl := hfs.len
  have hcap := hfs.cap
  have Hfs := Lib.hid hfs
  have HP := Lib.hid (PC.new w L FA fn fc ((b : Int) - a))
  have jw : IntKind.i64.wrap ((b : Int) - (a : Int)) = (b : Int) - (a : Int) := by rw [IntKind.wrap_i64]; omega
  clear hfs
  go_enter Try.func43, Try.ntmps43
  go_wp2_with fail
  refine loop_n (fun m ac W => ac.defers = [] ∧ ∃ (i : Nat) (v : Value), i + m = fn ∧ PC w W L FA fn fc ((b : Int) - a) v (pieceF (fs.take i) a b) ∧ Fits (none :: some (.int .i64 (a : Nat)) :: some (.int .i64 (b : Nat)) :: some (.pointer (some ⟨w.heap.size, 0, none⟩)) :: none :: none :: some (.pointer (some ⟨w.heap.size + 1, 0, none⟩)) :: some (.pointer (some ⟨w.heap.size + 1 + 1, 0, none⟩)) :: some (.int .i64 (i : Nat)) :: none :: none :: none :: none :: none :: none :: none :: none :: none :: none :: none :: none :: none :: none :: none :: none :: none :: none :: none :: none :: none :: none :: none :: none :: none :: none :: none :: none :: none :: none :: none :: none :: none :: none :: none :: none :: none :: none :: none :: none :: []) ac.tmps.toList) fn ?_ ?_
  · refine ⟨rfl, 0, _, by omega, HP.out, ?_⟩
    repeat (first | exact fits_nil | refine fits_none ?_ | refine fits_some ?_)
  clear HP
  intro m ac W hI K hK
  obtain ⟨hds, i, v, him, hP, hfit⟩ := hI
  obtain ⟨g, hg⟩ := fits_act hfit
  rw [hds] at hg
  subst hg
  clear hfit hds
  simp only [fillP, Nat.reduceAdd]
  have c0 := hP.b0.cell 0
  have c1 := hP.b0.cell 1
  have c2 := hP.b2.cell 1
  have z0 := hP.b0.lt
  have z2 := hP.b2.lt
  by_cases hlt : i < fn
  · have i1 : (i : Int) < (fn : Int) := by omega
    have i2 : (0 : Int) ≤ (i : Int) := by omega
    have i3 : IntKind.i64.wrap ((i : Int) + 1) = (i : Int) + 1 := by rw [IntKind.wrap_i64]; omega
    obtain ⟨fb, o, x, rfl, hbw, hx, _⟩ := Hfs.out.ltI hlt
    obtain ⟨b', o', x', hA', hb, hx', q0⟩ := (Hfs.out.later hP.bel).ltI hlt
    cases hA'
    rw [hx] at hx'
    cases hx'
    cases hge : decide ((a : Int) ≤ x) with
    | false =>
      have hge2 : decide (x < (a : Int)) = true := by simp at hge ⊢; omega
      have HP := Lib.hid (show PC w W L (some ⟨fb, o, none⟩) fn fc ((b : Int) - a) v (pieceF (fs.take (i + 1)) a b) by rw [piece_skip hx (by rw [hge]; rfl)]; exact hP)
      clear hP hx
      go_wp2
      refine hK _ _ (m - 1) (by omega) ⟨rfl, i + 1, _, by omega, HP.out, ?_⟩
      repeat (first | exact fits_nil | refine fits_none ?_ | refine fits_some ?_)
    | true =>
    cases hlb : decide (x < (b : Int)) with
    | false =>
      have hlb2 : decide ((b : Int) ≤ x) = true := by simp at hlb ⊢; omega
      have HP := Lib.hid (show PC w W L (some ⟨fb, o, none⟩) fn fc ((b : Int) - a) v (pieceF (fs.take (i + 1)) a b) by rw [piece_skip hx (by rw [hlb, Bool.and_false])]; exact hP)
      clear hP hx
      go_wp2
      refine hK _ _ (m - 1) (by omega) ⟨rfl, i + 1, _, by omega, HP.out, ?_⟩
      repeat (first | exact fits_nil | refine fits_none ?_ | refine fits_some ?_)
    | true =>
      have hadd := piece_add (a := a) (b := b) hx (by rw [hge, hlb]; rfl)
      have jx : IntKind.i64.wrap (x - (a : Int)) = x - (a : Int) := by simp at hge hlb; rw [IntKind.wrap_i64]; omega
      obtain ⟨y, hy⟩ : ∃ y, x - (a : Int) = y := ⟨_, rfl⟩
      rw [hy] at hadd jx
      have hwl := piece_len (fs.take i) a b
      have hwl2 : (fs.take i).length ≤ fs.length := by simp; omega
      obtain ⟨xs, hxs⟩ : ∃ xs, pieceF (fs.take i) a b = xs := ⟨_, rfl⟩
      rw [hxs] at hP hadd hwl
      have HP := Lib.hid hP
      have Hadd := Lib.hid hadd
      obtain ⟨i0, hi0, hz0, hz1, hz2⟩ := info_parts info_int
      have zbel := hP.bel.size
      have hvb : v.ownBlock ≠ some fb := fun e => by have := (HP.out.own.lt fb e).1; omega
      have hv0 : v.ownBlock ≠ some w.heap.size := HP.out.b0.notRow HP.out.own (by decide)
      have hv2 : v.ownBlock ≠ some (w.heap.size + 1 + 1) := HP.out.b2.notRow HP.out.own (by decide)
      have hf2 : W.frozen? ⟨w.heap.size + 1 + 1, 1, none⟩ = false := hP.b2.frozen _
      clear hP hadd hx hxs
      go_wp2_with fail
      go_region_law
        ((refine step_append_lies _ (by rfl) _ _ _ (by rfl) w.heap.size 3 i0 _ 1 8 und_ints hi0 hz0 hz1 hz2 rfl (by omega) v xs.length _ (by rfl) ((HP.out.own.alloc _).drew)
            ⟨W.heap.size, 0, none⟩ 1 1 [.int .i64 y] (by rfl) (by rfl) (World.news_of_block (cs := #[.int .i64 y]) (t := 3) (fr := (0, 0)) (heap_alloc_new W _)) (by simp [Value.oneCell'])
            (by omega) (by simp only [maxLen]; omega) (by omega) (by simp; omega) (W.heap.size + 1) (by simp) ?_; intro gg cap w3 hown1 hgrow hat hlt'; have hb3 := (HP.out.b2.later (bdrew (balloc (brefl W) _) 1)).grown hgrow hv2; have hc3 := hb3.cell 1; have hf3 := hb3.frozen 1; have hz3 := hb3.lt; clear hb3))
      all_goals
        have hP3 := (HP.out.later (bdrew (balloc (brefl W) (.cells #[.int .i64 y] 3)) 1)).grown (x := y) hgrow hown1
        rw [← Hadd.out] at hP3
        have HP3 := Lib.hid hP3
        clear hown1 hgrow hat hP3 hlt' hc3 hf3 hz3
        go_wp2
        refine hK _ _ (m - 1) (by omega) ⟨rfl, i + 1, _, by omega, HP3.out, ?_⟩
        repeat (first | exact fits_nil | refine fits_none ?_ | refine fits_some ?_)
  · obtain rfl : i = fn := by omega
    rw [← hcl, List.take_length] at hP
    rw [hcl] at hP
    obtain ⟨l, hl⟩ : ∃ l, pieceF fs a b = l := ⟨_, rfl⟩
    rw [hl] at hP
    have Hl := Lib.hid hl
    clear hl
    obtain ⟨G, c, rfl, _⟩ := own_sl hP.own
    obtain ⟨ln, hln⟩ : ∃ ln, l.length = ln := ⟨_, rfl⟩
    have hon := hP.own
    rw [hln] at hP hon
    clear c2
    have c2 := hP.b2.cell 1
    have hp1 : (Value.slice G ln c).ownBlock ≠ some (w.heap.size + 1) := hP.b1.notRow hon (by decide)
    have d0 := hP.b1.cell 0
    have d1 := hP.b1.cell 1
    have z1 := hP.b1.lt
    have e0 := hP.b2.cell 0
    have e1 : W.frozen? ⟨w.heap.size + 1, 0, none⟩ = false := hP.b1.frozen 0
    have e2 : W.frozen? ⟨w.heap.size + 1, 1, none⟩ = false := hP.b1.frozen 1
    have HP := Lib.hid hP
    have Hln := Lib.hid hln
    have Hon := Lib.hid hon
    clear hP hK hln hon
    go_wp2
    refine bodyPost_ret (v := .agg #[.int .i64 ((b : Int) - a), .slice G ln c]) ?_ rfl ⟨G, ln, c, rfl, ?_, ?_⟩
    · simp [results, Try.results43, go_sem, d0, d1]
    · exact (HP.out.bel.setCell (by show w.heap.size ≤ w.heap.size + 1; omega) _).setCell (by show w.heap.size ≤ w.heap.size + 1; omega) _
    · rw [Hl.out]
      obtain ⟨G', c', hE, hsl⟩ := own_sl (own_other (own_other Hon.out ⟨w.heap.size + 1, 0, none⟩ hp1 (.int .i64 ((b : Int) - a))) ⟨w.heap.size + 1, 1, none⟩ hp1 (.slice G ln c))
      cases hE
      exact hsl
end Go.Proofs.Ytjmphmnimnbgkaa
