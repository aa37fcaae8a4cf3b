/- The store's without; best; slices.Contains. -/
import Derived.Test.YtmfiggbobaihcaaGLeast
namespace Go.Proofs.Ytmfiggbobaihcaa
open Go.RowKit Go.Shelf

theorem idxB_has (x : Int) (xs : List Int) : decide (0 ≤ idxB (fun y => x == y) xs 0) = xs.contains x := by
  rw [idxB_ge]
  induction xs with
  | nil => rfl
  | cons y l ih => simp only [List.any_cons, ih, List.contains_cons]

set_option maxHeartbeats 400000 in
theorem indexEq (x : Int) (A : Option Addr) (n c : Nat) (xs : List Int) (w : World) (hs : Sl 1 encI w w.heap.size A n c xs) :
    Calls Try.prog 94 #[.slice A n c, .int .i64 x] w fun e w' => e = .returned (.int .i64 (idxB (fun y => x == y) xs 0)) ∧ Below w.heap.size w w' := by
  have hl := hs.len
  have hcap := hs.cap
  have hbig := hs.big
  go_enter Try.func94, Try.ntmps94
  go_wp2
  go_loopw [8] (fun i wr => ∃ k : Nat, k ≤ n ∧ i = .int .i64 k ∧ (∀ j y, j < k → xs[j]? = some y → (x == y) = false) ∧ Below w.heap.size w wr) (fun i _ => n - (intOf i).toNat)
  case atStart => exact ⟨0, by omega, rfl, by omega, Below.refl _ _⟩
  case round =>
    obtain ⟨k, hk, rfl, hno, hb⟩ := hrel
    by_cases hlt : k < n
    · obtain ⟨b, o, y, rfl, hB, hx, hc0⟩ := (hs.below hb).ltI hlt
      have Hno := Lib.hid hno
      have Hx := Lib.hid hx
      have Hb := Lib.hid hb
      clear hno hx hb
      cases hxy : (x == y) with
      | true =>
        have Hxy := Lib.hid hxy
        go_wp2
        go_ret
        exact ⟨ret_int (idxB_at (p := fun y => x == y) Hno.out Hx.out Hxy.out).symm, Hb.out⟩
      | false =>
        have Hxy := Lib.hid hxy
        go_wp2
        go_roundw
        case rel => exact ⟨k + 1, by omega, by go_num, no_succ (p := fun y => x == y) Hno.out Hx.out Hxy.out, Hb.out⟩
        case measure => simp [intOf]; omega
    · obtain rfl : k = n := by omega
      have Hno := Lib.hid hno
      have Hb := Lib.hid hb
      clear hno hb
      go_wp2
      go_ret
      exact ⟨ret_int (idxB_no (p := fun y => x == y) (by rw [hl]; exact Hno.out)).symm, Hb.out⟩

set_option maxHeartbeats 400000 in
theorem containsEq (x : Int) (A : Option Addr) (n c : Nat) (xs : List Int) (w : World) (hs : Sl 1 encI w w.heap.size A n c xs) :
    Calls Try.prog 91 #[.slice A n c, .int .i64 x] w fun e w' => e = .returned (.bool (xs.contains x)) ∧ Below w.heap.size w w' := by
  have H := Lib.hid (indexEq x A n c xs w hs)
  clear hs
  go_enter Try.func91, Try.ntmps91
  go_wp2_with (go_at_call 94; refine H.out.mono ?_; rintro e w1 ⟨rfl, hb1⟩)
  go_ret
  exact ⟨ret_bool (idxB_has x xs), hb1⟩

/-- The orders, but for those of a list of numbers. -/
def woT (O : List Od) (R : List Int) : Nat → List Od
  | 0 => []
  | i + 1 => woT O R i ++ if R.contains (i : Int) then [] else [O.getD i ⟨0, 0⟩]
def woO (O : List Od) (R : List Int) : List Od := woT O R O.length
theorem woT_len (O : List Od) (R : List Int) : ∀ i, (woT O R i).length ≤ i
  | 0 => Nat.le_refl _
  | i + 1 => by
    have := woT_len O R i
    unfold woT
    split <;> simp <;> omega
theorem woT_mem (O : List Od) (R : List Int) : ∀ i, i ≤ O.length → ∀ o ∈ woT O R i, o ∈ O
  | 0, _, o, h => by simp [woT] at h
  | i + 1, hi, o, h => by
    unfold woT at h
    rcases List.mem_append.1 h with h | h
    · exact woT_mem O R i (by omega) o h
    · split at h
      · simp at h
      · obtain rfl : o = O.getD i ⟨0, 0⟩ := by simpa using h
        have hx := List.getElem?_eq_getElem (show i < O.length by omega)
        simp [List.getD, hx]
theorem OIn.wo {n : Nat} {O : List Od} (h : OIn n O) (R : List Int) : OIn n (woO O R) := ⟨Nat.le_trans (woT_len O R _) h.1, fun o ho => h.2 o (woT_mem O R _ (Nat.le_refl _) o ho)⟩
theorem und_ords : Try.prog.underlying 23 = some (.slice 66) := by kernel_rfl
theorem info_ord : (Try.prog.info? 66).map (fun i => (i.zero, i.size, i.bytes)) = some (some (.agg #[.int .i64 0, .int .i64 0]), 2, 16) := by kernel_rfl
def stoV (SA : Option Addr) (sn sc : Nat) (PA : Option Addr) (pn pc : Nat) (v : Value) (M : Nat → Int) : Array Value :=
  #[.slice SA sn sc, .slice PA pn pc, v, .int .i64 (M 0), .int .i64 (M 1), .int .i64 (M 2), .int .i64 (M 3), .int .i64 (M 4)]
/-- While the orders that stay are gathered. -/
structure WC (w W : World) (SA : Option Addr) (sn sc : Nat) (PA : Option Addr) (pn pc : Nat) (M : Nat → Int) (v : Value) (xs : List Od) : Prop where
  bel : Below w.heap.size w W
  bx : Blk W w.heap.size 83 (stoV SA sn sc PA pn pc v M)
  own : W.ownsRow (w.heap.size + 1) 66 2 v xs.length (xs.flatMap encO)
section
variable {w W W' : World} {SA : Option Addr} {sn sc : Nat} {PA : Option Addr} {pn pc : Nat} {M : Nat → Int} {v v' : Value} {xs : List Od}
theorem WC.later (h : WC w W SA sn sc PA pn pc M v xs) (hb : Below W.heap.size W W') : WC w W' SA sn sc PA pn pc M v xs := ⟨Below.later h.bel hb, h.bx.later hb, own_later h.own hb⟩
theorem WC.grown (h : WC w W SA sn sc PA pn pc M v xs) {x : Od} (hg : W.grownBy W' v.ownBlock) (ho : W'.ownsRow (w.heap.size + 1) 66 2 v' (xs.length + 1) (xs.flatMap encO ++ encO x)) : WC w (W'.setCell ⟨w.heap.size, 2, none⟩ v') SA sn sc PA pn pc M v' (xs ++ [x]) := by
  have hb := own_base h.own
  have hlt := h.bx.lt
  have hbx := (h.bx.grown hg (fun e => by have := hb _ e; omega)).set 2 v'
  have hb' := own_base ho
  refine ⟨(h.bel.trans ⟨hg.os, hg.tape, hg.output, hg.size, fun k hk => hg.block k (by omega) (fun e => by have := hb k e.symm; omega)⟩).setCell (Nat.le_refl _) _, hbx, ?_⟩
  rw [List.length_append, List.flatMap_append]
  simp only [List.length_cons, List.length_nil, List.flatMap_cons, List.flatMap_nil, List.append_nil]
  exact own_other ho _ (fun e => by have := hb' _ e; simp only at this; omega) _
theorem WC.sl (h : WC w W SA sn sc PA pn pc M v xs) : ∃ A' c', v = .slice A' xs.length c' ∧ Sl 2 encO W W.heap.size A' xs.length c' xs := own_slG (k := 2) (enc := encO) (fun _ => rfl) h.own rfl
end
set_option maxRecDepth 100000 in
set_option maxHeartbeats 4000000 in
theorem without_any {n : Nat} (T : Nat) (SA : Option Addr) (sn sc : Nat) (PA : Option Addr) (pn pc : Nat) (OA : Option Addr) (on oc : Nat) (S P : List Int) (O : List Od) (M : Nat → Int) (RA : Option Addr) (rn rc : Nat) (R : List Int) (w : World) (hs : StIn w T SA sn sc PA pn pc OA on oc S P O M) (hk : ShOk n P O M 150) (hSl : S.length = n) (hr : Sl 1 encI w w.heap.size RA rn rc R) :
    Calls Try.prog 79 #[.pointer (some ⟨T, 0, none⟩), .slice RA rn rc] w fun e w' => e = .returned (.bool (canB n (woO O R) M)) ∧ Below w.heap.size w w' := by
  obtain rfl := hs.sh.ord.len
  have h8 := hk.oin.1
  have HP := Lib.hid (show WC w (w.alloc (.cells (stoV SA sn sc PA pn pc (.slice none 0 0) M) 83)) SA sn sc PA pn pc M (.slice none 0 0) (woT O R 0) from ⟨balloc (brefl w) _, Blk.new w _ _, World.ownsRow_nil _ _ _ _⟩)
  have Hs := Lib.hid hs
  have Hk := Lib.hid hk
  have Hr := Lib.hid hr
  have t0 := hs.b0.cell 0
  have t1 := hs.b0.cell 1
  have t2 := hs.b0.cell 2
  have t3 := hs.b0.cell 3
  have t4 := hs.b0.cell 4
  have t5 := hs.b0.cell 5
  have t6 := hs.b0.cell 6
  have t7 := hs.b0.cell 7
  have tl := hs.b0.lt
  clear hs hk hr
  unfold stoC at t0 t1 t2 t3 t4 t5 t6 t7
  unfold stoV at HP
  go_enter Try.func79, Try.ntmps79
  go_wp2_with fail
  clear t0 t1 t2 t3 t4 t5 t6 t7
  refine loop_n (fun m a W => a.defers = [] ∧ ∃ (i : Nat) (v : Value), i + m = O.length ∧ WC w W SA sn sc PA pn pc M v (woT O R i) ∧ Fits (none :: some (.slice RA rn rc) :: none :: none :: none :: some (.pointer (some ⟨w.heap.size, 0, none⟩)) :: none :: none :: none :: none :: none :: none :: none :: none :: none :: none :: none :: some (.slice OA O.length oc) :: some (.int .i64 (O.length : Int)) :: some (.int .i64 (i : Nat)) :: none :: none :: none :: none :: none :: none :: none :: none :: none :: none :: none :: none :: none :: none :: none :: none :: none :: none :: []) a.tmps.toList) O.length ?_ ?_
  · refine ⟨rfl, 0, _, by omega, HP.out, ?_⟩
    repeat (first | exact fits_nil | refine fits_none ?_ | refine fits_some ?_)
  clear HP
  intro m a W hI K hK
  obtain ⟨hds, i, v, him, hP, hfit⟩ := hI
  obtain ⟨g, hg⟩ := fits_act hfit
  rw [hds] at hg
  subst hg
  clear hfit hds
  simp only [fillP, Nat.reduceAdd]
  by_cases hlt : i < O.length
  · obtain ⟨b, o, x, rfl, hbw, hx, g0, g1⟩ := ((Hs.out.later hP.bel).sh.ord).ltO hlt
    have i1 : (i : Int) < (O.length : Int) := by omega
    have i2 : (0 : Int) ≤ (i : Int) := by omega
    have i3 : IntKind.i64.wrap ((i : Int) + 1) = (i : Int) + 1 := by rw [IntKind.wrap_i64]; omega
    have hT : woT O R (i + 1) = woT O R i ++ if R.contains (i : Int) then [] else [x] := by
      rw [woT]; simp [List.getD, hx]
    obtain ⟨q, hq⟩ : ∃ q, R.contains (i : Int) = q := ⟨_, rfl⟩
    rw [hq] at hT
    have HT := Lib.hid hT
    have Hq := Lib.hid hq
    have HP := Lib.hid hP
    have Him := Lib.hid (show i + m = O.length ∧ i < O.length from ⟨him, hlt⟩)
    have Hc := Lib.hid (fun W (h : Sl 1 encI W W.heap.size RA rn rc R) => containsEq (i : Int) RA rn rc R W h)
    clear hP hx hT hq him hlt
    go_wp2_with fail
    have hP1 := HP.out.later (balloc (brefl W) (.cells #[.int .i64 x.g, .int .i64 x.m] 66))
    have hE1 := Blk.new W 66 #[.int .i64 x.g, .int .i64 x.m]
    refine (Hc.out _ ((Hr.out).later hP1.bel)).mono ?_
    rintro e w1 ⟨rfl, hb1⟩
    rw [Hq.out]
    have hP2 := hP1.later hb1
    have hE2 := hE1.later hb1
    have HP2 := Lib.hid hP2
    have c0 := hE2.cell 0
    have c1 := hE2.cell 1
    have cl := hE2.lt
    have cz := hP2.bel.size
    clear hP1 hE1 hb1 hE2 HP
    cases q with
    | true =>
      clear hP2
      go_wp2
      refine hK _ _ (m - 1) (by have := Him.out; omega) ⟨rfl, i + 1, v, by have := Him.out; omega, by rw [HT.out]; simpa using HP2.out, ?_⟩
      repeat (first | exact fits_nil | refine fits_none ?_ | refine fits_some ?_)
    | false =>
      obtain ⟨i0, hi0, hz0, hz1, hz2⟩ := info_parts info_ord
      have b2 : w1.cell? ⟨w.heap.size, 2, none⟩ = some v := hP2.bx.cell 2
      have bl := hP2.bx.lt
      have hvb := own_base hP2.own
      have hv0 : v.ownBlock ≠ some w.heap.size := fun e => by have := hvb _ e; omega
      have hwl := woT_len O R i
      have HNw := Lib.hid (two_new w1 (.int .i64 x.g) (.int .i64 x.m) 66)
      have HPa := Lib.hid (HP2.out.later (balloc (brefl w1) (.cells #[.int .i64 x.g, .int .i64 x.m] 66)))
      clear hP2 hvb HP2
      generalize woT O R i = xs at *
      go_wp2_with (at_builtin; refine wpList_append_own _ rfl _ _ 23 rfl (w.heap.size + 1) 66 i0 (.agg #[.int .i64 0, .int .i64 0]) 2 16 und_ords hi0 hz0 hz1 hz2 rfl (by decide) v xs.length _ rfl HPa.out.own ⟨w1.heap.size, 0, none⟩ 1 1 [.int .i64 x.g, .int .i64 x.m] rfl rfl HNw.out (by simp [Value.oneCell']) (by simp only [maxLen]; omega) (by omega) (by simp; omega) ?_; intro v' W3 hown' hgr _; have hP3 := HPa.out.grown (x := x) hgr hown'; have hb3 := HPa.out.bx.grown hgr hv0; have hc3 := hb3.cell 2; have hf3 := hb3.frozen 2; have hz3 := hb3.lt; have HP3 := Lib.hid hP3; obtain ⟨g3, c3, rfl⟩ := own_succ hown'; clear hown' hgr hP3 hb3; unfold stoV at hc3)
      refine hK _ _ (m - 1) (by have := Him.out; omega) ⟨rfl, i + 1, _, by have := Him.out; omega, by rw [HT.out]; exact HP3.out, ?_⟩
      repeat (first | exact fits_nil | refine fits_none ?_ | refine fits_some ?_)
  · obtain rfl : i = O.length := by omega
    have i1 : ¬ (O.length : Int) < (O.length : Int) := by omega
    obtain ⟨A', c', rfl, hsl⟩ := hP.sl
    have hst : StIn W w.heap.size SA sn sc PA pn pc A' (woO O R).length c' S P (woO O R) M := ⟨hP.bx, ⟨(Hs.out.later hP.bel).sh.stk, (Hs.out.later hP.bel).sh.prc, hsl⟩⟩
    have HX := Lib.hid (can_any w.heap.size SA sn sc PA pn pc A' _ c' S P (woO O R) M W hst (by have := Hk.out.n5; omega) (Hk.out.oin.wo R).1 (fun o ho => ((Hk.out.oin.wo R).2 o ho).2) (fun j _ => Hk.out.stk j))
    have HB := Lib.hid hP.bel
    clear hK hP hsl hst him hlt
    rw [hSl] at HX
    go_wp2_with fail
    refine HX.out.mono ?_
    rintro e w2 ⟨rfl, hb2⟩
    have HB2 := Lib.hid (Below.later HB.out hb2)
    clear hb2
    go_wp2
    go_ret
    exact ⟨rfl, HB2.out⟩

/-- The least of a number and a list. -/
def minL (x : Int) : List Int → Int
  | [] => x
  | y :: l => minL (if y < x then y else x) l
theorem minL_app (x : Int) : ∀ (l : List Int) (y : Int), minL x (l ++ [y]) = if y < minL x l then y else minL x l
  | [], _ => rfl
  | z :: l, y => minL_app (if z < x then z else x) l y
theorem less_any (x y : Int) (w : World) : Calls Try.prog 75 #[.int .i64 x, .int .i64 y] w fun e w' => e = .returned (.bool (decide (x < y))) ∧ w' = w := by
  go_enter Try.func75, Try.ntmps75
  go_wp2
  go_ret
  exact ⟨rfl, rfl⟩
set_option maxRecDepth 100000 in
set_option maxHeartbeats 4000000 in
theorem best_any (b o n c : Nat) (x : Int) (xs : List Int) (w : World) (hs : Sl 1 encI w w.heap.size (some ⟨b, o, none⟩) n c (x :: xs)) :
    Calls Try.prog 74 #[.slice (some ⟨b, o, none⟩) n c, .func (.func 75) #[] #[]] w fun e w' => e = .returned (.int .i64 (minL x xs)) ∧ Below w.heap.size w w' := by
  have hl : xs.length + 1 = n := hs.len
  have hcap := hs.cap
  have hbig := hs.big
  obtain ⟨rb, ro, x0, hA, _, hx0, c0⟩ := hs.ltI (show 0 < n by omega)
  simp only [Option.some.injEq, Addr.mk.injEq, and_true] at hA
  obtain ⟨rfl, rfl⟩ := hA
  obtain rfl : x = x0 := by simpa using hx0
  simp only [Nat.add_zero] at c0
  have Hs := Lib.hid hs
  have Hl := Lib.hid hl
  have n1 : (1 : Int) ≤ (n : Int) := by omega
  have n2 : (0 : Int) < (n : Int) := by omega
  have n3 : (n : Int) ≤ (c : Int) := by omega
  have Hbg := Lib.hid hbig
  have hw1 : ∀ i : Nat, i + 1 < n → IntKind.i64.wrap ((i : Int) + 1) = (i : Int) + 1 := fun i hi => by rw [IntKind.wrap_i64]; omega
  have Hw := Lib.hid hw1
  clear hs hx0 hl hw1
  go_enter Try.func74, Try.ntmps74
  go_wp2_with fail
  all_goals
    refine loop_n (fun m a W => a.defers = [] ∧ ∃ (i : Nat) (z : Value), i + m + 1 = n ∧ (2 ≤ n → ∃ cz, z = .slice (some ⟨b, o + 1, none⟩) (n - 1) cz) ∧ Hid (Below w.heap.size w W) ∧ Fits (none :: some (.func (.func 75) #[] #[]) :: none :: none :: none :: some (.int .i64 (minL x (xs.take i))) :: none :: none :: none :: none :: none :: none :: some (z) :: some (.int .i64 ((n - 1 : Nat) : Int)) :: some (.int .i64 (i : Nat)) :: none :: none :: none :: none :: none :: none :: none :: none :: none :: none :: []) a.tmps.toList) (n - 1) ?_ ?_
    · first
        | (refine ⟨rfl, 0, .slice (some ⟨b, o + 1, none⟩) (n - 1) (c - 1), by have := Hl.out; omega, fun _ => ⟨_, rfl⟩, Lib.hid (brefl w), ?_⟩; (repeat (first | exact fits_nil | refine fits_none ?_ | refine fits_some ?_)); done)
        | (refine ⟨rfl, 0, .slice (some ⟨b, o, none⟩) (n - 1) 0, by have := Hl.out; omega, fun h => by omega, Lib.hid (brefl w), ?_⟩; (repeat (first | exact fits_nil | refine fits_none ?_ | refine fits_some ?_)); done)
    clear c0
    intro m a W hI K hK
    obtain ⟨hds, i, z, him, hz, HB, hfit⟩ := hI
    obtain ⟨g, hg⟩ := fits_act hfit
    rw [hds] at hg
    subst hg
    clear hfit hds
    simp only [fillP, Nat.reduceAdd]
    by_cases hlt : i + 1 < n
    · obtain ⟨cz, rfl⟩ := hz (by omega)
      obtain ⟨rb, ro, y, hA, hrb, hy, p0⟩ := (Hs.out.later HB.out).ltI (i := i + 1) hlt
      simp only [Option.some.injEq, Addr.mk.injEq, and_true] at hA
      obtain ⟨rfl, rfl⟩ := hA
      have hy' : xs[i]? = some y := by simpa using hy
      have hT : minL x (xs.take (i + 1)) = if y < minL x (xs.take i) then y else minL x (xs.take i) := by
        rw [List.take_add_one, hy', Option.toList_some, minL_app]
      have i1 : (i : Int) < ((n - 1 : Nat) : Int) := by omega
      have i2 : (0 : Int) ≤ (i : Int) := by omega
      have i3 := Hw.out i hlt
      have p1 : W.cell? ⟨b, o + 1 + i, none⟩ = some (.int .i64 y) := by rw [show o + 1 + i = o + (i + 1) by omega]; exact p0
      generalize minL x (xs.take i) = q at *
      have HT := Lib.hid hT
      have Him := Lib.hid (show i + m + 1 = n ∧ i + 1 < n from ⟨him, hlt⟩)
      have i4 : i < n - 1 := by omega
      clear hT hy hy' him hlt p0 hz
      go_wp2_with fail
      refine (less_any y q W).mono ?_
      rintro e w1 ⟨rfl, rfl⟩
      cases hd : decide (y < q) with
      | true =>
        have HT2 := Lib.hid (show minL x (xs.take (i + 1)) = y by rw [HT.out, if_pos (of_decide_eq_true hd)])
        go_wp2
        refine hK _ _ (m - 1) (by have := Him.out; omega) ⟨rfl, i + 1, .slice (some ⟨b, o + 1, none⟩) (n - 1) cz, by have := Him.out; omega, fun _ => ⟨_, rfl⟩, HB, ?_⟩
        rw [HT2.out]
        repeat (first | exact fits_nil | refine fits_none ?_ | refine fits_some ?_)
      | false =>
        have HT2 := Lib.hid (show minL x (xs.take (i + 1)) = q by rw [HT.out, if_neg (of_decide_eq_false hd)])
        go_wp2
        refine hK _ _ (m - 1) (by have := Him.out; omega) ⟨rfl, i + 1, .slice (some ⟨b, o + 1, none⟩) (n - 1) cz, by have := Him.out; omega, fun _ => ⟨_, rfl⟩, HB, ?_⟩
        rw [HT2.out]
        repeat (first | exact fits_nil | refine fits_none ?_ | refine fits_some ?_)
    · have i1 : ¬ (i : Int) < ((n - 1 : Nat) : Int) := by omega
      have hE : xs.take i = xs := List.take_of_length_le (by have := Hl.out; omega)
      obtain ⟨q, hq⟩ : ∃ q, minL x xs = q := ⟨_, rfl⟩
      rw [hE, hq]
      have Hq := Lib.hid hq
      clear hK hz him hlt hq
      go_wp2
      go_ret
      exact ⟨ret_int Hq.out.symm, HB.out⟩
end Go.Proofs.Ytmfiggbobaihcaa
