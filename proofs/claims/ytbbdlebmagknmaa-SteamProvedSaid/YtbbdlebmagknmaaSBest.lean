/- steam's best of chains: one that needs the most. -/
import Derived.Test.YtbbdlebmagknmaaSOwn
namespace Go.Proofs.Ytbbdlebmagknmaa
open Go.RowKit Go.Shelf

/-- A chain: its windows' slice, and what they need. -/
structure Ch where
  A : Option Addr
  n : Nat
  c : Nat
  v : Int
def Ch.sl (x : Ch) : Value := .slice x.A x.n x.c
def encCh (x : Ch) : List Value := [.slice x.A x.n x.c, .int .i64 x.v]
theorem Sl.ltCh {w : World} {B : Nat} {A : Option Addr} {n c : Nat} {xs : List Ch} (h : Sl 2 encCh w B A n c xs) {i : Nat} (hi : i < n) : ∃ b o x, A = some ⟨b, o, none⟩ ∧ b < B ∧ xs[i]? = some x ∧ w.cell? ⟨b, o + i * 2, none⟩ = some (.slice x.A x.n x.c) ∧ w.cell? ⟨b, o + i * 2 + 1, none⟩ = some (.int .i64 x.v) := by
  obtain ⟨b, o, x, hA, hB, hx, hc⟩ := h.lt hi
  exact ⟨b, o, x, hA, hB, hx, by simpa using hc 0 _ rfl, by simpa using hc 1 _ rfl⟩
def gtB (x y : Ch) : Bool := decide (y.v < x.v)
set_option maxHeartbeats 1000000 in
theorem chCmp_any (x y : Ch) (w : World) :
    Calls Try.prog 85 #[.agg #[.slice x.A x.n x.c, .int .i64 x.v], .agg #[.slice y.A y.n y.c, .int .i64 y.v]] w fun e w' => e = .returned (.bool (gtB x y)) ∧ Below w.heap.size w w' := by
  have HB := Lib.hid (balloc (balloc (brefl w) (.cells #[.slice x.A x.n x.c, .int .i64 x.v] 109)) (.cells #[.slice y.A y.n y.c, .int .i64 y.v] 109))
  obtain ⟨q, hq⟩ : ∃ q, gtB x y = q := ⟨_, rfl⟩
  have hd : decide (y.v < x.v) = q := hq
  rw [hq]
  clear hq
  go_enter Try.func85, Try.ntmps85
  go_wp2
  go_ret
  exact ⟨ret_bool (by simp_all), HB.out⟩
/-- Block N the result, N + 1 the best so far. -/
structure BW (w W : World) (x : Ch) : Prop where
  bel : Below w.heap.size w W
  b0 : Blk W w.heap.size 109 #[.slice none 0 0, .int .i64 0]
  b1 : Blk W (w.heap.size + 1) 109 #[.slice x.A x.n x.c, .int .i64 x.v]
theorem BW.later {w W W' : World} {x : Ch} (h : BW w W x) (hb : Below W.heap.size W W') : BW w W' x := ⟨Below.later h.bel hb, h.b0.later hb, h.b1.later hb⟩
theorem BW.set {w W : World} {x : Ch} (h : BW w W x) (y : Ch) : BW w ((W.setCell ⟨w.heap.size + 1, 0, none⟩ (.slice y.A y.n y.c)).setCell ⟨w.heap.size + 1, 1, none⟩ (.int .i64 y.v)) y :=
  ⟨(h.bel.setCell (by show w.heap.size ≤ w.heap.size + 1; omega) _).setCell (by show w.heap.size ≤ w.heap.size + 1; omega) _, (h.b0.other (by show w.heap.size + 1 ≠ _; omega) _).other (by show w.heap.size + 1 ≠ _; omega) _, by
    have h1 := (h.b1.set 0 (.slice y.A y.n y.c)).set 1 (.int .i64 y.v)
    simpa using h1⟩
set_option maxRecDepth 100000 in
set_option maxHeartbeats 4000000 in
theorem bestCh_any (A : Option Addr) (n c : Nat) (xs : List Ch) (w : World) (hs : Sl 2 encCh w w.heap.size A n c xs) (hn : 0 < n) :
    Calls Try.prog 84 #[.slice A n c, .func (.func 85) #[] #[]] w fun e w' => (∃ x ∈ xs, e = .returned (.agg #[.slice x.A x.n x.c, .int .i64 x.v]) ∧ ∀ y ∈ xs, y.v ≤ x.v) ∧ Below w.heap.size w w' := by
  obtain rfl := hs.len
  have hcap := hs.cap
  have hbig := hs.big
  obtain ⟨rb, ro, x0, rfl, hrb, hx0, g0, g1⟩ := hs.ltCh hn
  have Hs := Lib.hid hs
  have Hx0 := Lib.hid hx0
  have i1 : (0 : Int) < (xs.length : Int) := by omega
  have i2 : (1 : Int) ≤ (xs.length : Int) := by omega
  have i3 : (1 : Int) ≤ (c : Int) := by omega
  have i4 : (xs.length : Int) ≤ (c : Int) := by omega
  have HB0 := Lib.hid (show BW w ((w.alloc (.cells #[.slice none 0 0, .int .i64 0] 109)).alloc (.cells #[.slice x0.A x0.n x0.c, .int .i64 x0.v] 109)) x0 from ⟨balloc (balloc (brefl w) _) _, (Blk.new w _ _).alloc _, by
    have h1 := Blk.new (w.alloc (.cells #[.slice none 0 0, .int .i64 0] 109)) 109 #[.slice x0.A x0.n x0.c, .int .i64 x0.v]
    rw [World.size_alloc] at h1
    exact h1⟩)
  rw [Nat.zero_mul, Nat.add_zero] at g0 g1
  clear hs hx0
  go_enter Try.func84, Try.ntmps84
  go_wp2_with fail
  · rename_i h1
    have hx1 : xs.length = 1 := by omega
    have HL := Lib.hid hx1
    have j1 : ¬ ((0 : Int) < ((xs.length - 1 : Nat) : Int)) := by omega
    clear hx1
    refine wp_loop_rounds 1 ?_
    rw [rounds_succ]
    clear g0 g1
    generalize (w.alloc (.cells #[.slice none 0 0, .int .i64 0] 109)).alloc (.cells #[.slice x0.A x0.n x0.c, .int .i64 x0.v] 109) = W at *
    obtain ⟨x, hx⟩ : ∃ x, x0 = x := ⟨_, rfl⟩
    subst hx
    have hBX := HB0.out
    have c0 := hBX.b1.cell 0
    have c1 := hBX.b1.cell 1
    have c2 := hBX.b1.lt
    have b1 := hBX.b0.frozen 0
    have b2 := hBX.b0.frozen 1
    have b3 := hBX.b0.cell 0
    have b4 := hBX.b0.cell 1
    have HM := Lib.hid (List.mem_of_getElem? Hx0.out)
    have HE := Lib.hid (show ∀ y ∈ xs, y.v ≤ x0.v from fun y hy => by
      obtain ⟨j, hj⟩ := List.getElem?_of_mem hy
      have h2 := (List.getElem?_eq_some_iff.1 hj).1
      obtain rfl : j = 0 := by have := HL.out; omega
      rw [Hx0.out] at hj; cases hj; exact Int.le_refl _)
    clear hBX
    go_wp2
    have hBX := HB0.out
    have b5 := hBX.b0.lt
    refine bodyPost_ret (v := .agg #[.slice x0.A x0.n x0.c, .int .i64 x0.v]) ?_ rfl ⟨⟨x0, HM.out, rfl, HE.out⟩, (HB0.out.bel.setCell (by show w.heap.size ≤ w.heap.size; omega) _).setCell (by show w.heap.size ≤ w.heap.size; omega) _⟩
    have e0 : ((W.setCell ⟨w.heap.size, 0, none⟩ (.slice x0.A x0.n x0.c)).setCell ⟨w.heap.size, 1, none⟩ (.int .i64 x0.v)).cell? ⟨w.heap.size, 0, none⟩ = some (.slice x0.A x0.n x0.c) := by
      rw [((hBX.b0.set 0 _).set 1 _).cell 0]; rfl
    have e1 : ((W.setCell ⟨w.heap.size, 0, none⟩ (.slice x0.A x0.n x0.c)).setCell ⟨w.heap.size, 1, none⟩ (.int .i64 x0.v)).cell? ⟨w.heap.size, 1, none⟩ = some (.int .i64 x0.v) := by
      rw [((hBX.b0.set 0 _).set 1 _).cell 1]; rfl
    simp [results, Try.results84, go_sem, e0, e1]
  clear g0 g1
  refine loop_n (fun m b W => b.defers = [] ∧ ∃ (i : Nat) (x : Ch), i + m = xs.length - 1 ∧ Hid (x ∈ xs) ∧ Hid (∀ j y, j ≤ i → xs[j]? = some y → y.v ≤ x.v) ∧ BW w W x ∧ Fits (none :: some (.func (.func 85) #[] #[]) :: none :: none :: some (.pointer (some ⟨w.heap.size, 0, none⟩)) :: some (.pointer (some ⟨w.heap.size + 1, 0, none⟩)) :: none :: none :: none :: none :: none :: none :: some (.slice (some ⟨rb, ro + 2, none⟩) (xs.length - 1) (c - 1)) :: some (.int .i64 ((xs.length - 1 : Nat) : Int)) :: some (.int .i64 (i : Nat)) :: none :: none :: none :: none :: none :: none :: none :: none :: none :: none :: []) b.tmps.toList) (xs.length - 1) ?_ ?_
  · refine ⟨rfl, 0, x0, by omega, Lib.hid (List.mem_of_getElem? Hx0.out), Lib.hid (fun j y hj hy => ?_), HB0.out, ?_⟩
    · obtain rfl : j = 0 := by omega
      rw [Hx0.out] at hy; cases hy; exact Int.le_refl _
    · repeat (first | exact fits_nil | refine fits_none ?_ | refine fits_some ?_)
  clear HB0
  obtain ⟨n1, hn1⟩ : ∃ n1, xs.length = n1 + 1 := ⟨xs.length - 1, by omega⟩
  have HN := Lib.hid hn1
  rw [hn1] at Hs i1 i2 i4 hcap ⊢
  clear hn hn1
  simp only [Nat.add_sub_cancel]
  intro m b W hI K hK
  obtain ⟨hds, i, x, him, hxm, hmax, hB, hfit⟩ := hI
  obtain ⟨f, hf⟩ := fits_act hfit
  rw [hds] at hf
  subst hf
  clear hfit hds
  simp only [fillP, Nat.reduceAdd]
  have HB := Lib.hid hB
  have hb0 := hB.b0.lt
  by_cases hlt : i < n1
  · obtain ⟨rb', ro', y, hA, hrb', hy, g0, g1⟩ := (Hs.out.later hB.bel).ltCh (show i + 1 < n1 + 1 by omega)
    simp only [Option.some.injEq, Addr.mk.injEq, and_true] at hA
    obtain ⟨rfl, rfl⟩ := hA
    rw [show ro + (i + 1) * 2 = ro + 2 + i * 2 by omega] at g0 g1
    have j1 : (i : Int) < (n1 : Int) := by omega
    have j2 : (0 : Int) ≤ (i : Int) := by omega
    have j3 : IntKind.i64.wrap ((i : Int) + 1) = (i : Int) + 1 := by rw [IntKind.wrap_i64]; omega
    have hal := balloc (brefl W) (.cells #[.slice y.A y.n y.c, .int .i64 y.v] 109)
    have hnb : Blk (W.alloc (.cells #[.slice y.A y.n y.c, .int .i64 y.v] 109)) W.heap.size 109 #[.slice y.A y.n y.c, .int .i64 y.v] := Blk.new _ _ _
    have hB1 := hB.later hal
    have HB1 := Lib.hid hB1
    have Hnb := Lib.hid hnb
    have c0 := hB1.b1.cell 0
    have c1 := hB1.b1.cell 1
    have c2 := hB1.b1.lt
    have Hy := Lib.hid hy
    have Hxm := Lib.hid hxm
    clear hB HB hy hal hnb hB1
    go_wp2_with fail
    refine (chCmp_any y x _).mono ?_
    rintro e w1 ⟨rfl, hb1⟩
    have hB2 := HB1.out.later hb1
    have hn2 := Hnb.out.later hb1
    have d0 := hn2.cell 0
    have d1 := hn2.cell 1
    have d2 := hn2.lt
    have e2 := hB2.b1.lt
    have e3 := hB2.b1.frozen 0
    have e4 := hB2.b1.frozen 1
    have e5 := hB2.b1.cell 0
    have e6 := hB2.b1.cell 1
    have HB2 := Lib.hid hB2
    clear hb1 hB2 hn2 c0 c1 c2
    cases hq : gtB y x with
    | true =>
      have Hq := Lib.hid (show x.v < y.v from of_decide_eq_true hq)
      have HB3 := Lib.hid (HB2.out.set y)
      clear hq
      go_wp2
      refine hK _ _ (m - 1) (by omega) ⟨rfl, i + 1, y, by omega, Lib.hid (List.mem_of_getElem? Hy.out), Lib.hid (fun j z hj hz => ?_), HB3.out, ?_⟩
      · by_cases e : j = i + 1
        · subst e; rw [Hy.out] at hz; cases hz; exact Int.le_refl _
        · have h1 := hmax.out j z (by omega) hz; have := Hq.out; omega
      · repeat (first | exact fits_nil | refine fits_none ?_ | refine fits_some ?_)
    | false =>
      have Hq := Lib.hid (show ¬ x.v < y.v from of_decide_eq_false hq)
      clear hq
      go_wp2
      refine hK _ _ (m - 1) (by omega) ⟨rfl, i + 1, x, by omega, Hxm, Lib.hid (fun j z hj hz => ?_), HB2.out, ?_⟩
      · by_cases e : j = i + 1
        · subst e; rw [Hy.out] at hz; cases hz; have := Hq.out; omega
        · exact hmax.out j z (by omega) hz
      · repeat (first | exact fits_nil | refine fits_none ?_ | refine fits_some ?_)
  · obtain rfl : i = n1 := by omega
    have c0 := hB.b1.cell 0
    have c1 := hB.b1.cell 1
    have c2 := hB.b1.lt
    have HE := Lib.hid (show ∀ y ∈ xs, y.v ≤ x.v from fun y hy => by
      obtain ⟨j, hj⟩ := List.getElem?_of_mem hy
      exact hmax.out j y (by have := (List.getElem?_eq_some_iff.1 hj).1; rw [HN.out] at this; omega) hj)
    have b1 := hB.b0.frozen 0
    have b2 := hB.b0.frozen 1
    have b3 := hB.b0.cell 0
    have b4 := hB.b0.cell 1
    have HM := Lib.hid hxm.out
    have HBX := Lib.hid hB
    clear hK hB hmax
    go_wp2
    have hBX := HBX.out
    have b5 := hBX.b0.lt
    refine bodyPost_ret (v := .agg #[.slice x.A x.n x.c, .int .i64 x.v]) ?_ rfl ⟨⟨x, HM.out, rfl, HE.out⟩, (HBX.out.bel.setCell (by show w.heap.size ≤ w.heap.size; omega) _).setCell (by show w.heap.size ≤ w.heap.size; omega) _⟩
    have e0 : ((W.setCell ⟨w.heap.size, 0, none⟩ (.slice x.A x.n x.c)).setCell ⟨w.heap.size, 1, none⟩ (.int .i64 x.v)).cell? ⟨w.heap.size, 0, none⟩ = some (.slice x.A x.n x.c) := by
      rw [((hBX.b0.set 0 _).set 1 _).cell 0]; rfl
    have e1 : ((W.setCell ⟨w.heap.size, 0, none⟩ (.slice x.A x.n x.c)).setCell ⟨w.heap.size, 1, none⟩ (.int .i64 x.v)).cell? ⟨w.heap.size, 1, none⟩ = some (.int .i64 x.v) := by
      rw [((hBX.b0.set 0 _).set 1 _).cell 1]; rfl
    simp [results, Try.results84, go_sem, e0, e1]
end Go.Proofs.Ytbbdlebmagknmaa
