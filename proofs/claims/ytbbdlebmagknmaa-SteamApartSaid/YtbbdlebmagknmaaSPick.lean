/- steam's lists, from the beginning; the first one of the longest lists. -/
import Derived.Test.YtbbdlebmagknmaaSLists
import Derived.Laws.EntriesVeiled
namespace Go.Proofs.Ytbbdlebmagknmaa
open Go.RowKit Go.Shelf

theorem LS.start {w : World} {n gf : Nat} {lb : Array Value} : LS w.heap.size w (((((w.alloc (.cells #[.int .i64 (n : Int)] 3)).alloc (.cells #[.func (.func gf) #[] lb] 88)).alloc (.cells #[.slice none 0 0] 44)).alloc (.cells #[.slice (some ⟨w.heap.size + 1 + 1, 0, none⟩) 1 1] 90)).alloc (.cells #[.func (.func 87) #[] #[.pointer (some ⟨w.heap.size, 0, none⟩), .pointer (some ⟨w.heap.size + 1, 0, none⟩), .pointer (some ⟨w.heap.size + 1 + 1 + 1, 0, none⟩), .pointer (some ⟨w.heap.size + 1 + 1 + 1 + 1, 0, none⟩)]] 113)) w.heap.size (w.heap.size + 1) (w.heap.size + 1 + 1 + 1) (w.heap.size + 1 + 1 + 1 + 1) n (.func (.func gf) #[] lb) [[]] := by
  have s1 : ∀ (W : World) (o : Obj), (W.alloc o).heap.size = W.heap.size + 1 := fun W o => World.size_alloc W o
  have g2 := Blk.new w 3 #[.int .i64 (n : Int)]
  have g3 := Blk.new (w.alloc (.cells #[.int .i64 (n : Int)] 3)) 88 #[.func (.func gf) #[] lb]
  have g4 := Blk.new ((w.alloc (.cells #[.int .i64 (n : Int)] 3)).alloc (.cells #[.func (.func gf) #[] lb] 88)) 44 #[.slice none 0 0]
  have g5 := Blk.new (((w.alloc (.cells #[.int .i64 (n : Int)] 3)).alloc (.cells #[.func (.func gf) #[] lb] 88)).alloc (.cells #[.slice none 0 0] 44)) 90 #[.slice (some ⟨w.heap.size + 1 + 1, 0, none⟩) 1 1]
  have g6 := Blk.new ((((w.alloc (.cells #[.int .i64 (n : Int)] 3)).alloc (.cells #[.func (.func gf) #[] lb] 88)).alloc (.cells #[.slice none 0 0] 44)).alloc (.cells #[.slice (some ⟨w.heap.size + 1 + 1, 0, none⟩) 1 1] 90)) 113 #[.func (.func 87) #[] #[.pointer (some ⟨w.heap.size, 0, none⟩), .pointer (some ⟨w.heap.size + 1, 0, none⟩), .pointer (some ⟨w.heap.size + 1 + 1 + 1, 0, none⟩), .pointer (some ⟨w.heap.size + 1 + 1 + 1 + 1, 0, none⟩)]]
  simp only [s1] at g3 g4 g5 g6
  refine ⟨balloc (balloc (balloc (balloc (balloc (brefl w) _) _) _) _) _, (((g2.alloc _).alloc _).alloc _).alloc _, ((g3.alloc _).alloc _).alloc _, g6, by omega, _, [.slice none 0 0], g5.alloc _, rfl, ?_, fun i l hi => ?_⟩
  · exact ⟨rfl, .inr ⟨w.heap.size + 1 + 1, 1, _, rfl, by omega, (g4.alloc _).alloc _, Nat.le_refl _, by simp [maxLen], rfl, rfl⟩⟩
  · cases i with
    | zero =>
      obtain rfl : l = [] := by simpa using hi.symm
      exact ⟨_, rfl, World.ownsRow_nil _ _ _ _⟩
    | succ i => simp at hi
set_option maxRecDepth 100000 in
set_option maxHeartbeats 8000000 in
theorem lists_any (n : Nat) (gf : Nat) (lb : Array Value) (ef : ∀ args w, (callFunc gf args).run Try.prog w = .ok (.enter gf args) w) (fits : List Nat → Bool) (hn : n ≤ 10) (w : World)
    (hf : ∀ l v W, Below w.heap.size w W → ListV W w.heap.size l v → (∀ x ∈ l, x < n) → l.length ≤ n → Calls Try.prog gf (#[v] ++ lb) W fun e W' => e = .returned (.bool (fits l)) ∧ Below W.heap.size W W') :
    Calls Try.prog 72 #[.int .i64 (n : Int), .func (.func gf) #[] lb] w fun e w' => ∃ ov vs, e = .returned ov ∧ Below w.heap.size w w' ∧ OutV w' w.heap.size ([] :: goL fits n n []) ov vs := by
  go_enter Try.func72, Try.ntmps72
  have HS := Lib.hid (LS.start (w := w) (n := n) (gf := gf) (lb := lb))
  go_wp2_with fail
  have H := goOn_any w.heap.size w w.heap.size (w.heap.size + 1) (w.heap.size + 1 + 1 + 1) (w.heap.size + 1 + 1 + 1 + 1) n gf lb ef fits hn hf n [] (.slice none 0 0) _ [[]] (Nat.le_refl _) (by simp) (by simp) HS.out (World.ownsRow_nil _ _ _ _) (by
    have : 2 ^ n ≤ 2 ^ 10 := Nat.pow_le_pow_right (by omega) hn
    simp; omega)
  rw [Nat.sub_self, show ((0 : Nat) : Int) = 0 from rfl] at H
  refine H.mono ?_
  rintro e W ⟨rfl, hL, _⟩
  obtain ⟨ov, vs, h1, h2⟩ := hL.out
  have c0 := h1.cell 0
  have c1 := h1.lt
  have HL := Lib.hid hL.bel
  have HO := Lib.hid h2
  clear hL h1 h2 H HS hf
  go_wp2
  go_ret
  exact ⟨ov, vs, rfl, HL.out, HO.out⟩
set_option maxHeartbeats 1000000 in
theorem keep2_any (A B : Option Addr) (n m c d : Nat) (w : World) :
    Calls Try.prog 73 #[.slice A n c, .slice B m d] w fun e w' => e = .returned (.bool (decide (m < n))) ∧ Below w.heap.size w w' := by
  go_enter Try.func73, Try.ntmps73
  go_wp2
  go_ret
  exact ⟨ret_bool (by simp), brefl _⟩
/-- The first one of the longest of some lists, and of one that comes before them. -/
def pickL : List (List Nat) → List Nat → List Nat
  | [], b => b
  | x :: xs, b => pickL xs (if b.length < x.length then x else b)
theorem OutV.at_ {W : World} {base : Nat} {os : List (List Nat)} {ov : Value} {vs : List Value} (h : OutV W base os ov vs) {g n cap : Nat} (hv : ov = .slice (some ⟨g, 0, none⟩) n cap) {i : Nat} {l : List Nat} (hi : os[i]? = some l) : ∃ A c, ListV W base l (.slice A l.length c) ∧ W.cell? ⟨g, i, none⟩ = some (.slice A l.length c) := by
  obtain ⟨v, h1, h2⟩ := h.rows i l hi
  have hvv : ∃ A c, v = .slice A l.length c := by
    rcases h2.2 with ⟨rfl, h0⟩ | ⟨g', cap', _, rfl, _⟩
    · exact ⟨none, 0, by rw [h0]⟩
    · exact ⟨_, cap', rfl⟩
  obtain ⟨A, c, rfl⟩ := hvv
  refine ⟨A, c, h2, ?_⟩
  rcases h.own.2 with ⟨rfl, _⟩ | ⟨g', cap', cur, rfl, _, hg, _, _, _, ht⟩
  · cases hv
  · simp only [Value.slice.injEq, Option.some.injEq, Addr.mk.injEq, and_true] at hv
    obtain ⟨rfl, _⟩ := hv
    rw [← ht] at h1
    have h5 := (List.getElem?_eq_some_iff.1 h1).1
    rw [List.getElem?_take_of_lt (by simp at h5; omega)] at h1
    simp only [World.cell?, hg]
    simpa using h1
set_option maxRecDepth 100000 in
set_option maxHeartbeats 8000000 in
theorem bestL_any (base : Nat) (l0 : List Nat) (os : List (List Nat)) (ov : Value) (vs : List Value) (w : World) (ho : OutV w base (l0 :: os) ov vs) :
    Calls Try.prog 71 #[ov, .func (.func 73) #[] #[]] w fun e w' => ∃ v, e = .returned v ∧ ListV w' base (pickL os l0) v ∧ Below w.heap.size w w' := by
  obtain ⟨g, n, cap, hov, hlen, hcap, hbig, hgl⟩ : ∃ g n cap, ov = .slice (some ⟨g, 0, none⟩) (n + 1) cap ∧ os.length = n ∧ n + 1 ≤ cap ∧ cap ≤ 9223372036854775807 ∧ g < w.heap.size := by
    have hl := ho.len
    rcases ho.own.2 with ⟨_, h0⟩ | ⟨g, cap, _, rfl, _, hg, hc, hm, _⟩
    · rw [hl] at h0; simp at h0
    · exact ⟨g, os.length, cap, by rw [hl]; rfl, rfl, by rw [hl] at hc; simpa using hc, by simp only [maxLen] at hm; omega, (Array.getElem?_eq_some_iff.1 hg).1⟩
  subst hov
  obtain ⟨A0, c0, hl0, g0⟩ := ho.at_ rfl (i := 0) (l := l0) rfl
  have Ho := Lib.hid ho
  have Hl0 := Lib.hid hl0
  have Hlen := Lib.hid hlen
  have i1 : (0 : Int) < (n : Int) + 1 := by omega
  have i2 : (1 : Int) ≤ (n : Int) + 1 := by omega
  have i3 : (1 : Int) ≤ (cap : Int) := by omega
  have i4 : (n : Int) + 1 ≤ (cap : Int) := by omega
  clear ho hl0 hlen
  go_enter Try.func71, Try.ntmps71
  go_wp2_with fail
  · rename_i h1
    have hn0 : n = 0 := by omega
    have HP := Lib.hid (show pickL os l0 = l0 by
      have := Hlen.out
      rw [List.eq_nil_of_length_eq_zero (by omega : os.length = 0)]; rfl)
    have j1 : ¬ ((0 : Int) < (n : Int)) := by omega
    clear hn0
    refine wp_loop_rounds 1 ?_
    rw [rounds_succ]
    go_wp2
    go_ret
    exact ⟨_, rfl, by rw [HP.out]; exact Hl0.out, brefl _⟩
  clear g0
  refine loop_n (fun m b W => b.defers = [] ∧ ∃ (i : Nat) (l : List Nat) (A : Option Addr) (c : Nat), i + m = n ∧ Hid (pickL (os.drop i) l = pickL os l0) ∧ ListV W base l (.slice A l.length c) ∧ Below w.heap.size w W ∧ Fits (none :: some (.func (.func 73) #[] #[]) :: none :: none :: none :: some (.slice A l.length c) :: none :: none :: none :: none :: none :: none :: some (.slice (some ⟨g, 1, none⟩) n (cap - 1)) :: some (.int .i64 (n : Int)) :: some (.int .i64 (i : Nat)) :: none :: none :: none :: none :: none :: none :: none :: none :: none :: none :: []) b.tmps.toList) n ?_ ?_
  · refine ⟨rfl, 0, l0, A0, c0, by omega, Lib.hid rfl, Hl0.out, brefl _, ?_⟩
    repeat (first | exact fits_nil | refine fits_none ?_ | refine fits_some ?_)
  intro m b W hI K hK
  obtain ⟨hds, i, l, A, c, him, hpk, hl, hb, hfit⟩ := hI
  obtain ⟨f, hf⟩ := fits_act hfit
  rw [hds] at hf
  subst hf
  clear hfit hds
  simp only [fillP, Nat.reduceAdd]
  have Hl := Lib.hid hl
  have Hb := Lib.hid hb
  by_cases hlt : i < n
  · obtain ⟨l', hl'⟩ : ∃ l', os[i]? = some l' := ⟨_, List.getElem?_eq_getElem (by rw [Hlen.out]; exact hlt)⟩
    obtain ⟨A', c', hlv, g1⟩ := Ho.out.at_ rfl (i := i + 1) (l := l') (by simpa using hl')
    have g1' : W.cell? ⟨g, 1 + i, none⟩ = some (.slice A' l'.length c') := by rw [Nat.add_comm]; exact (hb.cell (p := ⟨g, i + 1, none⟩) hgl).trans g1
    have g2 : W.cell? ⟨g, i + 1, none⟩ = some (.slice A' l'.length c') := (hb.cell (p := ⟨g, i + 1, none⟩) hgl).trans g1
    have gl2 : g < W.heap.size := Nat.lt_of_lt_of_le hgl hb.size
    have Hlv := Lib.hid (show ListV W base l' (.slice A' l'.length c') from own_later hlv hb)
    have hdr : os.drop i = l' :: os.drop (i + 1) := by
      obtain ⟨h1, h2⟩ := List.getElem?_eq_some_iff.1 hl'
      rw [List.drop_eq_getElem_cons h1, h2]
    have Hpk := Lib.hid (show pickL (os.drop (i + 1)) (if l.length < l'.length then l' else l) = pickL os l0 by rw [← hpk.out, hdr]; rfl)
    have j1 : (i : Int) < (n : Int) := by omega
    have j2 : (0 : Int) ≤ (i : Int) := by omega
    have j3 : IntKind.i64.wrap ((i : Int) + 1) = (i : Int) + 1 := by rw [IntKind.wrap_i64]; omega
    clear g1 hlv hl hb hl' hdr hpk
    go_wp2_with fail
    refine (keep2_any A' A l'.length l.length c' c _).mono ?_
    rintro e w1 ⟨rfl, hb1⟩
    have Hb1 := Lib.hid (Below.later Hb.out hb1)
    have Hlv1 := Lib.hid (show ListV w1 base l' (.slice A' l'.length c') from own_later Hlv.out hb1)
    have Hl1 := Lib.hid (show ListV w1 base l (.slice A l.length c) from own_later Hl.out hb1)
    clear hb1 g1' g2 gl2
    cases hq : decide (l.length < l'.length) with
    | true =>
      rw [if_pos (of_decide_eq_true hq)] at Hpk
      clear hq
      go_wp2
      refine hK _ _ (m - 1) (by omega) ⟨rfl, i + 1, l', A', c', by omega, Lib.hid Hpk.out, Hlv1.out, Hb1.out, ?_⟩
      repeat (first | exact fits_nil | refine fits_none ?_ | refine fits_some ?_)
    | false =>
      rw [if_neg (of_decide_eq_false hq)] at Hpk
      clear hq
      go_wp2
      refine hK _ _ (m - 1) (by omega) ⟨rfl, i + 1, l, A, c, by omega, Lib.hid Hpk.out, Hl1.out, Hb1.out, ?_⟩
      repeat (first | exact fits_nil | refine fits_none ?_ | refine fits_some ?_)
  · obtain rfl : i = n := by omega
    have HE := Lib.hid (show pickL os l0 = l by
      rw [← hpk.out, List.drop_eq_nil_of_le (by rw [Hlen.out]; exact Nat.le_refl _)]; rfl)
    clear hK hpk hl hb
    go_wp2
    go_ret
    exact ⟨_, rfl, by rw [HE.out]; exact Hl.out, Hb.out⟩
end Go.Proofs.Ytbbdlebmagknmaa
