/- The walk of SteamApart. -/
import Derived.Test.YtbbdlebmagknmaaSMore
namespace Go.Proofs.Ytbbdlebmagknmaa
open Go.RowKit Go.Shelf

def thirdR (r : Rg) : Rg := ⟨r.lo.tdiv 3, r.hi.tdiv 3⟩
def fiftyR (r : Rg) : Rg := ⟨50 + r.lo.tdiv 3, 50 + r.hi.tdiv 3⟩
theorem third_is {r : Rg} (hr : 0 ≤ r.lo ∧ r.lo ≤ r.hi ∧ r.hi ≤ 100) : (0 ≤ r.lo.tdiv 3 ∧ r.lo.tdiv 3 ≤ r.hi.tdiv 3) ∧ r.hi.tdiv 3 ≤ 33 := by
  rw [Int.tdiv_eq_ediv_of_nonneg hr.1, Int.tdiv_eq_ediv_of_nonneg (by omega)]
  omega
theorem map_take {f : Rg → Rg} {rs : List Rg} {i : Nat} {x : Rg} (hx : rs[i]? = some x) : (rs.take i).map f ++ [f x] = (rs.take (i + 1)).map f := by
  obtain ⟨h1, h2⟩ := List.getElem?_eq_some_iff.1 hx
  rw [List.take_succ_eq_append_getElem h1, h2, List.map_append, List.map_cons, List.map_nil]
/-- A given yard in block B0, one that is made in block P, others beside, and a list that was made before. -/
structure KQ (w W : World) (N B0 P : Nat) (L : Int) (A : Option Addr) (n c : Nat) (M : Int) (v : Value) (xs : List Rg) (ex : List (Nat × Array Value)) (vx : Value) (ys : List Rg) : Prop where
  bel : Below w.heap.size w W
  bp : Blk W P 24 #[.int .i64 M, v]
  own : W.ownsRow N 27 2 v xs.length (xs.flatMap encR)
  b0 : Blk W B0 24 #[.int .i64 L, .slice A n c]
  hB : B0 ≠ P
  hP : w.heap.size ≤ P
  hN : w.heap.size ≤ N
  ex : ∀ p ∈ ex, p.1 ≠ P ∧ Blk W p.1 24 p.2
  ox : W.ownsRow w.heap.size 27 2 vx ys.length (ys.flatMap encR)
  oN : ∀ g, vx.ownBlock = some g → g < N
  hW : N ≤ W.heap.size
section
variable {w W W' : World} {N B0 P : Nat} {L : Int} {A : Option Addr} {n c : Nat} {M : Int} {v : Value} {xs : List Rg} {ex : List (Nat × Array Value)} {vx : Value} {ys : List Rg}
theorem KQ.later (h : KQ w W N B0 P L A n c M v xs ex vx ys) (hb : Below W.heap.size W W') : KQ w W' N B0 P L A n c M v xs ex vx ys :=
  ⟨Below.later h.bel hb, h.bp.later hb, own_later h.own hb, h.b0.later hb, h.hB, h.hP, h.hN, fun p hp => ⟨(h.ex p hp).1, (h.ex p hp).2.later hb⟩, own_later h.ox hb, h.oN, Nat.le_trans h.hW hb.size⟩
theorem KQ.grown (h : KQ w W N B0 P L A n c M v xs ex vx ys) {v' : Value} {x : Rg} (hg : W.grownBy W' v.ownBlock) (ho : W'.ownsRow N 27 2 v' (xs.length + 1) (xs.flatMap encR ++ encR x)) : KQ w (W'.setCell ⟨P, 1, none⟩ v') N B0 P L A n c M v' (xs ++ [x]) ex vx ys := by
  have hP := h.hP
  have hN := h.hN
  have hbp := h.bp.grown hg (h.bp.notRow h.own (by decide))
  refine ⟨bset (below_row h.bel hg (fun r hr => Nat.le_trans hN (own_base h.own r hr)) h.bel.size) (by show w.heap.size ≤ P; omega) _, hbp.set 1 _, ?_, (h.b0.grown hg (h.b0.notRow h.own (by decide))).other (by show P ≠ _; exact fun e => h.hB e.symm) _, h.hB, hP, hN, fun p hp => ?_, ?_, h.oN, Nat.le_trans (Nat.le_trans h.hW hg.size) (by simp [World.setCell])⟩
  · have := own_other ho ⟨P, 1, none⟩ (hbp.notRow ho (by decide)) v'
    simpa [List.flatMap_append] using this
  · obtain ⟨h1, h2⟩ := h.ex p hp
    exact ⟨h1, (h2.grown hg (h2.notRow h.own (by decide))).other (by show P ≠ _; exact fun e => h1 e.symm) _⟩
  · have h3 := own_grown h.ox hg (fun g hv e => by have := own_base h.own g e; have := h.oN g hv; omega)
    exact own_other h3 ⟨P, 1, none⟩ (hbp.notRow h3 (by decide)) v'
theorem KQ.made (h : KQ w W N B0 P L A n c M v xs ex vx ys) : ∃ A' c', v = .slice A' xs.length c' ∧ LW w W P M A' xs.length c' xs := by
  obtain ⟨A', c', hv, hsl⟩ := own_slG (k := 2) (enc := encR) (fun _ => rfl) h.own rfl
  refine ⟨A', c', hv, h.bel, ?_, hsl⟩
  have := h.bp
  rw [hv] at this
  exact this
theorem KQ.old (h : KQ w W N B0 P L A n c M v xs ex vx ys) {Q : Nat} {K : Int} (hq : (Q, #[.int .i64 K, vx]) ∈ ex) : ∃ A' c', vx = .slice A' ys.length c' ∧ LW w W Q K A' ys.length c' ys := by
  obtain ⟨A', c', hv, hsl⟩ := own_slG (k := 2) (enc := encR) (fun _ => rfl) h.ox rfl
  refine ⟨A', c', hv, h.bel, ?_, hsl⟩
  have := (h.ex _ hq).2
  simp only [hv] at this
  exact this
end
/-- A yard stays, when another one is stored into. -/
theorem LW.other {w W : World} {B0 P o : Nat} {L : Int} {A : Option Addr} {n c : Nat} {rs : List Rg} {Q : Nat} {K : Int} {u : Value} (h : LW w W B0 L A n c rs) (hn : B0 ≠ P) (hP : w.heap.size ≤ P) (hq : Blk W P 24 #[.int .i64 K, u]) (ho : W.ownsRow Q 27 2 (.slice A n c) rs.length (rs.flatMap encR)) (x : Value) : LW w (W.setCell ⟨P, o, none⟩ x) B0 L A n c rs := by
  have h1 := own_other ho ⟨P, o, none⟩ (hq.notRow ho (by decide)) x
  obtain ⟨A', c', hv, hsl⟩ := own_slG (k := 2) (enc := encR) (fun _ => rfl) h1 rfl
  simp only [Value.slice.injEq] at hv
  obtain ⟨rfl, rfl, rfl⟩ := hv
  exact ⟨bset h.bel hP _, h.b0.other (fun e => hn e.symm) _, hsl⟩
/-- All numbers of a list are appended. -/
theorem run_app_ls {W : World} {base : Nat} (ty : TypeId) {v : Value} {xs : List Int} (hown : W.ownsRow base 2 1 v xs.length (xs.flatMap encI)) {A : Option Addr} {n c : Nat} {ys : List Int} (hs : Sl 1 encI W W.heap.size A n c ys) (hn0 : xs.length + n ≤ 1000000) (hb : base ≤ W.heap.size) :
    ∃ v' W', (Builtin.append_ #[25, 25] ty #[v, .slice A n c]).run Try.prog W = .ok v' W' ∧ (W.grownBy W' v.ownBlock ∧ W'.ownsRow base 2 1 v' (xs ++ ys).length ((xs ++ ys).flatMap encI)) := by
  obtain ⟨i0, hi0, hz0, hz1, hz2⟩ := info_parts info_long
  exact run_app_sl (k := 1) (enc := encI) (fun _ => rfl) (fun x u hu => by
    simp only [encI, List.mem_cons, List.not_mem_nil, or_false] at hu
    rw [hu]; rfl) (by decide) 25 2 ty und_longs hi0 hz0 hz1 hz2 rfl hown hs (by decide) hn0 hb
set_option maxRecDepth 100000 in
set_option maxHeartbeats 8000000 in
theorem apart_law (L : Int) (A : Option Addr) (n c : Nat) (rs : List Rg) (Lb : Int) (GA : Option Addr) (gn gc : Nat) (bs : List Rg) (w : World) (hs : Sl 2 encR w w.heap.size A n c rs) (hbs : Sl 2 encR w w.heap.size GA gn gc bs) :
    Calls Try.prog 14 #[.agg #[.int .i64 L, .slice A n c], .agg #[.int .i64 Lb, .slice GA gn gc]] w fun e w' => e = .returned (.bool true) ∧ Below w.heap.size w w' := by
  have hB := balloc (balloc (brefl w) (.cells #[.int .i64 L, .slice A n c] 24)) (.cells #[.int .i64 Lb, .slice GA gn gc] 24)
  have hbl := Blk.new (w.alloc (.cells #[.int .i64 L, .slice A n c] 24)) 24 #[.int .i64 Lb, .slice GA gn gc]
  rw [World.size_alloc] at hbl
  have HK0 := Lib.hid (show LW w ((w.alloc (.cells #[.int .i64 L, .slice A n c] 24)).alloc (.cells #[.int .i64 Lb, .slice GA gn gc] 24)) w.heap.size L A n c rs from ⟨hB, (Blk.new w _ _).alloc _, hs.later hB⟩)
  have HX0 := Lib.hid (show LW w ((w.alloc (.cells #[.int .i64 L, .slice A n c] 24)).alloc (.cells #[.int .i64 Lb, .slice GA gn gc] 24)) (w.heap.size + 1) Lb GA gn gc bs from ⟨hB, hbl, hbs.later hB⟩)
  clear hB hbl
  obtain ⟨c0, c1, c2⟩ := HK0.out.cells
  obtain ⟨d0, d1, d2⟩ := HX0.out.cells
  by_cases hy : yardE L rs = 0
  case neg =>
    have Hf := Lib.hid (fun W (h : Sl 2 encR W W.heap.size A n c rs) => fine_bad L A n c rs W h hy)
    clear hs hy
    go_enter Try.func14, Try.ntmps14
    go_wp2_with fail
    refine (Hf.out _ HK0.out.sl).mono ?_
    rintro e w1 ⟨rfl, hb⟩
    have HK1 := Lib.hid (HK0.out.later hb)
    have HX1 := Lib.hid (HX0.out.later hb)
    clear hb HK0 HX0 c0 c1 c2 d0 d1 d2
    obtain ⟨c0, c1, c2⟩ := HK1.out.cells
    obtain ⟨d0, d1, d2⟩ := HX1.out.cells
    go_wp2_with fail
    refine (works_any _).mono ?_
    rintro e we ⟨rfl, hbe⟩
    have HBE := Lib.hid (Below.later HK1.out.bel hbe)
    clear hbe
    go_wp2
    go_ret
    exact ⟨rfl, HBE.out⟩
  case pos =>
  have Hf := Lib.hid (fun W (h : Sl 2 encR W W.heap.size A n c rs) => fine_ok L A n c rs W h hy)
  by_cases hyb : yardE Lb bs = 0
  case neg =>
    have Hg := Lib.hid (fun W (h : Sl 2 encR W W.heap.size GA gn gc bs) => fine_bad Lb GA gn gc bs W h hyb)
    clear hs hbs hy hyb
    go_enter Try.func14, Try.ntmps14
    go_wp2_with fail
    refine (Hf.out _ HK0.out.sl).mono ?_
    rintro e w2 ⟨rfl, hb⟩
    have HK1 := Lib.hid (HK0.out.later hb)
    have HX1 := Lib.hid (HX0.out.later hb)
    clear hb HK0 HX0 c0 c1 c2 d0 d1 d2
    obtain ⟨c0, c1, c2⟩ := HK1.out.cells
    obtain ⟨d0, d1, d2⟩ := HX1.out.cells
    go_wp2_with fail
    refine (Hg.out _ HX1.out.sl).mono ?_
    rintro e w3 ⟨rfl, hb⟩
    have HK2 := Lib.hid (HK1.out.later hb)
    have HX2 := Lib.hid (HX1.out.later hb)
    clear hb HK1 HX1 c0 c1 c2 d0 d1 d2
    obtain ⟨c0, c1, c2⟩ := HK2.out.cells
    obtain ⟨d0, d1, d2⟩ := HX2.out.cells
    go_wp2_with fail
    refine (works_any _).mono ?_
    rintro e we ⟨rfl, hbe⟩
    have HBE := Lib.hid (Below.later HK2.out.bel hbe)
    clear hbe
    go_wp2
    go_ret
    exact ⟨rfl, HBE.out⟩
  case pos =>
  have Hg := Lib.hid (fun W (h : Sl 2 encR W W.heap.size GA gn gc bs) => fine_ok Lb GA gn gc bs W h hyb)
  obtain ⟨Ln, rfl, hLn, hr⟩ := yard_nat hy
  have hrb := (yard_ok hyb).2
  have hnl := hs.len
  have hgl := hbs.len
  have hn10 : n ≤ 10 := by rw [← hnl]; exact hr.1
  have hgn10 : gn ≤ 10 := by rw [← hgl]; exact hrb.1
  have hsum : IntKind.i64.wrap ((n : Int) + (gn : Int)) = (n : Int) + (gn : Int) := by rw [IntKind.wrap_i64]; omega
  by_cases hg : (10 : Int) < (n : Int) + (gn : Int)
  · clear hs hbs hy hyb hr hrb
    go_enter Try.func14, Try.ntmps14
    go_wp2_with fail
    refine (Hf.out _ HK0.out.sl).mono ?_
    rintro e w4 ⟨rfl, hb⟩
    have HK1 := Lib.hid (HK0.out.later hb)
    have HX1 := Lib.hid (HX0.out.later hb)
    clear hb HK0 HX0 c0 c1 c2 d0 d1 d2
    obtain ⟨c0, c1, c2⟩ := HK1.out.cells
    obtain ⟨d0, d1, d2⟩ := HX1.out.cells
    go_wp2_with fail
    refine (Hg.out _ HX1.out.sl).mono ?_
    rintro e w5 ⟨rfl, hb⟩
    have HK2 := Lib.hid (HK1.out.later hb)
    have HX2 := Lib.hid (HX1.out.later hb)
    clear hb HK1 HX1 c0 c1 c2 d0 d1 d2
    obtain ⟨c0, c1, c2⟩ := HK2.out.cells
    obtain ⟨d0, d1, d2⟩ := HX2.out.cells
    go_wp2_with fail
    refine (works_any _).mono ?_
    rintro e we ⟨rfl, hbe⟩
    have HBE := Lib.hid (Below.later HK2.out.bel hbe)
    clear hbe
    go_wp2
    go_ret
    exact ⟨rfl, HBE.out⟩
  have Hr := Lib.hid hr
  have Hrb := Lib.hid hrb
  have Hs := Lib.hid hs
  have Hbs := Lib.hid hbs
  have Hnl := Lib.hid hnl
  have Hgl := Lib.hid hgl
  obtain ⟨xl, hxl⟩ : ∃ xl, rs.map thirdR = xl := ⟨_, rfl⟩
  obtain ⟨zl, hzl⟩ : ∃ zl, bs.map fiftyR = zl := ⟨_, rfl⟩
  have hra : RsOk (xl ++ zl) := by
    rw [← hxl, ← hzl]
    refine ⟨by simp; omega, fun x hx => ?_⟩
    rcases List.mem_append.1 hx with h | h
    · obtain ⟨y, hy', rfl⟩ := List.mem_map.1 h
      have := third_is (hr.2 y hy')
      unfold thirdR
      simp only
      omega
    · obtain ⟨y, hy', rfl⟩ := List.mem_map.1 h
      have := third_is (hrb.2 y hy')
      unfold fiftyR
      simp only
      omega
  have hab : ∀ x ∈ xl, ∀ y ∈ zl, x.hi < y.lo := fun x hx y hy' => by
    rw [← hxl] at hx
    rw [← hzl] at hy'
    obtain ⟨x', hx', rfl⟩ := List.mem_map.1 hx
    obtain ⟨y', hy'', rfl⟩ := List.mem_map.1 hy'
    have h1 := third_is (hr.2 x' hx')
    have h2 := third_is (hrb.2 y' hy'')
    unfold thirdR fiftyR
    simp only
    omega
  have hrx : RsOk xl := ⟨Nat.le_trans (List.sublist_append_left xl zl).length_le hra.1, fun x hx => hra.2 x (by simp [hx])⟩
  have hrz : RsOk zl := ⟨Nat.le_trans (List.sublist_append_right xl zl).length_le hra.1, fun x hx => hra.2 x (by simp [hx])⟩
  have hxll : xl.length = n := by rw [← hxl, List.length_map]; exact hnl
  have hzll : zl.length = gn := by rw [← hzl, List.length_map]; exact hgl
  have Hxl := Lib.hid hxl
  have Hzl := Lib.hid hzl
  have Hxll := Lib.hid hxll
  have Hzll := Lib.hid hzll
  have Hra := Lib.hid hra
  have Hrx := Lib.hid hrx
  have Hrz := Lib.hid hrz
  have Hla := Lib.hid (la_apart hra hLn.1 hab)
  have Hea := Lib.hid (early_apart hra hLn.1 hab)
  clear hs hbs hy hyb hr hrb hnl hgl hxl hzl hra hab hrx hrz hxll hzll
  go_enter Try.func14, Try.ntmps14
  go_wp2_with fail
  refine (Hf.out _ HK0.out.sl).mono ?_
  rintro e w6 ⟨rfl, hb⟩
  have HK1 := Lib.hid (HK0.out.later hb)
  have HX1 := Lib.hid (HX0.out.later hb)
  clear hb HK0 HX0 c0 c1 c2 d0 d1 d2
  obtain ⟨c0, c1, c2⟩ := HK1.out.cells
  obtain ⟨d0, d1, d2⟩ := HX1.out.cells
  go_wp2_with fail
  refine (Hg.out _ HX1.out.sl).mono ?_
  rintro e w7 ⟨rfl, hb⟩
  have HK2 := Lib.hid (HK1.out.later hb)
  have HX2 := Lib.hid (HX1.out.later hb)
  clear hb HK1 HX1 c0 c1 c2 d0 d1 d2
  obtain ⟨c0, c1, c2⟩ := HK2.out.cells
  obtain ⟨d0, d1, d2⟩ := HX2.out.cells
  have hq1 := (Blk.new w7 24 #[.int .i64 (Ln : Int), .slice none 0 0])
  have hq2 := (Blk.new (w7.alloc (.cells #[.int .i64 (Ln : Int), .slice none 0 0] 24)) 24 #[.int .i64 (Ln : Int), .slice none 0 0])
  have hq3 := (Blk.new ((w7.alloc (.cells #[.int .i64 (Ln : Int), .slice none 0 0] 24)).alloc (.cells #[.int .i64 (Ln : Int), .slice none 0 0] 24)) 24 #[.int .i64 (Ln : Int), .slice none 0 0])
  rw [World.size_alloc] at hq2
  rw [World.size_alloc, World.size_alloc] at hq3
  have hlt1 := HX2.out.b0.lt
  have HQ := Lib.hid (show KQ w (((w7.alloc (.cells #[.int .i64 (Ln : Int), .slice none 0 0] 24)).alloc (.cells #[.int .i64 (Ln : Int), .slice none 0 0] 24)).alloc (.cells #[.int .i64 (Ln : Int), .slice none 0 0] 24)) w.heap.size w.heap.size w7.heap.size (Ln : Int) A n c (Ln : Int) (.slice none 0 0) [] [(w.heap.size + 1, #[.int .i64 Lb, .slice GA gn gc]), (w7.heap.size + 1, #[.int .i64 (Ln : Int), .slice none 0 0]), (w7.heap.size + 1 + 1, #[.int .i64 (Ln : Int), .slice none 0 0])] (.slice none 0 0) [] from
    ⟨balloc (balloc (balloc HK2.out.bel _) _) _, (hq1.alloc _).alloc _, World.ownsRow_nil _ _ _ _, ((HK2.out.b0.alloc _).alloc _).alloc _, by omega, by omega, Nat.le_refl _, fun p hp => by
      simp only [List.mem_cons, List.not_mem_nil, or_false] at hp
      rcases hp with rfl | rfl | rfl
      · exact ⟨by simp only; omega, ((HX2.out.b0.alloc _).alloc _).alloc _⟩
      · exact ⟨by simp only; omega, hq2.alloc _⟩
      · exact ⟨by simp only; omega, hq3⟩, World.ownsRow_nil _ _ _ _, (fun g hg => by cases hg), (by rw [World.size_alloc, World.size_alloc, World.size_alloc]; have := HK2.out.bel.size; omega)⟩)
  go_wp2_with fail
  clear c0 c1 c2 d0 d1 d2 hq1 hq2 hq3
  obtain ⟨P, hP⟩ : ∃ P, w7.heap.size = P := ⟨_, rfl⟩
  rw [hP] at HQ hlt1 ⊢
  clear hP HK2 HX2
  refine loop_n (fun q a W => a.defers = [] ∧ ∃ (i : Nat) (v : Value), i + q = n ∧ KQ w W w.heap.size w.heap.size P (Ln : Int) A n c (Ln : Int) v ((rs.take i).map thirdR) [(w.heap.size + 1, #[.int .i64 Lb, .slice GA gn gc]), (P + 1, #[.int .i64 (Ln : Int), .slice none 0 0]), (P + 1 + 1, #[.int .i64 (Ln : Int), .slice none 0 0])] (.slice none 0 0) [] ∧ Fits (none :: none :: some (.pointer (some ⟨w.heap.size, 0, none⟩)) :: some (.pointer (some ⟨w.heap.size + 1, 0, none⟩)) :: none :: some (.pointer (some ⟨P, 0, none⟩)) :: some (.pointer (some ⟨P + 1, 0, none⟩)) :: some (.pointer (some ⟨P + 1 + 1, 0, none⟩)) :: some (.int .i64 (i : Nat)) :: none :: none :: none :: none :: none :: none :: none :: none :: none :: none :: none :: none :: none :: none :: none :: none :: none :: none :: none :: none :: none :: none :: none :: none :: none :: none :: none :: none :: none :: none :: none :: none :: none :: none :: none :: none :: none :: none :: none :: none :: none :: none :: none :: none :: none :: none :: none :: none :: none :: none :: none :: none :: none :: none :: none :: none :: none :: none :: none :: none :: none :: none :: none :: none :: none :: none :: none :: none :: none :: none :: none :: none :: none :: none :: none :: none :: none :: none :: none :: none :: none :: none :: none :: none :: none :: none :: none :: none :: none :: none :: none :: none :: none :: none :: none :: none :: none :: none :: none :: none :: none :: none :: none :: none :: none :: none :: none :: none :: none :: none :: none :: none :: none :: none :: none :: none :: none :: none :: none :: none :: none :: none :: none :: none :: none :: none :: none :: none :: none :: none :: none :: none :: none :: none :: none :: none :: none :: none :: none :: none :: none :: none :: none :: none :: none :: none :: none :: none :: none :: none :: none :: none :: none :: none :: none :: none :: none :: none :: none :: none :: none :: none :: none :: none :: none :: none :: none :: none :: none :: none :: none :: none :: none :: none :: none :: none :: none :: none :: none :: []) a.tmps.toList) n ?_ ?_
  · refine ⟨rfl, 0, _, by omega, HQ.out, ?_⟩
    repeat (first | exact fits_nil | refine fits_none ?_ | refine fits_some ?_)
  clear HQ
  intro q a W hI K hK
  obtain ⟨hds, i, v, hiq, hKB, hfit⟩ := hI
  obtain ⟨f', hf'⟩ := fits_act hfit
  rw [hds] at hf'
  subst hf'
  clear hfit hds
  simp only [fillP, Nat.reduceAdd]
  have c0 := hKB.b0.cell 1
  have c1 := hKB.b0.lt
  have HK := Lib.hid hKB
  by_cases hlt : i < n
  · obtain ⟨rb, ro, _, rfl, hrw, _, _, _⟩ := Hs.out.ltR hlt
    obtain ⟨rb', ro', x, hA', hrb, hx, g0, g1⟩ := (Hs.out.later hKB.bel).ltR hlt
    cases hA'
    have hxr := Hr.out.2 x (List.mem_of_getElem? hx)
    have hxt := third_is hxr
    have hadd := map_take (f := thirdR) hx
    obtain ⟨xs, hxs⟩ : ∃ xs, (rs.take i).map thirdR = xs := ⟨_, rfl⟩
    obtain ⟨xy, hxy⟩ : ∃ xy, (rs.take (i + 1)).map thirdR = xy := ⟨_, rfl⟩
    have hxl : xs.length ≤ 100 := by rw [← hxs]; simp; omega
    rw [hxs] at hKB HK hadd
    rw [hxy] at hadd
    have Hadd := Lib.hid hadd
    have Hxy := Lib.hid hxy
    have i1 : (i : Int) < (n : Int) := by omega
    have i2 : (0 : Int) ≤ (i : Int) := by omega
    have i3 : IntKind.i64.wrap ((i : Int) + 1) = (i : Int) + 1 := by rw [IntKind.wrap_i64]; omega
    obtain ⟨ql, hql⟩ : ∃ q, x.lo.tdiv 3 = q := ⟨_, rfl⟩
    obtain ⟨qh, hqh⟩ : ∃ q, x.hi.tdiv 3 = q := ⟨_, rfl⟩
    rw [hql, hqh] at hxt
    have i4 : IntKind.i64.wrap ql = ql := by rw [IntKind.wrap_i64]; omega
    have i5 : IntKind.i64.wrap qh = qh := by rw [IntKind.wrap_i64]; omega
    have HFF := Lib.hid (show thirdR x = ⟨ql, qh⟩ by unfold thirdR; rw [hql, hqh])
    rw [HFF.out] at hadd
    have Hadd := Lib.hid hadd
    have b0 := hKB.bp.cell 0
    have b1 := hKB.bp.cell 1
    have b2 := hKB.bp.lt
    have hne := hKB.bp.notRow hKB.own (by decide)
    have hne0 := hKB.b0.notRow hKB.own (by decide)
    have hrow : ∀ r, v.ownBlock = some r → r < W.heap.size := fun r hr => own_lt hKB.own r hr
    have hrbn : v.ownBlock ≠ some rb := fun e => by have := own_base hKB.own rb e; have := hKB.hN; omega
    have Hrow := Lib.hid hrow
    clear hKB hx hadd hxs hxy hrow
    go_wp2_with fail
    refine dagRow 20 18 v.ownBlock (by kernel_rfl) (by kernel_rfl) (.is ?_ :: .is ?_ :: .is ?_ :: .is ?_ :: .is ?_ :: .is ?_ :: .is ?_ :: .is ?_ :: .is ?_ :: .is ?_ :: .is ?_ :: .is ?_ :: .is ?_ :: .is ?_ :: .is ?_ :: .is ?_ :: .is ?_ ::  .like (OneR W.heap.size (ql) (qh)) :: .like (RowR w.heap.size xy) :: .is ?_ :: []) rfl ?sta ?gda ?stba ?oba
    case sta => repeat (first | exact stab_nil | refine stab_is ?_ | refine stab_like (OneR.stab _ _) ?_ | refine stab_like (RowR.stab _) ?_)
    case gda => intro o ho; cases ho; rfl
    case stba => repeat (first | exact stabT_nil | refine stabT_is ?_ | refine stabT_like (fun _ _ _ h1 h2 => h2.grown h1.2 Hrow.out) ?_)
    case oba =>
    intro env V hG
    have HK2 := Lib.hid (HK.out.b0.grown hG hne0)
    have HK3 := Lib.hid (HK.out.bp.grown hG hne)
    have d1 := HK2.out.cell 1
    have d2 := HK2.out.lt
    have e1 := HK3.out.cell 1
    have e2 := HK3.out.lt
    have h0 := (World.cell?_of_block (a := ⟨rb, ro + i * 2, none⟩) (hG.block rb hrb (Ne.symm hrbn))).trans g0
    have h1 := (World.cell?_of_block (a := ⟨rb, ro + i * 2 + 1, none⟩) (hG.block rb hrb (Ne.symm hrbn))).trans g1
    have h2 := Nat.lt_of_lt_of_le hrb hG.size
    have HG := Lib.hid hG
    iterate 16 (refine oblsA_is (show _ ≠ (18 : Nat) by decide) ?_ ?_; unfold doesAt; go_simp; (try go_bits); (first | (refine ⟨brefl _, ?_⟩; rfl) | rfl); intro K hK; go_simp; refine hK _ ?_; clear hK K)
    refine oblsA_is (show _ ≠ (18 : Nat) by decide) ?_ ?_
    · unfold doesAt
      go_simp
      refine (to_any (ql) (qh) V).mono ?_
      rintro e w1 ⟨rfl, rfl⟩
      (refine ⟨?_, balloc (brefl _) _⟩; rfl)
    intro K hK
    go_simp
    refine hK _ ?_
    clear hK K
    refine oblsA_like (show _ ≠ (18 : Nat) by decide) (fun _ => ?_) ?_
    · unfold doesAt
      go_simp
      have hbn := Blk.new V 27 #[.int .i64 (ql), .int .i64 (qh)]
      exact ⟨balloc (brefl V) _, V.heap.size, rfl, HG.out.size, hbn.lt, hbn.cell 0, hbn.cell 1⟩
    intro K hK
    go_simp
    refine hK _ ?_
    clear hK K
    refine oblsA_app rfl (fun hl hp => ?_) ?_
    · obtain ⟨g, hE, hg1, hg2, hg3, hg4⟩ : OneR W.heap.size (ql) (qh) (env 17) V := hl ⟨17, .data⟩ (by simp) rfl (.inl rfl)
      refine app_of_run rfl (.tmp 61) (.tmp 77) 22 rfl rfl hE ?_
      exact run_app_rgB _ Hadd.out (own_later HK.out.own hp) (one_news (x := ⟨ql, qh⟩) hg3 hg4) (by omega) (by have := hp.size; have := HK.out.hW; omega)
    intro K hK
    go_simp
    refine hK _ ?_
    clear hK K
    (refine oblsA_is (show _ ≠ (18 : Nat) by decide) ?_ ?_; unfold doesAt; go_simp; (try go_bits); (first | (refine ⟨brefl _, ?_⟩; rfl) | rfl); intro K hK; go_simp; refine hK _ ?_; clear hK K)
    refine oblsA_last (fun hok => ?_)
    have hrw : RowR w.heap.size xy (env 18) V := hok 18 _ rfl (.inl rfl)
    obtain ⟨v', hv'⟩ : ∃ v', env 18 = v' := ⟨_, rfl⟩
    rw [hv'] at hrw ⊢
    have hl1 : xy.length = xs.length + 1 := by rw [← Hadd.out]; simp
    have hrw' := hrw
    unfold RowR at hrw'
    rw [hl1] at hrw'
    have hrw2 := hrw'
    rw [← Hadd.out, List.flatMap_append] at hrw'
    obtain ⟨gg, cap, rfl⟩ := own_succ hrw2
    have HK4 := Lib.hid (HK.out.grown (x := ⟨ql, qh⟩) HG.out (by simpa using hrw'))
    rw [Hadd.out] at HK4
    have f1 := HK3.out.frozen 1
    clear hrw hrw' hrw2 hv' hok hG h0 h1 h2 d1 d2 g0 g1 c0 c1 b0 b1 b2 hne hne0 hrbn hrb HK2 HK3 HG HK hl1
    unfold doesAt
    go_simp
    go_wp2
    rw [← Hxy.out] at HK4
    refine hK _ _ (q - 1) (by omega) ⟨rfl, i + 1, _, by omega, HK4.out, ?_⟩
    repeat (first | exact fits_nil | refine fits_none ?_ | refine fits_some ?_)
  · obtain rfl : i = n := by omega
    have hti : rs.take i = rs := by rw [← Hnl.out]; exact List.take_length
    rw [hti, Hxl.out] at HK
    clear hK hKB hti hlt hiq
    obtain ⟨AX, cx, rfl, _⟩ := HK.out.made
    rw [Hxll.out] at HK
    have hown2 := HK.out.own
    rw [Hxll.out] at hown2
    have hlt2 := HK.out.bp.lt
    have HQ := Lib.hid (show KQ w W W.heap.size (w.heap.size + 1) (P + 1) Lb GA gn gc (Ln : Int) (.slice none 0 0) [] [(P, #[.int .i64 (Ln : Int), .slice AX i cx]), (P + 1 + 1, #[.int .i64 (Ln : Int), .slice none 0 0])] (.slice AX i cx) xl from
      ⟨HK.out.bel, (HK.out.ex (P + 1, #[.int .i64 (Ln : Int), .slice none 0 0]) (by simp)).2, World.ownsRow_nil _ _ _ _, (HK.out.ex (w.heap.size + 1, #[.int .i64 Lb, .slice GA gn gc]) (by simp)).2, by omega, by omega, HK.out.bel.size, fun p hp => by
        simp only [List.mem_cons, List.not_mem_nil, or_false] at hp
        rcases hp with rfl | rfl
        · exact ⟨by simp only; omega, HK.out.bp⟩
        · exact ⟨by simp only; omega, (HK.out.ex (P + 1 + 1, #[.int .i64 (Ln : Int), .slice none 0 0]) (by simp)).2⟩, HK.out.own, fun g hg => own_lt HK.out.own g hg, Nat.le_refl _⟩)
    clear HK hown2 hlt2
    obtain ⟨n, hni⟩ : ∃ n, i = n := ⟨_, rfl⟩
    rw [hni] at HQ Hxll Hs Hnl hn10 hsum hg
    clear hni
    go_wp2_with fail
    clear c0 c1
    obtain ⟨N2, hN2⟩ : ∃ N, W.heap.size = N := ⟨_, rfl⟩
    have HN2 := Lib.hid (show N2 ≤ W.heap.size by omega)
    rw [hN2] at HQ
    clear hN2
    refine loop_n (fun q a W => a.defers = [] ∧ ∃ (i : Nat) (v : Value), i + q = gn ∧ KQ w W N2 (w.heap.size + 1) (P + 1) Lb GA gn gc (Ln : Int) v ((bs.take i).map fiftyR) [(P, #[.int .i64 (Ln : Int), .slice AX n cx]), (P + 1 + 1, #[.int .i64 (Ln : Int), .slice none 0 0])] (.slice AX n cx) xl ∧ Fits (none :: none :: some (.pointer (some ⟨w.heap.size, 0, none⟩)) :: some (.pointer (some ⟨w.heap.size + 1, 0, none⟩)) :: none :: some (.pointer (some ⟨P, 0, none⟩)) :: some (.pointer (some ⟨P + 1, 0, none⟩)) :: some (.pointer (some ⟨P + 1 + 1, 0, none⟩)) :: none :: some (.int .i64 (i : Nat)) :: none :: none :: none :: none :: none :: none :: none :: none :: none :: none :: none :: none :: none :: none :: none :: none :: none :: none :: none :: none :: none :: none :: none :: none :: none :: none :: none :: none :: none :: none :: none :: none :: none :: none :: none :: none :: none :: none :: none :: none :: none :: none :: none :: none :: none :: none :: none :: none :: none :: none :: none :: none :: none :: none :: none :: none :: none :: none :: none :: none :: none :: none :: none :: none :: none :: none :: none :: none :: none :: none :: none :: none :: none :: none :: none :: none :: none :: none :: none :: none :: none :: none :: none :: none :: none :: none :: none :: none :: none :: none :: none :: none :: none :: none :: none :: none :: none :: none :: none :: none :: none :: none :: none :: none :: none :: none :: none :: none :: none :: none :: none :: none :: none :: none :: none :: none :: none :: none :: none :: none :: none :: none :: none :: none :: none :: none :: none :: none :: none :: none :: none :: none :: none :: none :: none :: none :: none :: none :: none :: none :: none :: none :: none :: none :: none :: none :: none :: none :: none :: none :: none :: none :: none :: none :: none :: none :: none :: none :: none :: none :: none :: none :: none :: none :: none :: none :: none :: none :: none :: none :: none :: none :: none :: none :: none :: none :: none :: none :: []) a.tmps.toList) gn ?_ ?_
    · refine ⟨rfl, 0, _, by omega, HQ.out, ?_⟩
      repeat (first | exact fits_nil | refine fits_none ?_ | refine fits_some ?_)
    clear HQ
    intro q a W hI K hK
    obtain ⟨hds, i, v, hiq, hKB, hfit⟩ := hI
    obtain ⟨f', hf'⟩ := fits_act hfit
    rw [hds] at hf'
    subst hf'
    clear hfit hds
    simp only [fillP, Nat.reduceAdd]
    have c0 := hKB.b0.cell 1
    have c1 := hKB.b0.lt
    have HK := Lib.hid hKB
    by_cases hlt : i < gn
    · obtain ⟨rb, ro, _, rfl, hrw, _, _, _⟩ := Hbs.out.ltR hlt
      obtain ⟨rb', ro', x, hA', hrb, hx, g0, g1⟩ := (Hbs.out.later hKB.bel).ltR hlt
      cases hA'
      have hxr := Hrb.out.2 x (List.mem_of_getElem? hx)
      have hxt := third_is hxr
      have hadd := map_take (f := fiftyR) hx
      obtain ⟨xs, hxs⟩ : ∃ xs, (bs.take i).map fiftyR = xs := ⟨_, rfl⟩
      obtain ⟨xy, hxy⟩ : ∃ xy, (bs.take (i + 1)).map fiftyR = xy := ⟨_, rfl⟩
      have hxl : xs.length ≤ 100 := by rw [← hxs]; simp; omega
      rw [hxs] at hKB HK hadd
      rw [hxy] at hadd
      have Hadd := Lib.hid hadd
      have Hxy := Lib.hid hxy
      have i1 : (i : Int) < (gn : Int) := by omega
      have i2 : (0 : Int) ≤ (i : Int) := by omega
      have i3 : IntKind.i64.wrap ((i : Int) + 1) = (i : Int) + 1 := by rw [IntKind.wrap_i64]; omega
      obtain ⟨ql, hql⟩ : ∃ q, x.lo.tdiv 3 = q := ⟨_, rfl⟩
      obtain ⟨qh, hqh⟩ : ∃ q, x.hi.tdiv 3 = q := ⟨_, rfl⟩
      rw [hql, hqh] at hxt
      have i4 : IntKind.i64.wrap ql = ql := by rw [IntKind.wrap_i64]; omega
      have i5 : IntKind.i64.wrap qh = qh := by rw [IntKind.wrap_i64]; omega
      have i6 : IntKind.i64.wrap (50 + ql) = 50 + ql := by rw [IntKind.wrap_i64]; omega
      have i7 : IntKind.i64.wrap (50 + qh) = 50 + qh := by rw [IntKind.wrap_i64]; omega
      have HFF := Lib.hid (show fiftyR x = ⟨50 + ql, 50 + qh⟩ by unfold fiftyR; rw [hql, hqh])
      rw [HFF.out] at hadd
      have Hadd := Lib.hid hadd
      have b0 := hKB.bp.cell 0
      have b1 := hKB.bp.cell 1
      have b2 := hKB.bp.lt
      have hne := hKB.bp.notRow hKB.own (by decide)
      have hne0 := hKB.b0.notRow hKB.own (by decide)
      have hrow : ∀ r, v.ownBlock = some r → r < W.heap.size := fun r hr => own_lt hKB.own r hr
      have hrbn : v.ownBlock ≠ some rb := fun e => by have := own_base hKB.own rb e; have := hKB.hN; omega
      have Hrow := Lib.hid hrow
      clear hKB hx hadd hxs hxy hrow
      go_wp2_with fail
      refine dagRow 22 20 v.ownBlock (by kernel_rfl) (by kernel_rfl) (.is ?_ :: .is ?_ :: .is ?_ :: .is ?_ :: .is ?_ :: .is ?_ :: .is ?_ :: .is ?_ :: .is ?_ :: .is ?_ :: .is ?_ :: .is ?_ :: .is ?_ :: .is ?_ :: .is ?_ :: .is ?_ :: .is ?_ :: .is ?_ :: .is ?_ ::  .like (OneR W.heap.size (50 + ql) (50 + qh)) :: .like (RowR N2 xy) :: .is ?_ :: []) rfl ?stb ?gdb ?stbb ?obb
      case stb => repeat (first | exact stab_nil | refine stab_is ?_ | refine stab_like (OneR.stab _ _) ?_ | refine stab_like (RowR.stab _) ?_)
      case gdb => intro o ho; cases ho; rfl
      case stbb => repeat (first | exact stabT_nil | refine stabT_is ?_ | refine stabT_like (fun _ _ _ h1 h2 => h2.grown h1.2 Hrow.out) ?_)
      case obb =>
      intro env V hG
      have HK2 := Lib.hid (HK.out.b0.grown hG hne0)
      have HK3 := Lib.hid (HK.out.bp.grown hG hne)
      have d1 := HK2.out.cell 1
      have d2 := HK2.out.lt
      have e1 := HK3.out.cell 1
      have e2 := HK3.out.lt
      have h0 := (World.cell?_of_block (a := ⟨rb, ro + i * 2, none⟩) (hG.block rb hrb (Ne.symm hrbn))).trans g0
      have h1 := (World.cell?_of_block (a := ⟨rb, ro + i * 2 + 1, none⟩) (hG.block rb hrb (Ne.symm hrbn))).trans g1
      have h2 := Nat.lt_of_lt_of_le hrb hG.size
      have HG := Lib.hid hG
      iterate 18 (refine oblsA_is (show _ ≠ (20 : Nat) by decide) ?_ ?_; unfold doesAt; go_simp; (try go_bits); (first | (refine ⟨brefl _, ?_⟩; rfl) | rfl); intro K hK; go_simp; refine hK _ ?_; clear hK K)
      refine oblsA_is (show _ ≠ (20 : Nat) by decide) ?_ ?_
      · unfold doesAt
        go_simp
        refine (to_any (50 + ql) (50 + qh) V).mono ?_
        rintro e w1 ⟨rfl, rfl⟩
        (refine ⟨?_, balloc (brefl _) _⟩; rfl)
      intro K hK
      go_simp
      refine hK _ ?_
      clear hK K
      refine oblsA_like (show _ ≠ (20 : Nat) by decide) (fun _ => ?_) ?_
      · unfold doesAt
        go_simp
        have hbn := Blk.new V 27 #[.int .i64 (50 + ql), .int .i64 (50 + qh)]
        exact ⟨balloc (brefl V) _, V.heap.size, rfl, HG.out.size, hbn.lt, hbn.cell 0, hbn.cell 1⟩
      intro K hK
      go_simp
      refine hK _ ?_
      clear hK K
      refine oblsA_app rfl (fun hl hp => ?_) ?_
      · obtain ⟨g, hE, hg1, hg2, hg3, hg4⟩ : OneR W.heap.size (50 + ql) (50 + qh) (env 19) V := hl ⟨19, .data⟩ (by simp) rfl (.inl rfl)
        refine app_of_run rfl (.tmp 88) (.tmp 106) 22 rfl rfl hE ?_
        exact run_app_rgB _ Hadd.out (own_later HK.out.own hp) (one_news (x := ⟨50 + ql, 50 + qh⟩) hg3 hg4) (by omega) (by have := hp.size; have := HK.out.hW; omega)
      intro K hK
      go_simp
      refine hK _ ?_
      clear hK K
      (refine oblsA_is (show _ ≠ (20 : Nat) by decide) ?_ ?_; unfold doesAt; go_simp; (try go_bits); (first | (refine ⟨brefl _, ?_⟩; rfl) | rfl); intro K hK; go_simp; refine hK _ ?_; clear hK K)
      refine oblsA_last (fun hok => ?_)
      have hrw : RowR N2 xy (env 20) V := hok 20 _ rfl (.inl rfl)
      obtain ⟨v', hv'⟩ : ∃ v', env 20 = v' := ⟨_, rfl⟩
      rw [hv'] at hrw ⊢
      have hl1 : xy.length = xs.length + 1 := by rw [← Hadd.out]; simp
      have hrw' := hrw
      unfold RowR at hrw'
      rw [hl1] at hrw'
      have hrw2 := hrw'
      rw [← Hadd.out, List.flatMap_append] at hrw'
      obtain ⟨gg, cap, rfl⟩ := own_succ hrw2
      have HK4 := Lib.hid (HK.out.grown (x := ⟨50 + ql, 50 + qh⟩) HG.out (by simpa using hrw'))
      rw [Hadd.out] at HK4
      have f1 := HK3.out.frozen 1
      clear hrw hrw' hrw2 hv' hok hG h0 h1 h2 d1 d2 g0 g1 c0 c1 b0 b1 b2 hne hne0 hrbn hrb HK2 HK3 HG HK hl1
      unfold doesAt
      go_simp
      go_wp2
      rw [← Hxy.out] at HK4
      refine hK _ _ (q - 1) (by omega) ⟨rfl, i + 1, _, by omega, HK4.out, ?_⟩
      repeat (first | exact fits_nil | refine fits_none ?_ | refine fits_some ?_)
    · obtain rfl : i = gn := by omega
      have hti : bs.take i = bs := by rw [← Hgl.out]; exact List.take_length
      rw [hti, Hzl.out] at HK
      clear hK hKB hti hlt hiq
      obtain ⟨AZ, cz, rfl, hZ⟩ := HK.out.made
      rw [Hzll.out] at HK hZ
      obtain ⟨AX', cx', hAX, hX⟩ := HK.out.old (Q := P) (K := (Ln : Int)) (by simp)
      rw [Hxll.out] at hAX hX
      cases hAX
      have HX := Lib.hid hX
      have HZ := Lib.hid hZ
      have HM := Lib.hid (HK.out.ex (P + 1 + 1, #[.int .i64 (Ln : Int), .slice none 0 0]) (by simp)).2
      obtain ⟨d0, d1, d2⟩ := hX.cells
      obtain ⟨e0, e1, e2⟩ := hZ.cells
      have m1 := HM.out.cell 1
      have m2 := HM.out.lt
      clear hX hZ
      go_wp2_with fail
      clear c0 c1
      refine dagFresh 8 6 27 (fun i => !(i == 3) && !(i == 6)) (fun _ => false) (by kernel_rfl) (by kernel_rfl) (.is ?_ :: .is ?_ :: .is ?_ :: .like (OwnRs W.heap.size xl) :: .is ?_ :: .is ?_ :: .like (OwnRs W.heap.size (xl ++ zl)) :: .is ?_ :: []) rfl ?st3 ?gd3 (by kernel_rfl) ?stb3 ?ob3
      case st3 => repeat (first | exact stab_nil | refine stab_is ?_ | refine stab_like (OwnRs.stab _) ?_)
      case gd3 => intro o ho; cases ho; rfl
      case stb3 => repeat (first | exact trivial | refine ⟨fun h => absurd h (by decide), ?_⟩ | refine ⟨fun _ _ _ _ _ h => h, ?_⟩)
      case ob3 =>
      intro env V hG
      obtain ⟨hc, hf⟩ := bcell hG
      have HG := Lib.hid hG
      refine oblsA_is (show _ ≠ (6 : Nat) by decide) ?_ ?_
      · unfold doesAt
        go_simp
        refine (ranges_any none 0 0 V).mono ?_
        rintro e w1 ⟨rfl, hb1⟩
        (refine ⟨?_, hb1⟩; rfl)
      intro K hK
      go_simp
      refine hK _ ?_
      clear hK K
      iterate 2 (refine oblsA_is (show _ ≠ (6 : Nat) by decide) ?_ ?_; unfold doesAt; go_simp; (try go_bits); (first | (refine ⟨brefl _, ?_⟩; rfl) | rfl); intro K hK; go_simp; refine hK _ ?_; clear hK K)
      refine oblsA_like (show _ ≠ (6 : Nat) by decide) (fun _ => ?_) ?_
      · refine app_of_run rfl (.tmp 109) (.tmp 111) 22 rfl rfl rfl ?_
        obtain ⟨v', W', h1, h2, h3⟩ := run_app_rs (W := V) (base := W.heap.size) (v := .slice none 0 0) (xs := []) 22 (World.ownsRow_nil _ _ _ _) (HX.out.sl.later HG.out) (by simp; omega) HG.out.size
        exact ⟨v', W', h1, below_none h2, by simpa using h3⟩
      intro K hK
      go_simp
      refine hK _ ?_
      clear hK K
      iterate 2 (refine oblsA_is (show _ ≠ (6 : Nat) by decide) ?_ ?_; unfold doesAt; go_simp; (try go_bits); (first | (refine ⟨brefl _, ?_⟩; rfl) | rfl); intro K hK; go_simp; refine hK _ ?_; clear hK K)
      refine oblsA_app rfl (fun hl hp => ?_) ?_
      · have h5 : OwnRs W.heap.size xl (env 3) V := hl ⟨3, .data⟩ (by simp) rfl (.inl rfl)
        refine app_of_run rfl (.tmp 112) (.tmp 114) 22 rfl rfl rfl ?_
        obtain ⟨v', W', h1, h2, h3⟩ := run_app_rs (W := V) (base := W.heap.size) 22 h5 (HZ.out.sl.later HG.out) (by rw [Hxll.out]; omega) HG.out.size
        exact ⟨v', W', h1, grT_of_own h2 h5 (Nat.le_refl _), h3⟩
      intro K hK
      go_simp
      refine hK _ ?_
      clear hK K
      (refine oblsA_is (show _ ≠ (6 : Nat) by decide) ?_ ?_; unfold doesAt; go_simp; (try go_bits); (first | (refine ⟨brefl _, ?_⟩; rfl) | rfl); intro K hK; go_simp; refine hK _ ?_; clear hK K)
      refine oblsA_last (fun hok => ?_)
      have h6 : OwnRs W.heap.size (xl ++ zl) (env 6) V := hok 6 _ rfl (.inl rfl)
      obtain ⟨u, hu⟩ : ∃ u, env 6 = u := ⟨_, rfl⟩
      rw [hu] at h6 ⊢
      have hMV := HM.out.later hG
      have hwl : (xl ++ zl).length = n + i := by rw [List.length_append, Hxll.out, Hzll.out]
      have h7 := own_other h6 ⟨P + 1 + 1, 1, none⟩ (hMV.notRow h6 (by decide)) u
      rw [hwl] at h7
      obtain ⟨AW, cw, rfl, hslw⟩ := own_slG (k := 2) (enc := encR) (fun _ => rfl) h7 hwl
      have hPw := HK.out.hP
      have hm' := hMV.set 1 (.slice AW (n + i) cw)
      have HM0 := Lib.hid (show LW w (V.setCell ⟨P + 1 + 1, 1, none⟩ (.slice AW (n + i) cw)) (P + 1 + 1) (Ln : Int) AW (n + i) cw (xl ++ zl) from ⟨bset (Below.later HK.out.bel hG) (by show w.heap.size ≤ P + 1 + 1; omega) _, hm', hslw⟩)
      have HX0 := Lib.hid ((HX.out.later hG).other (P := P + 1 + 1) (o := 1) (by omega) (by omega) hMV (own_later HK.out.ox hG) (.slice AW (n + i) cw))
      have hoz := own_later HK.out.own hG
      have HZ0 := Lib.hid ((HZ.out.later hG).other (P := P + 1 + 1) (o := 1) (by omega) (by omega) hMV hoz (.slice AW (n + i) cw))
      have x1 := hMV.cell 1
      have x3 := hMV.frozen 1
      have x4 := hMV.lt
      clear hok h6 h7 hu hMV hslw hPw hm' hoz hG hc hf HG HX HZ HM d0 d1 d2 e0 e1 e2 m1 m2 hwl
      unfold doesAt
      go_simp
      obtain ⟨wz, hwz⟩ : ∃ x, V.setCell ⟨P + 1 + 1, 1, none⟩ (.slice AW (n + i) cw) = x := ⟨_, rfl⟩
      rw [hwz] at HM0 HX0 HZ0 ⊢
      clear hwz x1 x3 x4
      obtain ⟨d0, d1, d2⟩ := HX0.out.cells
      obtain ⟨e0, e1, e2⟩ := HZ0.out.cells
      obtain ⟨m0, m1, m2⟩ := HM0.out.cells
      have hyx := yard_of (L := (Ln : Int)) (by omega) Hrx.out
      have hyz := yard_of (L := (Ln : Int)) (by omega) Hrz.out
      have hyw := yard_of (L := (Ln : Int)) (by omega) Hra.out
      have Hyx := Lib.hid hyx
      have Hyz := Lib.hid hyz
      have Hyw := Lib.hid hyw
      have hbx := la_bound Hrx.out hLn 101
      have hbz := la_bound Hrz.out hLn 101
      have hnx := la_nonneg xl Ln 101
      have hnz := la_nonneg zl Ln 101
      have hlx := early_len Hrx.out hLn.1
      have hlz := early_len Hrz.out hLn.1
      obtain ⟨u1, hu1⟩ : ∃ x, LA xl Ln 101 = x := ⟨_, rfl⟩
      obtain ⟨u2, hu2⟩ : ∃ x, LA zl Ln 101 = x := ⟨_, rfl⟩
      have hu3 := Hla.out
      rw [hu1, hu2] at hu3
      rw [hu1] at hbx hnx hlx
      rw [hu2] at hbz hnz hlz
      obtain ⟨es, hes⟩ : ∃ x, earlyOf xl Ln = x := ⟨_, rfl⟩
      obtain ⟨fs, hfs⟩ : ∃ x, earlyOf zl Ln = x := ⟨_, rfl⟩
      have hee := Hea.out
      rw [hes, hfs] at hee
      rw [hes] at hlx
      rw [hfs] at hlz
      have Hee := Lib.hid ((early_is hyw).trans hee)
      have Hes := Lib.hid ((early_is hyx).trans hes)
      have Hfs := Lib.hid ((early_is hyz).trans hfs)
      have Hu1 := Lib.hid hu1
      have Hu2 := Lib.hid hu2
      have Hu3 := Lib.hid hu3
      have hw1 : IntKind.i64.wrap (u1 + u2) = u1 + u2 := by rw [IntKind.wrap_i64]; omega
      obtain ⟨le, hle⟩ : ∃ x, es.length = x := ⟨_, rfl⟩
      obtain ⟨lf, hlf⟩ : ∃ x, fs.length = x := ⟨_, rfl⟩
      have hle2 : le ≤ 200000 := by omega
      have hlf2 : lf ≤ 200000 := by omega
      have Hle := Lib.hid hle
      have Hlf := Lib.hid hlf
      clear hyx hyz hyw hbx hbz hnx hnz hlx hlz hu1 hu2 hu3 hes hfs hee hle hlf
      go_wp2_with fail
      refine (fewestL_any Ln _ n _ xl _ HX0.out.sl Hyx.out).mono ?_
      rintro e w8 ⟨g1, h1, rfl, hb, _, _, _⟩
      have HX1 := Lib.hid (HX0.out.later hb)
      have HZ1 := Lib.hid (HZ0.out.later hb)
      have HM1 := Lib.hid (HM0.out.later hb)
      clear hb HX0 HZ0 HM0 d0 d1 d2 e0 e1 e2 m0 m1 m2
      obtain ⟨d0, d1, d2⟩ := HX1.out.cells
      obtain ⟨e0, e1, e2⟩ := HZ1.out.cells
      obtain ⟨m0, m1, m2⟩ := HM1.out.cells
      rw [Hu1.out]
      go_wp2_with fail
      refine (fewestL_any Ln _ i _ zl _ HZ1.out.sl Hyz.out).mono ?_
      rintro e w9 ⟨g2, h2, rfl, hb, _, _, _⟩
      have HX2 := Lib.hid (HX1.out.later hb)
      have HZ2 := Lib.hid (HZ1.out.later hb)
      have HM2 := Lib.hid (HM1.out.later hb)
      clear hb HX1 HZ1 HM1 d0 d1 d2 e0 e1 e2 m0 m1 m2
      obtain ⟨d0, d1, d2⟩ := HX2.out.cells
      obtain ⟨e0, e1, e2⟩ := HZ2.out.cells
      obtain ⟨m0, m1, m2⟩ := HM2.out.cells
      rw [Hu2.out]
      go_wp2_with fail
      refine (fewestL_any Ln _ (n + i) _ (xl ++ zl) _ HM2.out.sl Hyw.out).mono ?_
      rintro e w10 ⟨g3, h3, rfl, hb, _, _, _⟩
      have HX3 := Lib.hid (HX2.out.later hb)
      have HZ3 := Lib.hid (HZ2.out.later hb)
      have HM3 := Lib.hid (HM2.out.later hb)
      clear hb HX2 HZ2 HM2 d0 d1 d2 e0 e1 e2 m0 m1 m2
      obtain ⟨d0, d1, d2⟩ := HX3.out.cells
      obtain ⟨e0, e1, e2⟩ := HZ3.out.cells
      obtain ⟨m0, m1, m2⟩ := HM3.out.cells
      rw [Hu3.out]
      go_wp2_with fail
      refine (early_any (Ln : Int) _ n _ xl _ HX3.out.sl).mono ?_
      rintro e w11 ⟨v3, rfl, hb, ho⟩
      have HX4 := Lib.hid (HX3.out.later hb)
      have HZ4 := Lib.hid (HZ3.out.later hb)
      have HM4 := Lib.hid (HM3.out.later hb)
      clear hb HX3 HZ3 HM3 d0 d1 d2 e0 e1 e2 m0 m1 m2
      obtain ⟨d0, d1, d2⟩ := HX4.out.cells
      obtain ⟨e0, e1, e2⟩ := HZ4.out.cells
      obtain ⟨m0, m1, m2⟩ := HM4.out.cells
      rw [Hyx.out]
      rw [Hes.out, Hle.out] at ho
      obtain ⟨G1, k1, rfl, hsl⟩ := own_slI ho Hle.out
      have HA4 := Lib.hid hsl
      clear ho hsl
      go_wp2_with fail
      refine (early_any (Ln : Int) _ i _ zl _ HZ4.out.sl).mono ?_
      rintro e w12 ⟨v4, rfl, hb, ho⟩
      have HX5 := Lib.hid (HX4.out.later hb)
      have HZ5 := Lib.hid (HZ4.out.later hb)
      have HM5 := Lib.hid (HM4.out.later hb)
      have HA5 := Lib.hid (HA4.out.later hb)
      clear hb HX4 HZ4 HM4 HA4 d0 d1 d2 e0 e1 e2 m0 m1 m2
      obtain ⟨d0, d1, d2⟩ := HX5.out.cells
      obtain ⟨e0, e1, e2⟩ := HZ5.out.cells
      obtain ⟨m0, m1, m2⟩ := HM5.out.cells
      rw [Hyz.out]
      rw [Hfs.out, Hlf.out] at ho
      obtain ⟨G2, k2, rfl, hsl⟩ := own_slI ho Hlf.out
      have HB5 := Lib.hid hsl
      clear ho hsl
      go_wp2_with fail
      refine (early_any (Ln : Int) _ (n + i) _ (xl ++ zl) _ HM5.out.sl).mono ?_
      rintro e w13 ⟨v5, rfl, hb, ho⟩
      have HX6 := Lib.hid (HX5.out.later hb)
      have HZ6 := Lib.hid (HZ5.out.later hb)
      have HM6 := Lib.hid (HM5.out.later hb)
      have HA6 := Lib.hid (HA5.out.later hb)
      have HB6 := Lib.hid (HB5.out.later hb)
      clear hb HX5 HZ5 HM5 HA5 HB5 d0 d1 d2 e0 e1 e2 m0 m1 m2
      obtain ⟨d0, d1, d2⟩ := HX6.out.cells
      obtain ⟨e0, e1, e2⟩ := HZ6.out.cells
      obtain ⟨m0, m1, m2⟩ := HM6.out.cells
      rw [Hyw.out]
      rw [Hee.out, List.length_append] at ho
      obtain ⟨G3, k3, rfl, hsl⟩ := own_slI ho List.length_append
      have HC6 := Lib.hid hsl
      clear ho hsl
      go_wp2_with fail
      refine (longs_any none 0 0 _).mono ?_
      rintro e w14 ⟨rfl, hb⟩
      have HX7 := Lib.hid (HX6.out.later hb)
      have HZ7 := Lib.hid (HZ6.out.later hb)
      have HM7 := Lib.hid (HM6.out.later hb)
      have HA7 := Lib.hid (HA6.out.later hb)
      have HB7 := Lib.hid (HB6.out.later hb)
      have HC7 := Lib.hid (HC6.out.later hb)
      clear hb HX6 HZ6 HM6 HA6 HB6 HC6 d0 d1 d2 e0 e1 e2 m0 m1 m2
      obtain ⟨d0, d1, d2⟩ := HX7.out.cells
      obtain ⟨e0, e1, e2⟩ := HZ7.out.cells
      obtain ⟨m0, m1, m2⟩ := HM7.out.cells
      clear d0 d1 d2 e0 e1 e2 m0 m1 m2
      go_wp2_with (at_builtin; first
        | (refine wpList_append_runG (by rfl) (.tmp 178) (.tmp 179) 25 rfl rfl rfl (run_app_ls (W := w14) (base := w14.heap.size) (v := .slice none 0 0) (xs := []) _ (World.ownsRow_nil _ _ _ _) HA7.out (by simp; omega) (Nat.le_refl _)) ?_; intro v1 W1 hR1; obtain ⟨hg1, ho1⟩ := hR1; have HG1 := Lib.hid (below_none hg1); have HO1 := Lib.hid (show W1.ownsRow w14.heap.size 2 1 v1 es.length (es.flatMap encI) by simpa using ho1); have HB9 := Lib.hid (HB7.out.later HG1.out); have HC9 := Lib.hid (HC7.out.later HG1.out); clear hg1 ho1)
        | (refine wpList_append_runG (by rfl) (.tmp 180) (.tmp 181) 25 rfl rfl rfl (run_app_ls (W := W1) (base := w14.heap.size) _ HO1.out HB9.out (by rw [Hle.out]; omega) HG1.out.size) ?_; intro v2 W2 hR2; obtain ⟨hg2, ho2⟩ := hR2; have HG2 := Lib.hid (below_row HG1.out hg2 (fun r hr => own_base HO1.out r hr) HG1.out.size); have HO2 := Lib.hid ho2; clear hg2 ho2))
      obtain ⟨G4, k4, hv2, hs4⟩ := own_slG (k := 1) (enc := encI) (fun _ => rfl) HO2.out rfl
      subst hv2
      have HBF := Lib.hid (Below.later HX7.out.bel HG2.out)
      refine (longsEq_any _ _ _ (es ++ fs) _ _ _ (es ++ fs) _ (HC7.out.later HG2.out) hs4).mono ?_
      rintro e w9 ⟨rfl, hb9⟩
      rw [show decide (es ++ fs = es ++ fs) = true by simp]
      have HBG := Lib.hid (Below.later HBF.out hb9)
      clear hb9 hs4 HO2 HO1 HG1 HG2 HB9 HC9
      go_wp2_with fail
      refine (works_any _).mono ?_
      rintro e we ⟨rfl, hbe⟩
      have HBE := Lib.hid (Below.later HBG.out hbe)
      clear hbe
      go_wp2
      go_ret
      exact ⟨rfl, HBE.out⟩
end Go.Proofs.Ytbbdlebmagknmaa
