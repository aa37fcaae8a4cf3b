/- The walk of GradeSpan. -/
import Derived.Test.YtmfiggbobaihcaaGFilled
namespace Go.Proofs.Ytmfiggbobaihcaa
open Go.RowKit Go.Shelf

/-! ### A list of numbers in a block of its own -/
def Arr (W : World) (b n : Nat) (F : Nat → Int) : Prop := ∃ cs, Blk W b 2 cs ∧ ∀ g, g < n → cs[g]? = some (.int .i64 (F g))
section
variable {W W' : World} {b n : Nat} {F : Nat → Int}
theorem Arr.later (h : Arr W b n F) (hb : Below W.heap.size W W') : Arr W' b n F := by
  obtain ⟨cs, h1, h2⟩ := h
  exact ⟨cs, h1.later hb, h2⟩
theorem Arr.lt (h : Arr W b n F) : b < W.heap.size := by
  obtain ⟨cs, h1, h2⟩ := h
  exact h1.lt
theorem Arr.frozen (h : Arr W b n F) (o : Nat) : W.frozen? ⟨b, o, none⟩ = false := by
  obtain ⟨cs, h1, h2⟩ := h
  exact h1.frozen o
theorem Arr.cell (h : Arr W b n F) {g : Nat} (hg : g < n) : W.cell? ⟨b, g, none⟩ = some (.int .i64 (F g)) := by
  obtain ⟨cs, h1, h2⟩ := h
  exact (h1.cell g).trans (h2 g hg)
theorem Arr.other (h : Arr W b n F) {p : Addr} (hp : p.block ≠ b) (u : Value) : Arr (W.setCell p u) b n F := by
  obtain ⟨cs, h1, h2⟩ := h
  exact ⟨cs, h1.other hp u, h2⟩
theorem Arr.set (h : Arr W b n F) {g : Nat} (hg : g < n) (v : Int) : Arr (W.setCell ⟨b, g, none⟩ (.int .i64 v)) b n (Gr9.upd F g v) := by
  obtain ⟨cs, h1, h2⟩ := h
  refine ⟨_, h1.set g _, fun j hj => ?_⟩
  have hl := (Array.getElem?_eq_some_iff.1 (h2 g hg)).1
  unfold Gr9.upd
  rw [Array.getElem?_setIfInBounds]
  by_cases e : j = g
  · subst e
    rw [if_pos rfl, if_pos hl, if_pos rfl]
  · rw [if_neg (fun h => e h.symm), if_neg e]
    exact h2 j hj
theorem Arr.sl (h : Arr W b n F) {c : Nat} (hc : n ≤ c) (hb : c ≤ 9223372036854775807) : Sl 1 encI W W.heap.size (some ⟨b, 0, none⟩) n c ((List.range n).map F) := by
  refine ⟨by simp, hc, hb, fun _ => ⟨b, 0, rfl, h.lt, fun i x hx j u hu => ?_⟩⟩
  rw [List.getElem?_map, Option.map_eq_some_iff] at hx
  obtain ⟨k, hk, rfl⟩ := hx
  obtain ⟨h1, h2⟩ := List.getElem?_eq_some_iff.1 hk
  rw [List.length_range] at h1
  rw [List.getElem_range] at h2
  subst h2
  match j, hu with
  | 0, rfl => simpa using h.cell h1
theorem Arr.of_num (h : Blk W b 2 (numArr n F)) : Arr W b n F := ⟨_, h, fun _ hg => numArr_get hg⟩
theorem Arr.apart {t : TypeId} {B : Nat} {cs : Array Value} (h : Arr W b n F) (h2 : Blk W B t cs) (ht : 2 ≠ t) : b ≠ B := by
  obtain ⟨cs1, h1, _⟩ := h
  exact h1.apart h2 ht
theorem Arr.of_own {B : Nat} {S : List Int} {v : Value} (h : RowI B S v W) (hS : 1 ≤ S.length) : ∃ b c, v = .slice (some ⟨b, 0, none⟩) S.length c ∧ B ≤ b ∧ S.length ≤ c ∧ c ≤ 9223372036854775807 ∧ Arr W b S.length (stockM S) := by
  unfold RowI at h
  rcases h.2 with ⟨_, h0⟩ | ⟨g, cap, cur, rfl, hb, hg, hc, hm, hs, ht⟩
  · omega
  · refine ⟨g, cap, rfl, hb, hc, by simp only [maxLen] at hm; omega, cur, hg, fun j hj => ?_⟩
    have h1 : (S.map (Value.int .i64))[j]? = some (.int .i64 (stockM S j)) := by
      rw [List.getElem?_map, List.getElem?_eq_getElem hj, stockM_at (List.getElem?_eq_getElem hj)]
      rfl
    rw [← ht, List.getElem?_take_of_lt (by omega)] at h1
    simpa using h1
end
theorem upd_self {F : Nat → Int} {g : Nat} {v : Int} (h : F g = v) : Gr9.upd F g v = F := by
  funext j
  unfold Gr9.upd
  by_cases e : j = g
  · rw [if_pos e, e, h]
  · rw [if_neg e]
theorem upd_at {F : Nat → Int} {g : Nat} {v : Int} : Gr9.upd F g v g = v := if_pos rfl
/-! ### The walk's facts -/
/-- Which blocks are which. -/
structure SXD (V MB XB YB XL YL : Nat) : Prop where
  vM : V ≤ MB
  vX : V ≤ XL
  vY : V ≤ YL
  m1 : MB ≠ XB
  m2 : MB ≠ YB
  m3 : MB ≠ XL
  m4 : MB ≠ YL
  x1 : XL ≠ XB
  x2 : XL ≠ YB
  x3 : XL ≠ YL
  y1 : YL ≠ XB
  y2 : YL ≠ YB
structure SX (V W : World) (MB XB YB XL YL cx cy n : Nat) (pv ov : Value) (FM FX FY : Nat → Int) : Prop where
  be : Below V.heap.size V W
  xb : Blk W XB 25 #[.slice (some ⟨XL, 0, none⟩) n cx, pv, ov]
  yb : Blk W YB 25 #[.slice (some ⟨YL, 0, none⟩) n cy, pv, ov]
  am : Arr W MB n FM
  ax : Arr W XL n FX
  ay : Arr W YL n FY
section
variable {V W W' : World} {MB XB YB XL YL cx cy n : Nat} {pv ov : Value} {FM FX FY : Nat → Int}
theorem SX.later (h : SX V W MB XB YB XL YL cx cy n pv ov FM FX FY) (hb : Below W.heap.size W W') : SX V W' MB XB YB XL YL cx cy n pv ov FM FX FY := ⟨Below.later h.be hb, h.xb.later hb, h.yb.later hb, h.am.later hb, h.ax.later hb, h.ay.later hb⟩
theorem SX.setM (h : SX V W MB XB YB XL YL cx cy n pv ov FM FX FY) (d : SXD V.heap.size MB XB YB XL YL) {g : Nat} (hg : g < n) (v : Int) : SX V (W.setCell ⟨MB, g, none⟩ (.int .i64 v)) MB XB YB XL YL cx cy n pv ov (Gr9.upd FM g v) FX FY :=
  ⟨bset h.be (p := ⟨MB, g, none⟩) d.vM _, h.xb.other d.m1 _, h.yb.other d.m2 _, h.am.set hg v, h.ax.other d.m3 _, h.ay.other d.m4 _⟩
theorem SX.setX (h : SX V W MB XB YB XL YL cx cy n pv ov FM FX FY) (d : SXD V.heap.size MB XB YB XL YL) {g : Nat} (hg : g < n) (v : Int) : SX V (W.setCell ⟨XL, g, none⟩ (.int .i64 v)) MB XB YB XL YL cx cy n pv ov FM (Gr9.upd FX g v) FY :=
  ⟨bset h.be (p := ⟨XL, g, none⟩) d.vX _, h.xb.other d.x1 _, h.yb.other d.x2 _, h.am.other d.m3.symm _, h.ax.set hg v, h.ay.other d.x3 _⟩
theorem SX.setY (h : SX V W MB XB YB XL YL cx cy n pv ov FM FX FY) (d : SXD V.heap.size MB XB YB XL YL) {g : Nat} (hg : g < n) (v : Int) : SX V (W.setCell ⟨YL, g, none⟩ (.int .i64 v)) MB XB YB XL YL cx cy n pv ov FM FX (Gr9.upd FY g v) :=
  ⟨bset h.be (p := ⟨YL, g, none⟩) d.vY _, h.xb.other d.y1 _, h.yb.other d.y2 _, h.am.other d.m4.symm _, h.ax.other d.x3.symm _, h.ay.set hg v⟩
end
/-- What the numbers are. -/
def SpI (S : List Int) (i : Nat) (FM FX FY : Nat → Int) : Prop := ∀ j, j < S.length → 0 ≤ FM j ∧ stockM S j + FM j ≤ 50 ∧ FY j = stockM S j + FM j ∧ stockM S j ≤ FX j ∧ FX j ≤ FY j ∧ (i ≤ j → FM j = 0)
theorem SpI.next {S : List Int} {i : Nat} {FM FX FY : Nat → Int} (h : SpI S i FM FX FY) {m z : Int} (hm : 0 ≤ m) (h50 : stockM S i + m ≤ 50) (hz : 0 ≤ z) (hzm : z ≤ m) : SpI S (i + 1) (Gr9.upd FM i m) (Gr9.upd FX i (stockM S i + z)) (Gr9.upd FY i (stockM S i + m)) := fun j hj => by
  have h1 := h j hj
  unfold Gr9.upd
  by_cases e : j = i
  · subst e
    rw [if_pos rfl, if_pos rfl, if_pos rfl]
    omega
  · rw [if_neg e, if_neg e, if_neg e]
    exact ⟨h1.1, h1.2.1, h1.2.2.1, h1.2.2.2.1, h1.2.2.2.2.1, fun h => h1.2.2.2.2.2 (by omega)⟩
theorem stk_map (n : Nat) (F : Nat → Int) (j : Nat) : stockM ((List.range n).map F) j = if j < n then F j else 0 := by
  show ((List.range n).map F).getD j 0 = _
  rw [List.getD_eq_getElem?_getD, List.getElem?_map]
  by_cases h : j < n
  · rw [if_pos h, List.getElem?_range h]; rfl
  · rw [if_neg h, List.getElem?_eq_none (by simp; omega)]; rfl
theorem stk_out {S : List Int} {j : Nat} (h : S.length ≤ j) : stockM S j = 0 := by
  show S.getD j 0 = 0
  rw [List.getD_eq_getElem?_getD, List.getElem?_eq_none h]; rfl
theorem leV_mono {n : Nat} {P : List Int} {O : List Od} {M M' : Nat → Int} {b : Int} (hk : ShOk n P O M b) (h : ∀ g, g < n → M g ≤ M' g) : leV n P O M' ≤ leV n P O M := Gr9.leastT_mono hk.pr0 hk.prf h (fun _ _ => Int.le_refl _)
section
variable {S P : List Int} {O : List Od} {FM FX FY : Nat → Int}
theorem span_fine (hF : Fine S P O) {F : Nat → Int} (h : ∀ j, j < S.length → 0 ≤ F j ∧ F j ≤ 50) : Fine ((List.range S.length).map F) P O := by
  have hl : ((List.range S.length).map F).length = S.length := by simp
  refine ⟨by rw [hl]; exact hF.n1, by rw [hl]; exact hF.n5, hF.o8, by rw [hl]; exact hF.len, fun x hx => ?_, hF.prc, fun o ho => by rw [hl]; exact hF.ord o ho, hF.fall⟩
  rw [List.mem_map] at hx
  obtain ⟨g, hg, rfl⟩ := hx
  exact h g (List.mem_range.1 hg)
theorem span_R (hF : Fine S P O) (h : SpI S S.length FM FX FY) : spanR S P O ((List.range S.length).map FM) = if canB S.length O (stockM S) then (leV S.length P O (addM (stockM S) ((List.range S.length).map FM)), leV S.length P O (stockM S), 0) else (0, 0, 25) := by
  have he := fine_iff hF
  have ho : overB S ((List.range S.length).map FM) = false := by
    unfold overB
    rw [List.any_eq_false]
    intro g hg
    rw [List.mem_range, List.length_map, List.length_range] at hg
    have h1 := h g hg
    have h2 : ((List.range S.length).map FM).getD g 0 = FM g := (stk_map S.length FM g).trans (if_pos hg)
    have h3 : S.getD g 0 = stockM S g := rfl
    rw [h2, h3]
    unfold inR
    simp
    omega
  unfold spanR
  rw [if_neg (fun h => h he), if_neg (fun h => h (by simp)), ho, if_neg (by decide)]
/-- **The span holds.** -/
theorem span_holds (hF : Fine S P O) (h : SpI S S.length FM FX FY) (hc : canB S.length O (stockM S) = true) :
    leastN S P O = leV S.length P O (stockM S) ∧ leastN ((List.range S.length).map FY) P O = leV S.length P O (addM (stockM S) ((List.range S.length).map FM)) ∧ leastN ((List.range S.length).map FY) P O ≤ leastN ((List.range S.length).map FX) P O ∧ leastN ((List.range S.length).map FX) P O ≤ leastN S P O := by
  have hl : ∀ F : Nat → Int, ((List.range S.length).map F).length = S.length := fun F => by simp
  have hX : ∀ j, stockM S j ≤ stockM ((List.range S.length).map FX) j := fun j => by
    rw [stk_map]
    split
    · rename_i hj; exact (h j hj).2.2.2.1
    · rename_i hj; rw [stk_out (by omega)]; exact Int.le_refl _
  have hY : ∀ j, stockM ((List.range S.length).map FX) j ≤ stockM ((List.range S.length).map FY) j := fun j => by
    rw [stk_map, stk_map]
    split
    · rename_i hj; exact (h j hj).2.2.2.2.1
    · exact Int.le_refl _
  have hA : ∀ j, stockM ((List.range S.length).map FY) j = addM (stockM S) ((List.range S.length).map FM) j := fun j => by
    have h2 : addM (stockM S) ((List.range S.length).map FM) j = stockM S j + stockM ((List.range S.length).map FM) j := rfl
    rw [h2, stk_map, stk_map]
    by_cases hj : j < S.length
    · rw [if_pos hj, if_pos hj]; exact (h j hj).2.2.1
    · rw [if_neg hj, if_neg hj, stk_out (by omega)]; rfl
  have cX : canB S.length O (stockM ((List.range S.length).map FX)) = true := can_add hc hX
  have cY : canB S.length O (stockM ((List.range S.length).map FY)) = true := can_add cX hY
  have bX : ∀ j, j < S.length → 0 ≤ FX j ∧ FX j ≤ 50 := fun j hj => by
    have h1 := h j hj
    have h2 := stockM_bound hF.stk (by omega) j
    omega
  have kX := (span_fine hF bX).ok
  rw [hl] at kX
  have eS := leastN_can (P := P) hc
  have eX : leastN ((List.range S.length).map FX) P O = leV S.length P O (stockM ((List.range S.length).map FX)) := by
    rw [leastN_can (by rw [hl]; exact cX), hl]
  have eY : leastN ((List.range S.length).map FY) P O = leV S.length P O (stockM ((List.range S.length).map FY)) := by
    rw [leastN_can (by rw [hl]; exact cY), hl]
  rw [eS, eX, eY]
  refine ⟨rfl, ?_, leV_mono kX fun g _ => hY g, leV_mono hF.ok fun g _ => hX g⟩
  rw [show stockM ((List.range S.length).map FY) = addM (stockM S) ((List.range S.length).map FM) from funext hA]
end

/-- A struct that is built. -/
def BuiltI (B : Nat) (S : List Int) (pv ov : Value) (v : Value) (W : World) : Prop := ∃ r, v = .agg #[r, pv, ov] ∧ RowI B S r W
theorem BuiltI.stab {B : Nat} {S : List Int} {pv ov : Value} : ∀ v W W', Gr W W' → BuiltI B S pv ov v W → BuiltI B S pv ov v W' := fun _ _ _ hG ⟨r, h1, h2⟩ => ⟨r, h1, own_later h2 hG⟩
/-- A shop that is new. -/
def NewB (B : Nat) (v : Value) (W : World) : Prop := ∃ b, v = .pointer (some ⟨b, 0, none⟩) ∧ B ≤ b ∧ Blk W b 25 #[.slice none 0 0, .slice none 0 0, .slice none 0 0]
theorem NewB.stab {B : Nat} : ∀ v W W', Gr W W' → NewB B v W → NewB B v W' := fun _ _ _ hG ⟨b, h1, h2, h3⟩ => ⟨b, h1, h2, h3.later hG⟩
set_option maxRecDepth 100000 in
set_option maxHeartbeats 16000000 in
theorem gspan_law (SA : Option Addr) (sn sc : Nat) (PA : Option Addr) (pn pc : Nat) (OA : Option Addr) (on oc : Nat) (S P : List Int) (O : List Od) (BA : Option Addr) (bn bc : Nat) (bs : List Nat) (QA : Option Addr) (qn qc : Nat) (qs : List Nat) (w : World) (hs : ShopIn w w.heap.size SA sn sc PA pn pc OA on oc S P O) (hbs : Sl 1 encB w w.heap.size BA bn bc bs) (hbd : ∀ x ∈ bs, x < 256) (hqs : Sl 1 encB w w.heap.size QA qn qc qs) (hqd : ∀ x ∈ qs, x < 256) : Calls Try.prog 13 #[.agg #[.slice SA sn sc, .slice PA pn pc, .slice OA on oc], .slice BA bn bc, .slice QA qn qc] w fun e w' => e = .returned (.bool true) ∧ Below w.heap.size w w' := by
  obtain rfl := hs.stk.len
  obtain rfl := hs.prc.len
  obtain rfl := hs.ord.len
  have HG0 := Lib.hid (GW.start hs)
  obtain ⟨g0, g1, g2, g3⟩ := HG0.out.cells
  have hb9 := balloc (brefl w) (.cells #[.slice SA S.length sc, .slice PA P.length pc, .slice OA O.length oc] 25)
  have HB0 := Lib.hid (hbs.later hb9)
  have HQ0 := Lib.hid (hqs.later hb9)
  clear hb9
  have Hf := Lib.hid (fun W (h : ShopIn W W.heap.size SA S.length sc PA P.length pc OA O.length oc S P O) => fine_any SA S.length sc PA P.length pc OA O.length oc S P O W h)
  by_cases he : shopE S P O = 0
  case neg =>
    rw [decide_eq_false he] at Hf
    clear hs he hbs hbd hqs hqd HB0 HQ0
    go_enter Try.func13, Try.ntmps13
    go_wp2_with fail
    refine (Hf.out _ HG0.out.sh).mono ?_
    rintro e w1 ⟨rfl, hb⟩
    have HG1 := Lib.hid (HG0.out.later hb)
    clear hb HG0 g0 g1 g2 g3
    obtain ⟨g0, g1, g2, g3⟩ := HG1.out.cells
    go_wp2_with fail
    refine (works_any _).mono ?_
    rintro e we ⟨rfl, hbe⟩
    have HBE := Lib.hid (Below.later HG1.out.bel hbe)
    clear hbe
    go_wp2
    go_ret
    exact ⟨rfl, HBE.out⟩
  case pos =>
  rw [decide_eq_true he] at Hf
  cases hd : decide ((10 : Int) < (bn : Int)) with
  | true =>
    clear hs hbs hbd hqs hqd he HB0 HQ0
    go_enter Try.func13, Try.ntmps13
    go_wp2_with fail
    refine (Hf.out _ HG0.out.sh).mono ?_
    rintro e w2 ⟨rfl, hb⟩
    have HG1 := Lib.hid (HG0.out.later hb)
    clear hb HG0 g0 g1 g2 g3
    obtain ⟨g0, g1, g2, g3⟩ := HG1.out.cells
    go_wp2_with fail
    refine (works_any _).mono ?_
    rintro e we ⟨rfl, hbe⟩
    have HBE := Lib.hid (Below.later HG1.out.bel hbe)
    clear hbe
    go_wp2
    go_ret
    exact ⟨rfl, HBE.out⟩
  | false =>
  cases hd2 : decide ((10 : Int) < (qn : Int)) with
  | true =>
    clear hs hbs hbd hqs hqd he HB0 HQ0
    go_enter Try.func13, Try.ntmps13
    go_wp2_with fail
    refine (Hf.out _ HG0.out.sh).mono ?_
    rintro e w3 ⟨rfl, hb⟩
    have HG1 := Lib.hid (HG0.out.later hb)
    clear hb HG0 g0 g1 g2 g3
    obtain ⟨g0, g1, g2, g3⟩ := HG1.out.cells
    go_wp2_with fail
    refine (works_any _).mono ?_
    rintro e we ⟨rfl, hbe⟩
    have HBE := Lib.hid (Below.later HG1.out.bel hbe)
    clear hbe
    go_wp2
    go_ret
    exact ⟨rfl, HBE.out⟩
  | false =>
  have h10 : bn ≤ 10 := by rw [decide_eq_false_iff_not] at hd; omega
  have h10q : qn ≤ 10 := by rw [decide_eq_false_iff_not] at hd2; omega
  have hF := fine_of he
  have n5 := hF.n5
  have n1 := hF.n1
  have HF := Lib.hid hF
  have He := Lib.hid he
  have o8 := hF.o8
  have Hqd := Lib.hid hqd
  have Hbd := Lib.hid hbd
  have hmk := make_longs S.length (by omega)
  clear hs hbs hbd hqs hqd he hF
  go_enter Try.func13, Try.ntmps13
  go_wp2_with fail
  refine (Hf.out _ HG0.out.sh).mono ?_
  rintro e w4 ⟨rfl, hb⟩
  have HG1 := Lib.hid (HG0.out.later hb)
  have HB1 := Lib.hid (HB0.out.later hb)
  have HQ1 := Lib.hid (HQ0.out.later hb)
  clear hb HG0 HB0 HQ0 g0 g1 g2 g3
  obtain ⟨g0, g1, g2, g3⟩ := HG1.out.cells
  have hA := balloc (brefl w4) (.cells (numArr S.length (fun _ => 0)) 2)
  have HG2 := Lib.hid (HG1.out.later hA)
  have HM2 := Lib.hid (Blk.new w4 2 (numArr S.length (fun _ => 0)))
  have HA := Lib.hid hA
  clear hA
  have hsz1 : (w4.alloc (.cells (numArr S.length (fun _ => 0)) 2)).heap.size = w4.heap.size + 1 := World.size_alloc _ _
  have Hsz1 := Lib.hid hsz1
  clear hsz1
  go_wp2_with fail
  clear g0 g1 g2 g3
  obtain ⟨g0, g1, g2, g3⟩ := HG2.out.cells
  generalize w4.alloc (.cells (numArr S.length (fun _ => 0)) 2) = U4 at *
  -- U4.heap.size the base · 41, 43 the append's operands · HG2 the tracked shop's fact
  refine dag 10 (by kernel_rfl) (by kernel_rfl) (.is (.slice none 0 0) :: .is ?_ :: .is ?_ :: .like (RowI U4.heap.size S) :: .is ?_ :: .is ?_ :: .is ?_ :: .is ?_ :: .like (BuiltI U4.heap.size S (.slice PA P.length pc) (.slice OA O.length oc)) :: .like (NewB U4.heap.size) :: []) rfl ?st4 ?ob4
  case st4 => repeat (first | exact stab_nil | refine stab_is ?_ | refine stab_like RowI.stab ?_ | refine stab_like BuiltI.stab ?_ | refine stab_like NewB.stab ?_)
  case ob4 =>
  intro env4 V4 hG
  obtain ⟨hc, hf⟩ := bcell hG
  have HGd := Lib.hid (HG2.out.later hG)
  have HGr := Lib.hid hG
  refine obls_is ?_ ?_
  · unfold doesAt
    go_simp
    refine (longs_any _ _ _ V4).mono ?_
    rintro e w1 ⟨rfl, hb1⟩
    (exact ⟨rfl, hb1⟩)
  intro K hK
  go_simp
  refine hK _ ?_
  clear hK K
  iterate 2 (refine obls_is ?_ ?_; unfold doesAt; go_simp; (try go_bits); (first | (refine ⟨brefl _, ?_⟩; rfl) | rfl); intro K hK; go_simp; refine hK _ ?_; clear hK K)
  refine obls_like (fun _ => ?_) ?_
  · refine app_of_run rfl (.tmp 41) (.tmp 43) 22 rfl rfl rfl ?_
    obtain ⟨i0, hi0, hz0, hz1, hz2⟩ := info_parts info_long
    obtain ⟨b, o, hA, _, _⟩ := HGd.out.sh.stk.at_ (by omega)
    subst hA
    obtain ⟨v', W', e1, e2, e3, _⟩ := run_append_own (P := Try.prog) V4 (U4.heap.size) 22 _ 2 i0 (.int .i64 0) 1 8 und_longs hi0 hz0 hz1 hz2 rfl (by decide) (.slice none 0 0) 0 [] (World.ownsRow_nil V4 _ 2 1) ⟨b, o, none⟩ S.length sc (S.map (Value.int .i64)) (by simp) (sl_news HGd.out.sh.stk (by omega)) (by simp [Value.oneCell']) (by simp only [maxLen]; omega) (by omega) HGr.out.size
    exact ⟨v', W', e1, ⟨e3.os, e3.tape, e3.output, e3.size, fun k hk => e3.block k hk (by simp [Value.ownBlock])⟩, by unfold RowI; simpa using e2⟩
  intro K hK
  go_simp
  refine hK _ ?_
  clear hK K
  iterate 4 (refine obls_is ?_ ?_; unfold doesAt; go_simp; (try go_bits); (first | (refine ⟨brefl _, ?_⟩; rfl) | rfl); intro K hK; go_simp; refine hK _ ?_; clear hK K)
  refine obls_like (fun hl => ?_) ?_
  · have h3 : RowI U4.heap.size S (env4 3) V4 := hl ⟨3, .data⟩ (by simp) rfl
    obtain ⟨xb3, xc3, hE3, -, -, -, -⟩ := Arr.of_own h3 (by omega)
    have H3 := Lib.hid h3
    clear h3
    unfold doesAt
    simp only [hE3]
    go_simp
    exact ⟨brefl V4, _, rfl, by rw [← hE3]; exact H3.out⟩
  intro K hK
  go_simp
  refine hK _ ?_
  clear hK K
  refine obls_like (fun hl => ?_) ?_
  · unfold doesAt
    go_simp
    exact ⟨balloc (brefl V4) _, V4.heap.size, rfl, HGr.out.size, Blk.new V4 25 #[.slice none 0 0, .slice none 0 0, .slice none 0 0]⟩
  intro K hK
  go_simp
  refine hK _ ?_
  clear hK K
  refine obls_last (fun hok => ?_)
  obtain ⟨r, hE8, hr⟩ : BuiltI U4.heap.size S (.slice PA P.length pc) (.slice OA O.length oc) (env4 8) V4 := hok 8 _ rfl
  obtain ⟨XB, hE9, hXB, hz⟩ : NewB U4.heap.size (env4 9) V4 := hok 9 _ rfl
  obtain ⟨XL, cx, hEr, hXL, hc1, hc2, har⟩ := Arr.of_own hr n1
  subst hEr
  have hne := har.apart hz (by decide)
  have hs1 := Hsz1.out
  have hmb := HM2.out.later HGr.out
  have hmn : XB ≠ w4.heap.size := by omega
  have hbe := Below.later HA.out HGr.out
  have hbx := ((hz.set 0 (.slice (some ⟨XL, 0, none⟩) S.length cx)).set 1 (.slice PA P.length pc)).set 2 (.slice OA O.length oc)
  have hbl := ((har.other (p := ⟨XB, 0, none⟩) (Ne.symm hne) (.slice (some ⟨XL, 0, none⟩) S.length cx)).other (p := ⟨XB, 1, none⟩) (Ne.symm hne) (.slice PA P.length pc)).other (p := ⟨XB, 2, none⟩) (Ne.symm hne) (.slice OA O.length oc)
  have hbm := ((hmb.other (p := ⟨XB, 0, none⟩) hmn (.slice (some ⟨XL, 0, none⟩) S.length cx)).other (p := ⟨XB, 1, none⟩) hmn (.slice PA P.length pc)).other (p := ⟨XB, 2, none⟩) hmn (.slice OA O.length oc)
  have hbb := bset (bset (bset hbe (p := ⟨XB, 0, none⟩) (show w4.heap.size ≤ XB by omega) (.slice (some ⟨XL, 0, none⟩) S.length cx)) (p := ⟨XB, 1, none⟩) (show w4.heap.size ≤ XB by omega) (.slice PA P.length pc)) (p := ⟨XB, 2, none⟩) (show w4.heap.size ≤ XB by omega) (.slice OA O.length oc)
  have HX5 := Lib.hid (show Blk _ XB 25 #[.slice (some ⟨XL, 0, none⟩) S.length cx, .slice PA P.length pc, .slice OA O.length oc] from hbx)
  have HL5 := Lib.hid hbl
  have HM5 := Lib.hid (Arr.of_num hbm)
  have HE5 := Lib.hid hbb
  have Hc5 := Lib.hid (show S.length ≤ cx ∧ cx ≤ 9223372036854775807 ∧ XL ≠ XB ∧ XB ≠ w4.heap.size ∧ w4.heap.size < XL from ⟨hc1, hc2, hne, hmn, by omega⟩)
  have y0 := hz.cell 0
  have y1 := hz.cell 1
  have y2 := hz.cell 2
  have y3 := hz.frozen 0
  have y4 := hz.frozen 1
  have y5 := hz.frozen 2
  have y6 := hz.lt
  clear hok hr hz hc1 hc2 hXL hXB har hne hs1 hmb hmn hbe hbx hbl hbm hbb hc hf hG HGd HGr HG2 HM2 HA Hsz1
  unfold doesAt
  simp only [hE8, hE9]
  go_simp
  clear y0 y1 y2 y3 y4 y5 y6 hE8 hE9
  generalize (((V4.setCell ⟨XB, 0, none⟩ (.slice (some ⟨XL, 0, none⟩) S.length cx)).setCell ⟨XB, 1, none⟩ (.slice PA P.length pc)).setCell ⟨XB, 2, none⟩ (.slice OA O.length oc)) = U5 at *
  clear g0 g1 g2 g3
  have HG5 := Lib.hid (HG1.out.later HE5.out)
  obtain ⟨g0, g1, g2, g3⟩ := HG5.out.cells
  go_wp2_with fail
  -- U5.heap.size the base · 50, 52 the append's operands · HG5 the tracked shop's fact
  refine dag 10 (by kernel_rfl) (by kernel_rfl) (.is (.slice none 0 0) :: .is ?_ :: .is ?_ :: .like (RowI U5.heap.size S) :: .is ?_ :: .is ?_ :: .is ?_ :: .is ?_ :: .like (BuiltI U5.heap.size S (.slice PA P.length pc) (.slice OA O.length oc)) :: .like (NewB U5.heap.size) :: []) rfl ?st5 ?ob5
  case st5 => repeat (first | exact stab_nil | refine stab_is ?_ | refine stab_like RowI.stab ?_ | refine stab_like BuiltI.stab ?_ | refine stab_like NewB.stab ?_)
  case ob5 =>
  intro env5 V5 hG
  obtain ⟨hc, hf⟩ := bcell hG
  have HGd := Lib.hid (HG5.out.later hG)
  have HGr := Lib.hid hG
  refine obls_is ?_ ?_
  · unfold doesAt
    go_simp
    refine (longs_any _ _ _ V5).mono ?_
    rintro e w1 ⟨rfl, hb1⟩
    (exact ⟨rfl, hb1⟩)
  intro K hK
  go_simp
  refine hK _ ?_
  clear hK K
  iterate 2 (refine obls_is ?_ ?_; unfold doesAt; go_simp; (try go_bits); (first | (refine ⟨brefl _, ?_⟩; rfl) | rfl); intro K hK; go_simp; refine hK _ ?_; clear hK K)
  refine obls_like (fun _ => ?_) ?_
  · refine app_of_run rfl (.tmp 50) (.tmp 52) 22 rfl rfl rfl ?_
    obtain ⟨i0, hi0, hz0, hz1, hz2⟩ := info_parts info_long
    obtain ⟨b, o, hA, _, _⟩ := HGd.out.sh.stk.at_ (by omega)
    subst hA
    obtain ⟨v', W', e1, e2, e3, _⟩ := run_append_own (P := Try.prog) V5 (U5.heap.size) 22 _ 2 i0 (.int .i64 0) 1 8 und_longs hi0 hz0 hz1 hz2 rfl (by decide) (.slice none 0 0) 0 [] (World.ownsRow_nil V5 _ 2 1) ⟨b, o, none⟩ S.length sc (S.map (Value.int .i64)) (by simp) (sl_news HGd.out.sh.stk (by omega)) (by simp [Value.oneCell']) (by simp only [maxLen]; omega) (by omega) HGr.out.size
    exact ⟨v', W', e1, ⟨e3.os, e3.tape, e3.output, e3.size, fun k hk => e3.block k hk (by simp [Value.ownBlock])⟩, by unfold RowI; simpa using e2⟩
  intro K hK
  go_simp
  refine hK _ ?_
  clear hK K
  iterate 4 (refine obls_is ?_ ?_; unfold doesAt; go_simp; (try go_bits); (first | (refine ⟨brefl _, ?_⟩; rfl) | rfl); intro K hK; go_simp; refine hK _ ?_; clear hK K)
  refine obls_like (fun hl => ?_) ?_
  · have h3 : RowI U5.heap.size S (env5 3) V5 := hl ⟨3, .data⟩ (by simp) rfl
    obtain ⟨xb3, xc3, hE3, -, -, -, -⟩ := Arr.of_own h3 (by omega)
    have H3 := Lib.hid h3
    clear h3
    unfold doesAt
    simp only [hE3]
    go_simp
    exact ⟨brefl V5, _, rfl, by rw [← hE3]; exact H3.out⟩
  intro K hK
  go_simp
  refine hK _ ?_
  clear hK K
  refine obls_like (fun hl => ?_) ?_
  · unfold doesAt
    go_simp
    exact ⟨balloc (brefl V5) _, V5.heap.size, rfl, HGr.out.size, Blk.new V5 25 #[.slice none 0 0, .slice none 0 0, .slice none 0 0]⟩
  intro K hK
  go_simp
  refine hK _ ?_
  clear hK K
  refine obls_last (fun hok => ?_)
  obtain ⟨r, hE8, hr⟩ : BuiltI U5.heap.size S (.slice PA P.length pc) (.slice OA O.length oc) (env5 8) V5 := hok 8 _ rfl
  obtain ⟨YB, hE9, hYB, hz⟩ : NewB U5.heap.size (env5 9) V5 := hok 9 _ rfl
  obtain ⟨YL, cy, hEr, hYL, hc1, hc2, har⟩ := Arr.of_own hr n1
  subst hEr
  have hne := har.apart hz (by decide)
  have hl1 := HX5.out.lt
  have hl2 := HL5.out.lt
  have hl3 := HM5.out.lt
  have hc5 := Hc5.out
  have hbe := Below.later HE5.out HGr.out
  have hvm : w4.heap.size ≤ YB := by omega
  have n2 : YB ≠ XB := by omega
  have n3 : YB ≠ XL := by omega
  have n4 : YB ≠ w4.heap.size := by omega
  have n6 : YB ≠ YL := Ne.symm hne
  have HD := Lib.hid (show SXD w4.heap.size w4.heap.size XB YB XL YL from ⟨Nat.le_refl _, by omega, by omega, by omega, by omega, by omega, by omega, hc5.2.2.1, by omega, by omega, by omega, hne⟩)
  have HS6 := Lib.hid (show SX w4 (((V5.setCell ⟨YB, 0, none⟩ (.slice (some ⟨YL, 0, none⟩) S.length cy)).setCell ⟨YB, 1, none⟩ (.slice PA P.length pc)).setCell ⟨YB, 2, none⟩ (.slice OA O.length oc)) w4.heap.size XB YB XL YL cx cy S.length (.slice PA P.length pc) (.slice OA O.length oc) (fun _ => 0) (stockM S) (stockM S) from
    ⟨bset (bset (bset hbe (p := ⟨YB, 0, none⟩) hvm _) (p := ⟨YB, 1, none⟩) hvm _) (p := ⟨YB, 2, none⟩) hvm _,
     (((HX5.out.later HGr.out).other (p := ⟨YB, 0, none⟩) n2 _).other (p := ⟨YB, 1, none⟩) n2 _).other (p := ⟨YB, 2, none⟩) n2 _,
     ((hz.set 0 _).set 1 _).set 2 _,
     (((HM5.out.later HGr.out).other (p := ⟨YB, 0, none⟩) n4 _).other (p := ⟨YB, 1, none⟩) n4 _).other (p := ⟨YB, 2, none⟩) n4 _,
     (((HL5.out.later HGr.out).other (p := ⟨YB, 0, none⟩) n3 _).other (p := ⟨YB, 1, none⟩) n3 _).other (p := ⟨YB, 2, none⟩) n3 _,
     ((har.other (p := ⟨YB, 0, none⟩) n6 _).other (p := ⟨YB, 1, none⟩) n6 _).other (p := ⟨YB, 2, none⟩) n6 _⟩)
  have Hc6 := Lib.hid (show S.length ≤ cx ∧ cx ≤ 9223372036854775807 ∧ S.length ≤ cy ∧ cy ≤ 9223372036854775807 from ⟨hc5.1, hc5.2.1, hc1, hc2⟩)
  have y0 := hz.cell 0
  have y1 := hz.cell 1
  have y2 := hz.cell 2
  have y3 := hz.frozen 0
  have y4 := hz.frozen 1
  have y5 := hz.frozen 2
  have y6 := hz.lt
  clear hok hr hz hc1 hc2 hYL hYB har hne hc hf hG HGd HGr HG5 HM5 HX5 HL5 HE5 Hc5 hl1 hl2 hl3 hc5 hbe hvm n2 n3 n4 n6
  unfold doesAt
  simp only [hE8, hE9]
  go_simp
  clear y0 y1 y2 y3 y4 y5 y6 hE8 hE9
  generalize (((V5.setCell ⟨YB, 0, none⟩ (.slice (some ⟨YL, 0, none⟩) S.length cy)).setCell ⟨YB, 1, none⟩ (.slice PA P.length pc)).setCell ⟨YB, 2, none⟩ (.slice OA O.length oc)) = U6 at *
  clear g0 g1 g2 g3
  go_wp2_with fail
  have HI0 := Lib.hid (show SpI S 0 (fun _ => 0) (stockM S) (stockM S) from fun j _ => by
    have h1 := stockM_bound HF.out.stk (by omega) j
    exact ⟨Int.le_refl _, by show stockM S j + 0 ≤ 50; omega, (Int.add_zero _).symm, Int.le_refl _, Int.le_refl _, fun _ => rfl⟩)
  refine loop_n (fun m b W => b.defers = [] ∧ ∃ (i : Nat) (FM FX FY : Nat → Int), i + m = S.length ∧ Hid (SX w4 W w4.heap.size XB YB XL YL cx cy S.length (.slice PA P.length pc) (.slice OA O.length oc) FM FX FY) ∧ Hid (SpI S i FM FX FY) ∧ Fits (none :: some (.slice BA bn bc) :: some (.slice QA qn qc) :: some (.pointer (some ⟨w.heap.size, 0, none⟩)) :: none :: none :: none :: some (.slice (some ⟨w4.heap.size, 0, none⟩) S.length S.length) :: some (.pointer (some ⟨XB, 0, none⟩)) :: some (.pointer (some ⟨YB, 0, none⟩)) :: some (.int .i64 (i : Nat)) :: none :: none :: none :: none :: none :: none :: none :: none :: none :: none :: none :: none :: none :: none :: none :: none :: none :: none :: none :: none :: none :: none :: none :: none :: none :: none :: none :: none :: none :: none :: none :: none :: none :: none :: none :: none :: none :: none :: none :: none :: none :: none :: none :: none :: none :: none :: none :: none :: none :: none :: none :: none :: none :: none :: none :: none :: none :: none :: none :: none :: none :: none :: none :: none :: none :: none :: none :: none :: none :: none :: none :: none :: none :: none :: none :: none :: none :: none :: none :: none :: none :: none :: none :: none :: none :: none :: none :: none :: none :: none :: none :: none :: none :: none :: none :: none :: none :: none :: none :: none :: none :: none :: none :: none :: none :: none :: none :: none :: none :: none :: none :: none :: none :: none :: none :: none :: none :: none :: none :: none :: none :: none :: none :: none :: none :: none :: none :: none :: none :: none :: none :: none :: none :: none :: none :: none :: none :: none :: none :: none :: none :: none :: none :: none :: none :: none :: none :: none :: none :: none :: none :: none :: none :: none :: none :: none :: none :: none :: none :: none :: none :: none :: none :: none :: none :: none :: none :: none :: none :: none :: none :: none :: none :: []) b.tmps.toList) S.length ?_ ?_
  · refine ⟨rfl, 0, _, _, _, by omega, HS6, HI0, ?_⟩
    repeat (first | exact fits_nil | refine fits_none ?_ | refine fits_some ?_)
  clear HS6 HI0 hmk
  intro m b W hI K hK
  obtain ⟨hds, i, FM, FX, FY, him, HS, HI, hfit⟩ := hI
  obtain ⟨f, hf⟩ := fits_act hfit
  rw [hds] at hf
  subst hf
  clear hfit hds
  simp only [fillP, Nat.reduceAdd]
  by_cases hlt : i < S.length
  · have i1 : (i : Int) < (S.length : Int) := by omega
    have i2 : (0 : Int) ≤ (i : Int) := by omega
    have i3 : IntKind.i64.wrap ((i : Int) + 1) = (i : Int) + 1 := by rw [IntKind.wrap_i64]; omega
    have Him := Lib.hid (show i + m = S.length ∧ i < S.length from ⟨him, hlt⟩)
    have Hii := Lib.hid (HI.out i hlt)
    have HGl := Lib.hid (HG1.out.later HS.out.be)
    obtain ⟨sb, so, x, rfl, hsb, hx, q2⟩ := HGl.out.sh.stk.ltI (i := i) hlt
    have hxs : stockM S i = x := stockM_at hx
    have hii := HI.out i hlt
    rw [hxs] at hii
    have hfm : FM i = 0 := hii.2.2.2.2.2 (Nat.le_refl i)
    have hfy : FY i = x := by omega
    have hfx : FX i = x := by omega
    have hx50 : 0 ≤ x ∧ x ≤ 50 := HF.out.stk x (List.mem_of_getElem? hx)
    have Hx := Lib.hid (show stockM S i = x ∧ FM i = 0 ∧ FY i = x ∧ FX i = x ∧ 0 ≤ x ∧ x ≤ 50 from ⟨hxs, hfm, hfy, hfx, hx50⟩)
    obtain ⟨g0, g1, g2, g3⟩ := HGl.out.cells
    clear him hx hxs hii hfm hfy hfx
    by_cases hl2 : i < bn
    · obtain ⟨bb, bo, yn, rfl, hbb, hy, y0⟩ := (Sl.later HB1.out HS.out.be).ltB hl2
      have hyn := Hbd.out yn (List.mem_of_getElem? hy)
      obtain ⟨y, hyy⟩ : ∃ y : Int, (yn : Int) = y := ⟨_, rfl⟩
      rw [hyy] at y0
      have i4 : (i : Int) < (bn : Int) := by omega
      have i5 : decide ((i : Int) < (bn : Int)) = true := decide_eq_true i4
      have e1 : IntKind.i64.wrap y = y := by rw [IntKind.wrap_i64]; omega
      obtain ⟨d, hdd⟩ : ∃ d, 50 - x = d := ⟨_, rfl⟩
      have e2 : IntKind.i64.wrap (50 - x) = d := by rw [IntKind.wrap_i64]; omega
      obtain ⟨mm, hmm⟩ : ∃ mm, (if d < y then d else y) = mm := ⟨_, rfl⟩
      have Hmm := Lib.hid (show 0 ≤ mm ∧ x + mm ≤ 50 by rw [← hmm]; split <;> omega)
      have hlt2 := Him.out.2
      clear hl2 hy hyn hyy hdd hx50 hlt
      go_wp2_with fail
      refine dag 15 (by kernel_rfl) (by kernel_rfl) (.is ?_ :: .is ?_ :: .is ?_ :: .is ?_ :: .is ?_ :: .is ?_ :: .is ?_ :: .is ?_ :: .is ?_ :: .is ?_ :: .is ?_ :: .is ?_ :: .is ?_ :: .is ?_ :: .is ?_ :: []) rfl ?st6 ?ob6
      case st6 => simp [Spec.ok]
      case ob6 =>
      intro env6 V6 hG
      obtain ⟨hc, hf⟩ := bcell hG
      repeat (refine obls_is ?_ ?_; unfold doesAt; go_simp; (try go_bits); (first | (refine ⟨brefl _, ?_⟩; rfl) | rfl); intro K hK; go_simp; refine hK _ ?_; clear hK K)
      refine obls_last (fun _ => ?_)
      have HSn := Lib.hid (HS.out.later hG)
      have c0 := HSn.out.am.cell hlt2
      have c1 := HSn.out.am.frozen i
      have c2 := HSn.out.am.lt
      have HSf := Lib.hid (HSn.out.setM HD.out hlt2 mm)
      clear hc hf hG g0 g1 g2 g3 y0 q2 hmm hbb hsb
      unfold doesAt
      go_simp
      clear c0 c1 c2
      generalize V6.setCell ⟨w4.heap.size, i, none⟩ (.int .i64 mm) = W7 at *
      clear HSn
      have c3 := HSf.out.yb.cell 0
      have c4 := HSf.out.yb.lt
      have c5 := HSf.out.ay.cell hlt2
      have c6 := HSf.out.am.cell hlt2
      have c7 := HSf.out.ay.lt
      have c8 := HSf.out.am.lt
      rw [Hx.out.2.2.1] at c5
      rw [upd_at] at c6
      obtain ⟨s2, hs2⟩ : ∃ s2, x + mm = s2 := ⟨_, rfl⟩
      have e3 : IntKind.i64.wrap (x + mm) = s2 := by have := Hmm.out; have := Hx.out; rw [IntKind.wrap_i64]; omega
      have Hs2 := Lib.hid hs2
      clear hs2
      go_wp2_with fail
      refine dag 11 (by kernel_rfl) (by kernel_rfl) (.is ?_ :: .is ?_ :: .is ?_ :: .is ?_ :: .is ?_ :: .is ?_ :: .is ?_ :: .is ?_ :: .is ?_ :: .is ?_ :: .is ?_ :: []) rfl ?sy7 ?oy7
      case sy7 => simp [Spec.ok]
      case oy7 =>
      intro env7 V7 hG
      obtain ⟨hc, hf⟩ := bcell hG
      repeat (refine obls_is ?_ ?_; unfold doesAt; go_simp; (try go_bits); (first | (refine ⟨brefl _, ?_⟩; rfl) | rfl); intro K hK; go_simp; refine hK _ ?_; clear hK K)
      refine obls_last (fun _ => ?_)
      have HSn := Lib.hid (HSf.out.later hG)
      have d0 := HSn.out.ay.cell hlt2
      have d1 := HSn.out.ay.frozen i
      have d2 := HSn.out.ay.lt
      have HSg := Lib.hid (HSn.out.setY HD.out hlt2 s2)
      clear hc hf hG c3 c4 c5 c6 c7 c8
      unfold doesAt
      go_simp
      clear d0 d1 d2 HSn
      generalize V7.setCell ⟨YL, i, none⟩ (.int .i64 s2) = Y7 at *
      by_cases hl3 : i < qn
      case pos =>
        obtain ⟨qb, qo, zn, rfl, hqb, hz, z0⟩ := (Sl.later HQ1.out HSg.out.be).ltB hl3
        have hzn := Hqd.out zn (List.mem_of_getElem? hz)
        obtain ⟨zz, hzz⟩ : ∃ zz : Int, (zn : Int) = zz := ⟨_, rfl⟩
        rw [hzz] at z0
        have i6 : (i : Int) < (qn : Int) := by omega
        have i7 : decide ((i : Int) < (qn : Int)) = true := decide_eq_true i6
        have hmm := Hmm.out
        have hx := Hx.out
        obtain ⟨q, hqq⟩ : ∃ q, mm + 1 = q := ⟨_, rfl⟩
        have e4 : IntKind.i64.wrap (mm + 1) = q := by rw [IntKind.wrap_i64]; omega
        have hq0 : ¬ q = 0 := by omega
        obtain ⟨t, ht⟩ : ∃ t, zz.tmod q = t := ⟨_, rfl⟩
        have htb : 0 ≤ t ∧ t ≤ mm := by
          rw [← ht, Int.tmod_eq_emod_of_nonneg (by omega)]
          have h1 := Int.emod_nonneg zz hq0
          have h2 := Int.emod_lt_of_pos zz (show 0 < q by omega)
          omega
        have e6 : IntKind.i64.wrap zz = zz := by rw [IntKind.wrap_i64]; omega
        have e7 : IntKind.i64.wrap t = t := by rw [IntKind.wrap_i64]; omega
        obtain ⟨x2, hx2⟩ : ∃ x2, x + t = x2 := ⟨_, rfl⟩
        have e8 : IntKind.i64.wrap (x + t) = x2 := by rw [IntKind.wrap_i64]; omega
        have hin := HI.out.next (m := mm) (z := t) hmm.1 (by rw [Hx.out.1]; exact hmm.2) htb.1 htb.2
        rw [Hx.out.1, hx2, Hs2.out] at hin
        have HIn := Lib.hid hin
        have c3 := HSg.out.xb.cell 0
        have c4 := HSg.out.xb.lt
        have c5 := HSg.out.ax.cell hlt2
        have c6 := HSg.out.am.cell hlt2
        have c7 := HSg.out.ax.lt
        have c8 := HSg.out.am.lt
        rw [Hx.out.2.2.2.1] at c5
        rw [upd_at] at c6
        clear hl3 hz hzn hzz hqq hmm hx htb hx2 hin
        go_wp2_with fail
        refine dag 18 (by kernel_rfl) (by kernel_rfl) (.is ?_ :: .is ?_ :: .is ?_ :: .is ?_ :: .is ?_ :: .is ?_ :: .is ?_ :: .is ?_ :: .is ?_ :: .is ?_ :: .is ?_ :: .is ?_ :: .is ?_ :: .is ?_ :: .is ?_ :: .is ?_ :: .is ?_ :: .is ?_ :: []) rfl ?sz7 ?oz7
        case sz7 => simp [Spec.ok]
        case oz7 =>
        intro envz7 Z7 hG
        obtain ⟨hc, hf⟩ := bcell hG
        repeat (refine obls_is ?_ ?_; unfold doesAt; go_simp; (try go_bits); (first | (refine ⟨brefl _, ?_⟩; rfl) | rfl); intro K hK; go_simp; refine hK _ ?_; clear hK K)
        refine obls_last (fun _ => ?_)
        have HSn := Lib.hid (HSg.out.later hG)
        have d0 := HSn.out.ax.cell hlt2
        have d1 := HSn.out.ax.frozen i
        have d2 := HSn.out.ax.lt
        have HSh := Lib.hid (HSn.out.setX HD.out hlt2 x2)
        clear hc hf hG c3 c4 c5 c6 c7 c8 z0 hqb
        unfold doesAt
        go_simp
        clear d0 d1 d2 HSn
        generalize Z7.setCell ⟨XL, i, none⟩ (.int .i64 x2) = T7 at *
        go_wp2_with fail
        refine hK _ _ (m - 1) (by have := Him.out; omega) ⟨rfl, i + 1, _, _, _, by have := Him.out; omega, HSh, HIn, ?_⟩
        repeat (first | exact fits_nil | refine fits_none ?_ | refine fits_some ?_)
      case neg =>
        have i6 : ¬ (i : Int) < (qn : Int) := by omega
        have i7 : decide ((i : Int) < (qn : Int)) = false := decide_eq_false i6
        have hmm := Hmm.out
        have hin := HI.out.next (m := mm) (z := 0) hmm.1 (by rw [Hx.out.1]; exact hmm.2) (Int.le_refl _) hmm.1
        rw [Hx.out.1, Hs2.out, upd_self (v := x + 0) (by have := Hx.out; omega)] at hin
        have HIn := Lib.hid hin
        clear hl3 hmm hin
        go_wp2_with fail
        refine hK _ _ (m - 1) (by have := Him.out; omega) ⟨rfl, i + 1, _, _, _, by have := Him.out; omega, HSg, HIn, ?_⟩
        repeat (first | exact fits_nil | refine fits_none ?_ | refine fits_some ?_)
    · have i4 : ¬ (i : Int) < (bn : Int) := by omega
      have i5 : decide ((i : Int) < (bn : Int)) = false := decide_eq_false i4
      obtain ⟨mm, hmm⟩ : ∃ mm, FM i = mm := ⟨_, rfl⟩
      have Hmm := Lib.hid (show 0 ≤ mm ∧ x + mm ≤ 50 by have := Hx.out; omega)
      have hlt2 := Him.out.2
      have HSf := Lib.hid (show SX w4 W w4.heap.size XB YB XL YL cx cy S.length (.slice PA P.length pc) (.slice OA O.length oc) (Gr9.upd FM i mm) FX FY by rw [upd_self hmm]; exact HS.out)
      clear hl2 hx50 hmm q2 hsb hlt
      have c3 := HSf.out.yb.cell 0
      have c4 := HSf.out.yb.lt
      have c5 := HSf.out.ay.cell hlt2
      have c6 := HSf.out.am.cell hlt2
      have c7 := HSf.out.ay.lt
      have c8 := HSf.out.am.lt
      rw [Hx.out.2.2.1] at c5
      rw [upd_at] at c6
      obtain ⟨s2, hs2⟩ : ∃ s2, x + mm = s2 := ⟨_, rfl⟩
      have e3 : IntKind.i64.wrap (x + mm) = s2 := by have := Hmm.out; have := Hx.out; rw [IntKind.wrap_i64]; omega
      have Hs2 := Lib.hid hs2
      clear hs2
      go_wp2_with fail
      refine dag 11 (by kernel_rfl) (by kernel_rfl) (.is ?_ :: .is ?_ :: .is ?_ :: .is ?_ :: .is ?_ :: .is ?_ :: .is ?_ :: .is ?_ :: .is ?_ :: .is ?_ :: .is ?_ :: []) rfl ?sy8 ?oy8
      case sy8 => simp [Spec.ok]
      case oy8 =>
      intro env8 V8 hG
      obtain ⟨hc, hf⟩ := bcell hG
      repeat (refine obls_is ?_ ?_; unfold doesAt; go_simp; (try go_bits); (first | (refine ⟨brefl _, ?_⟩; rfl) | rfl); intro K hK; go_simp; refine hK _ ?_; clear hK K)
      refine obls_last (fun _ => ?_)
      have HSn := Lib.hid (HSf.out.later hG)
      have d0 := HSn.out.ay.cell hlt2
      have d1 := HSn.out.ay.frozen i
      have d2 := HSn.out.ay.lt
      have HSg := Lib.hid (HSn.out.setY HD.out hlt2 s2)
      clear hc hf hG c3 c4 c5 c6 c7 c8
      unfold doesAt
      go_simp
      clear d0 d1 d2 HSn
      generalize V8.setCell ⟨YL, i, none⟩ (.int .i64 s2) = Y8 at *
      by_cases hl3 : i < qn
      case pos =>
        obtain ⟨qb, qo, zn, rfl, hqb, hz, z0⟩ := (Sl.later HQ1.out HSg.out.be).ltB hl3
        have hzn := Hqd.out zn (List.mem_of_getElem? hz)
        obtain ⟨zz, hzz⟩ : ∃ zz : Int, (zn : Int) = zz := ⟨_, rfl⟩
        rw [hzz] at z0
        have i6 : (i : Int) < (qn : Int) := by omega
        have i7 : decide ((i : Int) < (qn : Int)) = true := decide_eq_true i6
        have hmm := Hmm.out
        have hx := Hx.out
        obtain ⟨q, hqq⟩ : ∃ q, mm + 1 = q := ⟨_, rfl⟩
        have e4 : IntKind.i64.wrap (mm + 1) = q := by rw [IntKind.wrap_i64]; omega
        have hq0 : ¬ q = 0 := by omega
        obtain ⟨t, ht⟩ : ∃ t, zz.tmod q = t := ⟨_, rfl⟩
        have htb : 0 ≤ t ∧ t ≤ mm := by
          rw [← ht, Int.tmod_eq_emod_of_nonneg (by omega)]
          have h1 := Int.emod_nonneg zz hq0
          have h2 := Int.emod_lt_of_pos zz (show 0 < q by omega)
          omega
        have e6 : IntKind.i64.wrap zz = zz := by rw [IntKind.wrap_i64]; omega
        have e7 : IntKind.i64.wrap t = t := by rw [IntKind.wrap_i64]; omega
        obtain ⟨x2, hx2⟩ : ∃ x2, x + t = x2 := ⟨_, rfl⟩
        have e8 : IntKind.i64.wrap (x + t) = x2 := by rw [IntKind.wrap_i64]; omega
        have hin := HI.out.next (m := mm) (z := t) hmm.1 (by rw [Hx.out.1]; exact hmm.2) htb.1 htb.2
        rw [Hx.out.1, hx2, Hs2.out] at hin
        have HIn := Lib.hid hin
        have c3 := HSg.out.xb.cell 0
        have c4 := HSg.out.xb.lt
        have c5 := HSg.out.ax.cell hlt2
        have c6 := HSg.out.am.cell hlt2
        have c7 := HSg.out.ax.lt
        have c8 := HSg.out.am.lt
        rw [Hx.out.2.2.2.1] at c5
        rw [upd_at] at c6
        clear hl3 hz hzn hzz hqq hmm hx htb hx2 hin
        go_wp2_with fail
        refine dag 18 (by kernel_rfl) (by kernel_rfl) (.is ?_ :: .is ?_ :: .is ?_ :: .is ?_ :: .is ?_ :: .is ?_ :: .is ?_ :: .is ?_ :: .is ?_ :: .is ?_ :: .is ?_ :: .is ?_ :: .is ?_ :: .is ?_ :: .is ?_ :: .is ?_ :: .is ?_ :: .is ?_ :: []) rfl ?sz8 ?oz8
        case sz8 => simp [Spec.ok]
        case oz8 =>
        intro envz8 Z8 hG
        obtain ⟨hc, hf⟩ := bcell hG
        repeat (refine obls_is ?_ ?_; unfold doesAt; go_simp; (try go_bits); (first | (refine ⟨brefl _, ?_⟩; rfl) | rfl); intro K hK; go_simp; refine hK _ ?_; clear hK K)
        refine obls_last (fun _ => ?_)
        have HSn := Lib.hid (HSg.out.later hG)
        have d0 := HSn.out.ax.cell hlt2
        have d1 := HSn.out.ax.frozen i
        have d2 := HSn.out.ax.lt
        have HSh := Lib.hid (HSn.out.setX HD.out hlt2 x2)
        clear hc hf hG c3 c4 c5 c6 c7 c8 z0 hqb
        unfold doesAt
        go_simp
        clear d0 d1 d2 HSn
        generalize Z8.setCell ⟨XL, i, none⟩ (.int .i64 x2) = T8 at *
        go_wp2_with fail
        refine hK _ _ (m - 1) (by have := Him.out; omega) ⟨rfl, i + 1, _, _, _, by have := Him.out; omega, HSh, HIn, ?_⟩
        repeat (first | exact fits_nil | refine fits_none ?_ | refine fits_some ?_)
      case neg =>
        have i6 : ¬ (i : Int) < (qn : Int) := by omega
        have i7 : decide ((i : Int) < (qn : Int)) = false := decide_eq_false i6
        have hmm := Hmm.out
        have hin := HI.out.next (m := mm) (z := 0) hmm.1 (by rw [Hx.out.1]; exact hmm.2) (Int.le_refl _) hmm.1
        rw [Hx.out.1, Hs2.out, upd_self (v := x + 0) (by have := Hx.out; omega)] at hin
        have HIn := Lib.hid hin
        clear hl3 hmm hin
        go_wp2_with fail
        refine hK _ _ (m - 1) (by have := Him.out; omega) ⟨rfl, i + 1, _, _, _, by have := Him.out; omega, HSg, HIn, ?_⟩
        repeat (first | exact fits_nil | refine fits_none ?_ | refine fits_some ?_)
  · obtain rfl : i = S.length := by omega
    have i1 : ¬ (S.length : Int) < (S.length : Int) := by omega
    have HG0 := Lib.hid (HG1.out.later HS.out.be)
    obtain ⟨g0, g1, g2, g3⟩ := HG0.out.cells
    clear him hlt hK
    have hsx := HI.out
    have hbx : ∀ j, j < S.length → 0 ≤ FX j ∧ FX j ≤ 50 := fun j hj => by
      have h1 := hsx j hj
      have h2 := stockM_bound HF.out.stk (by omega) j
      omega
    have hby : ∀ j, j < S.length → 0 ≤ FY j ∧ FY j ≤ 50 := fun j hj => by
      have h1 := hsx j hj
      have h2 := stockM_bound HF.out.stk (by omega) j
      omega
    have hex := fine_iff (span_fine HF.out hbx)
    have hey := fine_iff (span_fine HF.out hby)
    have hsr := span_R HF.out hsx
    have hsh := span_holds HF.out hsx
    have HL0 := Lib.hid (HS.out.am.sl (Nat.le_refl _) (by omega))
    have HO0 := Lib.hid (show GW w W XB (some ⟨XL, 0, none⟩) S.length cx PA P.length pc OA O.length oc ((List.range S.length).map FX) P O from ⟨HG0.out.bel, HS.out.xb, ⟨HS.out.ax.sl Hc6.out.1 Hc6.out.2.1, HG0.out.sh.prc, HG0.out.sh.ord⟩⟩)
    have HP0 := Lib.hid (show GW w W YB (some ⟨YL, 0, none⟩) S.length cy PA P.length pc OA O.length oc ((List.range S.length).map FY) P O from ⟨HG0.out.bel, HS.out.yb, ⟨HS.out.ay.sl Hc6.out.2.2.1 Hc6.out.2.2.2, HG0.out.sh.prc, HG0.out.sh.ord⟩⟩)
    clear HS HI hsx hbx hby
    generalize (List.range S.length).map FM = ML at *
    generalize (List.range S.length).map FX = LX at *
    generalize (List.range S.length).map FY = LY at *
    have Hsp := Lib.hid (fun W (h : ShopIn W W.heap.size SA S.length sc PA P.length pc OA O.length oc S P O) (hl : Sl 1 encI W W.heap.size (some ⟨w4.heap.size, 0, none⟩) S.length S.length ML) => span_any SA S.length sc PA P.length pc OA O.length oc S P O _ _ _ ML W h hl)
    have HlS := Lib.hid (fun W (h : ShopIn W W.heap.size SA S.length sc PA P.length pc OA O.length oc S P O) => least_both SA S.length sc PA P.length pc OA O.length oc S P O W h He.out)
    have HlX := Lib.hid (fun W (h : ShopIn W W.heap.size (some ⟨XL, 0, none⟩) S.length cx PA P.length pc OA O.length oc LX P O) => least_both (some ⟨XL, 0, none⟩) S.length cx PA P.length pc OA O.length oc LX P O W h hex)
    have HlY := Lib.hid (fun W (h : ShopIn W W.heap.size (some ⟨YL, 0, none⟩) S.length cy PA P.length pc OA O.length oc LY P O) => least_both (some ⟨YL, 0, none⟩) S.length cy PA P.length pc OA O.length oc LY P O W h hey)
    rw [hsr] at Hsp
    obtain ⟨o0, o1, o2, o3⟩ := HO0.out.cells
    obtain ⟨p0, p1, p2, p3⟩ := HP0.out.cells
    generalize canB LX.length O (stockM LX) = bX at *
    generalize canB LY.length O (stockM LY) = bY at *
    clear hsr hex hey
    cases hc : canB S.length O (stockM S) with
    | true =>
      obtain ⟨e1, e2, k1, k2⟩ := hsh hc
      rw [hc, if_pos rfl, ← e1, ← e2] at Hsp
      rw [hc] at HlS
      clear e1 e2 hc hsh
      generalize leastN S P O = nS at *
      generalize leastN LX P O = nX at *
      generalize leastN LY P O = nY at *
      go_wp2_with fail
      refine (Hsp.out _ HG0.out.sh HL0.out).mono ?_
      rintro e w5 ⟨rfl, hb⟩
      have HG1 := Lib.hid (HG0.out.later hb)
      have HO1 := Lib.hid (HO0.out.later hb)
      have HP1 := Lib.hid (HP0.out.later hb)
      have HL1 := Lib.hid (HL0.out.later hb)
      clear hb HG0 HO0 HP0 HL0 g0 g1 g2 g3 o0 o1 o2 o3 p0 p1 p2 p3
      obtain ⟨g0, g1, g2, g3⟩ := HG1.out.cells
      obtain ⟨o0, o1, o2, o3⟩ := HO1.out.cells
      obtain ⟨p0, p1, p2, p3⟩ := HP1.out.cells
      go_wp2_with fail
      refine (HlS.out _ HG1.out.sh).mono ?_
      rintro e w6 ⟨rfl, hb, hX⟩
      have HG2 := Lib.hid (HG1.out.later hb)
      have HO2 := Lib.hid (HO1.out.later hb)
      have HP2 := Lib.hid (HP1.out.later hb)
      have HL2 := Lib.hid (HL1.out.later hb)
      clear hb HG1 HO1 HP1 HL1 g0 g1 g2 g3 o0 o1 o2 o3 p0 p1 p2 p3
      obtain ⟨g0, g1, g2, g3⟩ := HG2.out.cells
      obtain ⟨o0, o1, o2, o3⟩ := HO2.out.cells
      obtain ⟨p0, p1, p2, p3⟩ := HP2.out.cells
      clear hX
      go_wp2_with fail
      refine (HlX.out _ HO2.out.sh).mono ?_
      rintro e w7 ⟨rfl, hb, hX⟩
      have HG3 := Lib.hid (HG2.out.later hb)
      have HO3 := Lib.hid (HO2.out.later hb)
      have HP3 := Lib.hid (HP2.out.later hb)
      have HL3 := Lib.hid (HL2.out.later hb)
      clear hb HG2 HO2 HP2 HL2 g0 g1 g2 g3 o0 o1 o2 o3 p0 p1 p2 p3
      obtain ⟨g0, g1, g2, g3⟩ := HG3.out.cells
      obtain ⟨o0, o1, o2, o3⟩ := HO3.out.cells
      obtain ⟨p0, p1, p2, p3⟩ := HP3.out.cells
      clear hX
      go_wp2_with fail
      refine (HlY.out _ HP3.out.sh).mono ?_
      rintro e w8 ⟨rfl, hb, hX⟩
      have HG4 := Lib.hid (HG3.out.later hb)
      have HO4 := Lib.hid (HO3.out.later hb)
      have HP4 := Lib.hid (HP3.out.later hb)
      have HL4 := Lib.hid (HL3.out.later hb)
      clear hb HG3 HO3 HP3 HL3 g0 g1 g2 g3 o0 o1 o2 o3 p0 p1 p2 p3
      obtain ⟨g0, g1, g2, g3⟩ := HG4.out.cells
      obtain ⟨o0, o1, o2, o3⟩ := HO4.out.cells
      obtain ⟨p0, p1, p2, p3⟩ := HP4.out.cells
      clear hX
      go_wp2_with fail
      refine (works_any _).mono ?_
      rintro e we ⟨rfl, hbe⟩
      have HBE := Lib.hid (Below.later HG4.out.bel hbe)
      clear hbe
      go_wp2
      go_ret
      exact ⟨rfl, HBE.out⟩
    | false =>
      rw [hc, if_neg (by decide)] at Hsp
      rw [hc] at HlS
      clear hc hsh
      generalize leastN S P O = nS at *
      generalize leastN LX P O = nX at *
      generalize leastN LY P O = nY at *
      go_wp2_with fail
      refine (Hsp.out _ HG0.out.sh HL0.out).mono ?_
      rintro e w9 ⟨rfl, hb⟩
      have HG1 := Lib.hid (HG0.out.later hb)
      have HO1 := Lib.hid (HO0.out.later hb)
      have HP1 := Lib.hid (HP0.out.later hb)
      have HL1 := Lib.hid (HL0.out.later hb)
      clear hb HG0 HO0 HP0 HL0 g0 g1 g2 g3 o0 o1 o2 o3 p0 p1 p2 p3
      obtain ⟨g0, g1, g2, g3⟩ := HG1.out.cells
      obtain ⟨o0, o1, o2, o3⟩ := HO1.out.cells
      obtain ⟨p0, p1, p2, p3⟩ := HP1.out.cells
      go_wp2_with fail
      refine (HlS.out _ HG1.out.sh).mono ?_
      rintro e w10 ⟨rfl, hb, hX⟩
      have HG2 := Lib.hid (HG1.out.later hb)
      have HO2 := Lib.hid (HO1.out.later hb)
      have HP2 := Lib.hid (HP1.out.later hb)
      have HL2 := Lib.hid (HL1.out.later hb)
      clear hb HG1 HO1 HP1 HL1 g0 g1 g2 g3 o0 o1 o2 o3 p0 p1 p2 p3
      obtain ⟨g0, g1, g2, g3⟩ := HG2.out.cells
      obtain ⟨o0, o1, o2, o3⟩ := HO2.out.cells
      obtain ⟨p0, p1, p2, p3⟩ := HP2.out.cells
      clear hX
      go_wp2_with fail
      refine (HlX.out _ HO2.out.sh).mono ?_
      rintro e w11 ⟨rfl, hb, hX⟩
      have HG3 := Lib.hid (HG2.out.later hb)
      have HO3 := Lib.hid (HO2.out.later hb)
      have HP3 := Lib.hid (HP2.out.later hb)
      have HL3 := Lib.hid (HL2.out.later hb)
      clear hb HG2 HO2 HP2 HL2 g0 g1 g2 g3 o0 o1 o2 o3 p0 p1 p2 p3
      obtain ⟨g0, g1, g2, g3⟩ := HG3.out.cells
      obtain ⟨o0, o1, o2, o3⟩ := HO3.out.cells
      obtain ⟨p0, p1, p2, p3⟩ := HP3.out.cells
      clear hX
      go_wp2_with fail
      refine (HlY.out _ HP3.out.sh).mono ?_
      rintro e w12 ⟨rfl, hb, hX⟩
      have HG4 := Lib.hid (HG3.out.later hb)
      have HO4 := Lib.hid (HO3.out.later hb)
      have HP4 := Lib.hid (HP3.out.later hb)
      have HL4 := Lib.hid (HL3.out.later hb)
      clear hb HG3 HO3 HP3 HL3 g0 g1 g2 g3 o0 o1 o2 o3 p0 p1 p2 p3
      obtain ⟨g0, g1, g2, g3⟩ := HG4.out.cells
      obtain ⟨o0, o1, o2, o3⟩ := HO4.out.cells
      obtain ⟨p0, p1, p2, p3⟩ := HP4.out.cells
      clear hX
      go_wp2_with fail
      refine (works_any _).mono ?_
      rintro e we ⟨rfl, hbe⟩
      have HBE := Lib.hid (Below.later HG4.out.bel hbe)
      clear hbe
      go_wp2
      go_ret
      exact ⟨rfl, HBE.out⟩
end Go.Proofs.Ytmfiggbobaihcaa
