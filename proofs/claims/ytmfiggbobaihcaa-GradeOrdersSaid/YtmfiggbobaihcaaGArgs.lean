/- The arguments of the statements: what a handed shop, rows, lists and numbers are. -/
import Derived.Test.YtmfiggbobaihcaaRows
import Derived.Test.YtmfiggbobaihcaaGShop
import Derived.ProofKit
import Derived.OpenShut
import Derived.WideKeyArgs
import Derived.Below
namespace Go.Proofs.Ytmfiggbobaihcaa
open Go.RowKit Go.Shelf Go.ChangeShapes Go.WideShapes Go.ChangeAt

section
variable {H : Type} {enc : TypeId × Value → H} {P : Program} {W W' : World}

/-! ### A law's last step -/
/-- All arguments read in W' as they read in W, if nothing that was there has turned. -/
theorem args_stay (hl : laidOutB P = true) {spare : Nat → Bool} : ∀ {ts : List TypeId} {vs : List Value} {ds : List (DataW H)} {ps : List MemPlace}, (∀ t ∈ ts, P.readableRec t = true ∧ t < P.types.size) →
    DataW.TrodAll enc P W 0 (fun _ => true) true ts vs ds ps → Below W.heap.size W W' → (∀ x ∈ ps, x.block < W.heap.size) → (∀ x ∈ ps, spare x.block = true) → DataW.TrodAll enc P W' 0 spare true ts vs ds ps
  | [], [], [], _, _, h, _, _, _ => h
  | t :: ts, v :: vs, d :: ds, ps, hts, h, hb, hlt, hsp => by
    obtain ⟨p, q, h1, h2, rfl⟩ := h
    have ht := hts t (by simp)
    refine ⟨p, q, WideElems.Trod_stays hl ht.1 ht.2 h1 (fun x hx => hb.same (hlt x (by simp [hx]))) (fun x hx => hsp x (by simp [hx])), ?_, rfl⟩
    exact args_stay hl (fun t' ht' => hts t' (by simp [ht'])) h2 hb (fun x hx => hlt x (by simp [hx])) (fun x hx => hsp x (by simp [hx]))
  | [], _ :: _, _, _, _, h, _, _, _ => h.elim
  | _ :: _, [], _, _, _, h, _, _, _ => h.elim
  | [], [], _ :: _, _, _, h, _, _, _ => h.elim
  | _ :: _, _ :: _, [], _, _, h, _, _, _ => h.elim

/-- **The last step**: a bool that is true, memory that has at most grown: the specification of a law holds. -/
theorem law_done (hl : laidOutB P = true) {f : Func} {s : ChangeSpec} {args : Array Value} {ds : List (DataW H)} {before : List MemPlace} {tb : TypeId}
    (hW : DataW.Whole enc P f.params.toList s.vars false W args.toList ds [] before) (hv : s.vars = []) (hts : ∀ t ∈ f.params.toList, P.readableRec t = true ∧ t < P.types.size)
    (hs : s.fn H ds = { results := [.lit (.bool true)], args := ds }) (hr : f.resultTypes = #[tb]) (htb : P.underlying tb = some .bool) (hb : Below W.heap.size W W') :
    s.post enc P f false true false false W args (.bool true) W' := by
  have hlt : ∀ p ∈ before, p.block < W.heap.size := fun p hp => hW.lt p hp
  obtain ⟨p, q, hA, hV, hpq, hz, _⟩ := id hW
  rw [hv] at hV
  obtain ⟨_, rfl⟩ := trodVars_none hV
  rw [List.append_nil] at hpq
  subst hpq
  have hres : ∀ (b : Nat) (sp : Nat → Bool) (hd : Bool), DataW.TrodAll enc P W' b sp hd f.resultTypes.toList ((Value.bool true).resultList f.resultTypes.size) (s.fn H (ds ++ [])).results [] := by
    intro b sp hd
    rw [List.append_nil, hs, hr]
    exact trodAll_cons_mk (shut_bool htb _) trodAll_mk0
  have hargs : ∀ sp : Nat → Bool, (∀ x ∈ before, sp x.block = true) → DataW.TrodAll enc P W' 0 sp true f.params.toList args.toList (s.fn H (ds ++ [])).args before := by
    intro sp hsp
    rw [List.append_nil, hs]
    exact args_stay hl hts hA hb hlt hsp
  have hvars : ∀ sp : Nat → Bool, DataW.TrodVars enc P W' sp s.vars (s.fn H (ds ++ [])).vars [] := by
    intro sp
    rw [List.append_nil, hs, hv]
    rfl
  have hold : ∀ x ∈ before, (fun b => decide (b < W.heap.size)) x.block = true := fun x hx => by simpa using hlt x hx
  refine ⟨ds, [], before, [], before, [], hW, hres _ _ _, hargs _ hold, hvars _, World.keptBut_mono (fun x hx => ⟨hx, by simpa using hx⟩) (hb.frame (· ∈ before)), fun h => by cases h⟩
end

theorem list_of {α : Type} (Q : Nat → α → Prop) : ∀ n, (∀ i, i < n → ∃ x, Q i x) → ∃ xs : List α, xs.length = n ∧ ∀ i x, xs[i]? = some x → Q i x
  | 0, _ => ⟨[], rfl, fun i x h => by simp at h⟩
  | n + 1, h => by
    obtain ⟨xs, hl, hx⟩ := list_of Q n (fun i hi => h i (by omega))
    obtain ⟨y, hy⟩ := h n (by omega)
    refine ⟨xs ++ [y], by simp [hl], fun i x hi => ?_⟩
    by_cases e : i < xs.length
    · rw [List.getElem?_append_left e] at hi; exact hx i x hi
    · rw [List.getElem?_append_right (by omega)] at hi
      have : i - xs.length = 0 := by
        have := (List.getElem?_eq_some_iff.1 hi).1
        simp at this
        omega
      rw [this] at hi
      simp at hi
      subst hi
      rw [show i = n from by omega]
      exact hy
section
variable {H : Type} {enc : TypeId × Value → H} {P : Program} {W : World} {sp : Nat → Bool} {held : Bool}
theorem cells_at {a : Addr} {k : Nat} {l : List Value} (h : W.cells? 0 a k = some l) : l.length = k ∧ ∀ j u, l[j]? = some u → W.cell? (a.add j) = some u := by
  unfold World.cells? at h
  rw [if_pos (Nat.zero_le _)] at h
  have h1 := mapM_some_length h
  refine ⟨by simpa using h1, fun j u hj => ?_⟩
  have hjl : j < k := by have := (List.getElem?_eq_some_iff.1 hj).1; simp at h1; omega
  rw [mapM_some_get h j j (by simp [hjl]), hj]
theorem cell_here {p : Addr} {v : Value} (h : W.cell? p = some v) : p.spot = none ∧ p.block < W.heap.size := by
  unfold World.cell? at h
  split at h
  · rename_i c e f hb
    refine ⟨?_, (Array.getElem?_eq_some_iff.1 hb).1⟩
    cases hs : p.spot with
    | none => rfl
    | some x => rw [hs] at h; simp at h
  · cases h
theorem field_at {fuel : Nat} {fs : Array Field} {cs : List Value} {xs : List (DataW H × List MemPlace)} (hfs : ∀ (i : Nat) (f : Field), fs[i]? = some f → DataW.trod enc P W 0 sp held fuel f.type ((cs.drop f.offset).take (P.cellsOf f.type)) = xs[i]?)
    (i : Nat) {f : Field} (hf : fs[i]? = some f) {t : TypeId} {o c : Nat} (ht : f.type = t) (ho : f.offset = o) (hc : P.cellsOf t = c) (hi : i < xs.length) : DataW.trod enc P W 0 sp held fuel t ((cs.drop o).take c) = some xs[i] := by
  subst ht ho
  rw [← hc, hfs i f hf, List.getElem?_eq_getElem hi]
theorem open_sl {α : Type} {k : Nat} {f : α → List Value} {good : α → Prop} {t e : TypeId} (ht : P.underlying t = some (.slice e)) (hc : P.cellsOf e = k) (hk : 0 < k) (hf : ∀ x, (f x).length = k)
    (hdec : ∀ m cs y, DataW.trod enc P W 0 sp held m e cs = some y → ∃ x, cs = f x ∧ good x) {fuel : Nat} {cs : List Value} {y : DataW H × List MemPlace} (h : DataW.trod enc P W 0 sp held fuel t cs = some y) :
    ∃ A n c xs, cs = [.slice A n c] ∧ Sl k f W W.heap.size A n c xs ∧ ∀ x ∈ xs, good x := by
  rcases DataW.trod_slice ht h with ⟨rfl, _⟩ | ⟨a, len, cap, elems, rest, m, _, rfl, _, _, hl, hm, hlen, hel, _, _⟩
  · exact ⟨none, 0, 0, [], rfl, Sl.nil_, by simp⟩
  · rw [hc] at hel
    obtain ⟨xs, hxl, hxs⟩ := list_of (fun i x => good x ∧ W.cells? 0 (a.add (i * k)) k = some (f x)) len (fun i hi => by
      have h1 := hel i hi
      rw [List.getElem?_eq_getElem (by omega)] at h1
      obtain ⟨l, hl1, hl2⟩ := Option.bind_eq_some_iff.1 h1
      obtain ⟨x, rfl, hg⟩ := hdec _ _ _ hl2
      exact ⟨x, hg, hl1⟩)
    refine ⟨some a, len, cap, xs, rfl, ⟨hxl, hl, by simp only [maxLen] at hm; omega, fun hn => ?_⟩, fun x hx => by
      obtain ⟨i, hi⟩ := List.getElem?_of_mem hx
      exact (hxs i x hi).1⟩
    have hx0 : xs[0]? = some xs[0] := List.getElem?_eq_getElem (by omega)
    have h0 := (cells_at (hxs 0 _ hx0).2).2
    have hf0 : (f xs[0])[0]? = some ((f xs[0])[0]'(by rw [hf]; exact hk)) := List.getElem?_eq_getElem _
    have h1 := h0 0 _ hf0
    have e1 : (a.add (0 * k)).add 0 = a := by simp [Addr.add]
    rw [e1] at h1
    obtain ⟨hs, hb⟩ := cell_here h1
    obtain ⟨b, o, s⟩ := a
    simp only at hs hb
    subst hs
    refine ⟨b, o, rfl, hb, fun i x hx j u hu => ?_⟩
    have h2 := (cells_at (hxs i x hx).2).2 j u hu
    have e2 : ((⟨b, o, none⟩ : Addr).add (i * k)).add j = ⟨b, o + i * k + j, none⟩ := by
      unfold Addr.add
      by_cases q1 : i * k = 0
      · by_cases q2 : j = 0
        · simp [q1, q2]
        · simp [q1, q2]
      · by_cases q2 : j = 0
        · simp [q1, q2]
        · simp [q1, q2]
    rw [e2] at h2
    exact h2
end

theorem co_long : Try.prog.cellsOf 2 = 1 := by kernel_rfl
theorem co_longs : Try.prog.cellsOf 22 = 1 := by kernel_rfl
theorem co_ords : Try.prog.cellsOf 23 = 1 := by kernel_rfl
theorem co_int : Try.prog.cellsOf 3 = 1 := by kernel_rfl
theorem co_ord : Try.prog.cellsOf 66 = 2 := by kernel_rfl
theorem co_shop : Try.prog.cellsOf 25 = 3 := by kernel_rfl
abbrev Okay (b0 : Nat) (P : Program) (W : World) (t : TypeId) (v : Value) : Prop := Value.okWide P W .any b0 t v
def okI (x : Int) : Prop := -9223372036854775808 ≤ x ∧ x ≤ 9223372036854775807
section
variable {H : Type} {enc : TypeId × Value → H} {W : World} {sp : Nat → Bool} {held : Bool}
set_option maxRecDepth 100000
theorem dec_long {m : Nat} {cs : List Value} {y : DataW H × List MemPlace} (h : DataW.trod enc Try.prog W 0 sp held m 2 cs = some y) : ∃ x, cs = [.int .i64 x] ∧ okI x := by
  obtain ⟨n, rfl, _, hw⟩ := DataW.trod_int Try.underlying2 h
  exact ⟨n, rfl, bounds_i64 hw⟩
theorem open_longs_sl {b0 : Nat} {v : Value} {d : DataW H} {ps : List MemPlace} (hv : Okay b0 Try.prog W 22 v) (h : DataW.Trod enc Try.prog W 0 sp held 22 v d ps) : ∃ A n c xs, v = .slice A n c ∧ Sl 1 encI W W.heap.size A n c xs ∧ ∀ x ∈ xs, okI x := by
  obtain ⟨a, n, c, rfl⟩ := okWide_slice Try.underlying22 hv
  obtain ⟨fuel, hf⟩ := h
  obtain ⟨A, n', c', xs, h1, h2, h3⟩ := open_sl (k := 1) (f := encI) Try.underlying22 co_long (by omega) (fun _ => rfl) (fun m cs y h => dec_long h) hf
  simp [Value.cells] at h1
  obtain ⟨rfl, rfl, rfl⟩ := h1
  exact ⟨_, _, _, xs, rfl, h2, h3⟩
theorem dec_int {m : Nat} {cs : List Value} {y : DataW H × List MemPlace} (h : DataW.trod enc Try.prog W 0 sp held m 3 cs = some y) : ∃ x, cs = [.int .i64 x] ∧ okI x := by
  obtain ⟨n, rfl, _, hw⟩ := DataW.trod_int Try.underlying3 h
  exact ⟨n, rfl, bounds_i64 hw⟩
theorem dec_row {m : Nat} {cs : List Value} {y : DataW H × List MemPlace} (h : DataW.trod enc Try.prog W 0 sp held m 22 cs = some y) : ∃ r : Rw, cs = encW r ∧ Sl 1 encI W W.heap.size r.A r.n r.c r.xs := by
  obtain ⟨A, n, c, xs, h1, h2, _⟩ := open_sl (k := 1) (f := encI) Try.underlying22 co_long (by omega) (fun _ => rfl) (fun m cs y h => dec_long h) h
  exact ⟨⟨A, n, c, xs⟩, h1, h2⟩
theorem open_rows {b0 : Nat} {v : Value} {d : DataW H} {ps : List MemPlace} (hv : Okay b0 Try.prog W 26 v) (h : DataW.Trod enc Try.prog W 0 sp held 26 v d ps) : ∃ A n c xs, v = .slice A n c ∧ Sl 1 encW W W.heap.size A n c xs ∧ ∀ r ∈ xs, Sl 1 encI W W.heap.size r.A r.n r.c r.xs := by
  obtain ⟨a, n, c, rfl⟩ := okWide_slice Try.underlying26 hv
  obtain ⟨fuel, hf⟩ := h
  obtain ⟨A, n', c', xs, h1, h2, h3⟩ := open_sl (k := 1) (f := encW) Try.underlying26 co_longs (by omega) (fun _ => rfl) (fun m cs y h => dec_row h) hf
  simp [Value.cells] at h1
  obtain ⟨rfl, rfl, rfl⟩ := h1
  exact ⟨_, _, _, xs, rfl, h2, h3⟩
theorem dec_ord {m : Nat} {cs : List Value} {y : DataW H × List MemPlace} (h : DataW.trod enc Try.prog W 0 sp held m 66 cs = some y) : ∃ x : Od, cs = encO x ∧ (okI x.g ∧ okI x.m) := by
  obtain ⟨xs, n, _, _, hl, hxl, hfs⟩ := DataW.trod_struct Try.underlying66 h
  rw [co_ord] at hl
  match cs, hl with
  | [a, b], _ =>
    have g0 := field_at hfs 0 rfl (t := 3) rfl rfl co_int (by rw [hxl]; simp)
    have g1 := field_at hfs 1 rfl (t := 2) rfl rfl co_long (by rw [hxl]; simp)
    obtain ⟨x0, e0, h0⟩ := dec_int g0
    obtain ⟨x1, e1, h1⟩ := dec_long g1
    simp at e0 e1
    subst e0 e1
    exact ⟨⟨x0, x1⟩, rfl, h0, h1⟩
theorem open_shop {b0 : Nat} {v : Value} {d : DataW H} {ps : List MemPlace} (hv : Okay b0 Try.prog W 25 v) (h : DataW.Trod enc Try.prog W 0 sp held 25 v d ps) : ∃ SA sn sc PA pn pc OA on oc S P O, v = .agg #[.slice SA sn sc, .slice PA pn pc, .slice OA on oc] ∧ ShopIn W W.heap.size SA sn sc PA pn pc OA on oc S P O := by
  obtain ⟨cs, rfl, hsz⟩ := okWide_struct Try.underlying25 hv
  obtain ⟨fuel, hf⟩ := h
  obtain ⟨xs, n, _, _, hl, hxl, hfs⟩ := DataW.trod_struct Try.underlying25 hf
  rw [co_shop] at hsz
  obtain ⟨cl⟩ := cs
  match cl, hsz with
  | [a, b, c], _ =>
    have g0 := field_at hfs 0 rfl (t := 22) rfl rfl co_longs (by rw [hxl]; simp)
    have g1 := field_at hfs 1 rfl (t := 22) rfl rfl co_longs (by rw [hxl]; simp)
    have g2 := field_at hfs 2 rfl (t := 23) rfl rfl co_ords (by rw [hxl]; simp)
    simp only [Value.cells] at g0 g1 g2
    obtain ⟨A, n0, c0, S, h1, h2, _⟩ := open_sl (k := 1) (f := encI) Try.underlying22 co_long (by omega) (fun _ => rfl) (fun m cs y h => dec_long h) g0
    obtain ⟨B, n1, c1, P, h3, h4, _⟩ := open_sl (k := 1) (f := encI) Try.underlying22 co_long (by omega) (fun _ => rfl) (fun m cs y h => dec_long h) g1
    obtain ⟨C, n2, c2, O, h5, h6, _⟩ := open_sl (k := 2) (f := encO) Try.underlying23 co_ord (by omega) (fun _ => rfl) (fun m cs y h => dec_ord h) g2
    simp at h1 h3 h5
    subst h1 h3 h5
    exact ⟨A, n0, c0, B, n1, c1, C, n2, c2, S, P, O, rfl, h2, h4, h6⟩
end
section
variable {H : Type} {enc : TypeId × Value → H} {W : World} {sp : Nat → Bool} {held : Bool}
set_option maxRecDepth 100000
theorem co_byte : Try.prog.cellsOf 5 = 1 := by kernel_rfl
theorem dec_byte {m : Nat} {cs : List Value} {y : DataW H × List MemPlace} (h : DataW.trod enc Try.prog W 0 sp held m 5 cs = some y) : ∃ x : Nat, cs = encB x ∧ x < 256 := by
  obtain ⟨n, rfl, _, hw⟩ := DataW.trod_int Try.underlying5 h
  have hb := bounds_u8 hw
  exact ⟨n.toNat, by unfold encB; rw [Int.toNat_of_nonneg hb.1], by omega⟩
theorem open_bytes_sl {b0 : Nat} {v : Value} {d : DataW H} {ps : List MemPlace} (hv : Okay b0 Try.prog W 53 v) (h : DataW.Trod enc Try.prog W 0 sp held 53 v d ps) : ∃ A n c xs, v = .slice A n c ∧ Sl 1 encB W W.heap.size A n c xs ∧ ∀ x ∈ xs, x < 256 := by
  obtain ⟨a, n, c, rfl⟩ := okWide_slice Try.underlying53 hv
  obtain ⟨fuel, hf⟩ := h
  obtain ⟨A, n', c', xs, h1, h2, h3⟩ := open_sl (k := 1) (f := encB) Try.underlying53 co_byte (by omega) (fun _ => rfl) (fun m cs y h => dec_byte h) hf
  simp [Value.cells] at h1
  obtain ⟨rfl, rfl, rfl⟩ := h1
  exact ⟨_, _, _, xs, rfl, h2, h3⟩
end
end Go.Proofs.Ytmfiggbobaihcaa
