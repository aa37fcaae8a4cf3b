/- What the laws of valid shops share: worths are a proof, right fills cost no less; fine, and the law's least. -/
import Derived.Test.YtmfiggbobaihcaaGWorks
namespace Go.Proofs.Ytmfiggbobaihcaa
open Go.RowKit Go.Shelf

/-! ### The plain law, of lists -/
section
variable {S P : List Int} {O : List Od} {X : List (List Int)} {L : List Int}
theorem woV_eq (n : Nat) (P : List Int) (O : List Od) (M : Nat → Int) (g : Nat) : woV n P O M g = Gr9.worthT (prM P) M (aO O) n g := rfl
theorem woL_at {n : Nat} {M : Nat → Int} {g : Nat} (hg : g < n) : (woL n P O M).getD g 0 = woV n P O M g := by
  refine sl_getD ?_
  unfold woL
  rw [List.getElem?_map, List.getElem?_range hg]
  rfl
theorem lowQ_fall {q : Nat → Int} : ∀ g, (∀ a b, a ≤ b → b ≤ g → q b ≤ q a) → lowQ q g = q g
  | 0, _ => rfl
  | g + 1, h => by
    rw [lowQ, lowQ_fall g (fun a b h1 h2 => h a b h1 (by omega))]
    have := h g (g + 1) (by omega) (Nat.le_refl _)
    omega
theorem lowQ_le (q : Nat → Int) : ∀ g k, k ≤ g → lowQ q g ≤ q k
  | 0, k, h => by obtain rfl : k = 0 := by omega
                  exact Int.le_refl _
  | g + 1, k, h => by
    rw [lowQ]
    by_cases e : k = g + 1
    · subst e; omega
    · have := lowQ_le q g k (by omega)
      omega
theorem askF_aO {n : Nat} (h : OIn n O) : Gr9.askF (grO O) (mAt O) O.length = aO O := funext fun k => ask_eq h k
theorem wo_bound {b : Int} {M : Nat → Int} {n : Nat} (h : ShOk n P O M b) {g : Nat} (hg : g < n) : 0 ≤ woV n P O M g ∧ woV n P O M g + prM P g ≤ prM P 0 := Gr9.worth_bound (aO_nonneg h.oin) h.pr0 h.prf hg
theorem wo_mono {b : Int} {M : Nat → Int} {n : Nat} (h : ShOk n P O M b) {g k : Nat} (hgk : g ≤ k) (hk : k < n) : prM P k + woV n P O M k ≤ prM P g + woV n P O M g := Gr9.worth_mono (aO_nonneg h.oin) h.pr0 h.prf hgk hk
/-- **The worths of all grades prove the least cost.** -/
theorem wo_proof (hF : Fine S P O) : proofV S P O (woL S.length P O (stockM S)) = leV S.length P O (stockM S) := by
  have hk := hF.ok
  have hs := Gr9.strong (P := prM P) (S := stockM S) (m := O.length) (n := S.length) (gr := grO O) (many := mAt O) (fun i hi => (hk.oin.at_ hi).2.1) (fun i hi => by have := hk.oin.at_ hi; unfold grO; omega)
  rw [askF_aO hk.oin] at hs
  have hl : (woL S.length P O (stockM S)).length = S.length := by simp [woL]
  have h1 : prT O (quM P (woL S.length P O (stockM S))) O.length = Gr9.pre (fun i => mAt O i * (prM P (grO O i) + Gr9.worthT (prM P) (stockM S) (aO O) S.length (grO O i))) O.length := by
    unfold prT
    rw [sumF_pre]
    refine Gr9.pre_congr O.length fun i hi => ?_
    have hg : grO O i < S.length := by have := hk.oin.at_ hi; unfold grO; omega
    have hq : ∀ k, k < S.length → quM P (woL S.length P O (stockM S)) k = prM P k + woV S.length P O (stockM S) k := fun k hk' => by
      unfold quM
      rw [woL_at hk']
      rfl
    rw [lowQ_fall _ (fun a b h1 h2 => by
      rw [hq a (by omega), hq b (by omega)]
      exact wo_mono hk h1 (by omega)), hq _ hg]
    rfl
  have h2 : stT S (woL S.length P O (stockM S)) S.length = Gr9.pre (fun g => Gr9.worthT (prM P) (stockM S) (aO O) S.length g * stockM S g) S.length := by
    unfold stT
    rw [sumF_pre]
    refine Gr9.pre_congr S.length fun g hg => ?_
    rw [woL_at hg]
    rfl
  unfold proofV
  rw [hl, h1, h2]
  exact hs
theorem wo_in (hF : Fine S P O) : ∀ x ∈ woL S.length P O (stockM S), 0 ≤ x ∧ x ≤ 100 := fun x hx => by
  unfold woL at hx
  simp only [List.mem_map, List.mem_range] at hx
  obtain ⟨g, hg, rfl⟩ := hx
  have h1 := wo_bound hF.ok hg
  have h2 := hF.ok.pr0 g hg
  have h3 : 0 ≤ prM P 0 ∧ prM P 0 ≤ 100 := getD_in hF.prc (by omega) 0
  omega
theorem in_no {L : List Int} {lo hi : Int} (h : ∀ x ∈ L, lo ≤ x ∧ x ≤ hi) : L.any (outR lo hi) = false := List.any_eq_false.2 fun x hx => by
  have := h x hx
  rw [outR_eq, outB, Bool.or_eq_true, decide_eq_true_eq, decide_eq_true_eq]
  omega
theorem proofR_ok (he : shopE S P O = 0) (hl : L.length = S.length) (h : ∀ x ∈ L, 0 ≤ x ∧ x ≤ 100) : proofR S P O L = (proofV S P O L, 0) := by
  unfold proofR
  rw [if_neg (fun h => h he), if_neg (fun h => h hl), in_no h]
  rfl
theorem wo_R (he : shopE S P O = 0) : proofR S P O (woL S.length P O (stockM S)) = (leV S.length P O (stockM S), 0) := by
  have hF := fine_of he
  rw [proofR_ok he (by simp [woL]) (wo_in hF), wo_proof hF]
/-- A right fill. -/
abbrev RightX (S : List Int) (O : List Od) (X : List (List Int)) : Prop := Gr9.RightF (grO O) (mAt O) (stockM S) O.length S.length (fX X)
theorem gotX_pre (hs : X.length = O.length) (g : Nat) : gotX X g = Gr9.pre (fun i => fX X i g) O.length := by
  unfold gotX gotP
  rw [sumN_pre, hs]
theorem cost_pre (hs : X.length = O.length) (n : Nat) : costL P (gotX X) n = Gr9.costF (prM P) (fun g => Gr9.pre (fun i => fX X i g) O.length) n := by
  rw [costL_F]
  exact Gr9.pre_congr n fun g _ => by rw [gotX_pre hs]
/-- **No right fill costs less than a proof says.** -/
theorem weak_proof (hl : X.length = O.length) (hr : RightX S O X) (hn : L.length = S.length) (hL : ∀ x ∈ L, 0 ≤ x ∧ x ≤ 100) : proofV S P O L ≤ costL P (gotX X) S.length := by
  rw [cost_pre hl]
  have h := hr.weak (prM P) (fun g => L.getD g 0) (fun i => lowQ (quM P L) (grO O i)) (fun g _ => (getD_in hL (by omega) g).1) (fun i hi g hg hgi => lowQ_le (quM P L) (grO O i) g hgi)
  unfold proofV prT stT
  rw [sumF_pre, sumF_pre, hn]
  exact h
/-- **No right fill costs less than the least cost.** -/
theorem least_right (hF : Fine S P O) (hl : X.length = O.length) (hr : RightX S O X) : leV S.length P O (stockM S) ≤ costL P (gotX X) S.length := by
  rw [cost_pre hl]
  have h := hr.cost (P := prM P) hF.ok.pr0 hF.ok.prf
  rw [askF_aO hF.ok.oin] at h
  exact h
/-- Right fills spend no less, up to each grade. -/
theorem spends_right (hF : Fine S P O) (hl : X.length = O.length) (hr : RightX S O X) {g : Nat} (hg : g < S.length) : Gr9.pre (spV S.length O (stockM S)) (g + 1) ≤ Gr9.pre (gotX X) (g + 1) := by
  have h1 : Gr9.pre (spV S.length O (stockM S)) (g + 1) = Gr9.mostG (stockM S) (aO O) S.length g := Gr9.spentT_pre _ _ _ _
  have h2 := hr.spends hg (t := Gr9.mostG (stockM S) (aO O) S.length g) (by rw [askF_aO hF.ok.oin]; exact Gr9.mostG_is _ _ (by omega))
  rw [h1, Gr9.pre_congr (g := fun g => Gr9.pre (fun i => fX X i g) O.length) (g + 1) fun k _ => gotX_pre hl k]
  exact h2
theorem can_right (hF : Fine S P O) (hr : RightX S O X) : canB S.length O (stockM S) = true := by
  rw [canB_iff]
  intro g hg
  have h1 := hr.can hg
  rw [askF_aO hF.ok.oin] at h1
  unfold shortI
  rw [sumN_pre]
  have h2 : aO O g = askI O g := rfl
  omega
end
/-- The fill that is returned is right, and costs the least. -/
theorem fillIs_R {S P : List Int} {O : List Od} {X : List (List Int)} (he : shopE S P O = 0) (hi : FillIs S.length O (stockM S) X) : fillR S P O X = (leV S.length P O (stockM S), 0) := by
  have hz : Sized S.length O X := ⟨hi.len, hi.row, hi.small⟩
  have hfe : fillE S P O X = 0 := right_fillE he hz hi.right
  unfold fillR
  rw [hfe, if_neg (by decide), costL_leV (O := O) (M := stockM S) fun g hg => by
    have h1 := hi.got g hg
    unfold gotX gotP
    rw [sumN_pre, hi.len]
    exact h1]
theorem fillIs_wid {W : World} {FA : Option Addr} {fn fc : Nat} {n : Nat} {O : List Od} {M : Nat → Int} {L : List Rw} (h : FillIn W FA fn fc L) (hi : FillIs n O M (rowsX L)) (h8 : O.length ≤ 8) (h5 : n ≤ 5) : widB L = false := by
  have hl := hi.len
  rw [rows_length] at hl
  refine wid_no (by omega) fun r hr => ?_
  have h1 := hi.row r.xs (List.mem_map.2 ⟨r, hr, rfl⟩)
  rw [rows_len h hr] at h1
  omega
section
variable (SA : Option Addr) (sn sc : Nat) (PA : Option Addr) (pn pc : Nat) (OA : Option Addr) (on oc : Nat) (S P : List Int) (O : List Od) (w : World) (hs : ShopIn w w.heap.size SA sn sc PA pn pc OA on oc S P O)
include hs
set_option maxHeartbeats 2000000 in
theorem fine_any : Calls Try.prog 43 #[.agg #[.slice SA sn sc, .slice PA pn pc, .slice OA on oc]] w fun e w' => e = .returned (.bool (decide (shopE S P O = 0))) ∧ Below w.heap.size w w' := by
  obtain rfl := hs.stk.len
  obtain rfl := hs.prc.len
  obtain rfl := hs.ord.len
  have HG0 := Lib.hid (GW.start hs)
  obtain ⟨g0, g1, g2, g3⟩ := HG0.out.cells
  have Hgr := Lib.hid (fun W => great_any SA S.length sc PA P.length pc OA O.length oc W)
  obtain ⟨qg, hqg⟩ : ∃ qg, grB S.length P.length O.length = qg := ⟨_, rfl⟩
  rw [hqg] at Hgr
  have Ho := Lib.hid (fun W (h : ShopIn W W.heap.size SA S.length sc PA P.length pc OA O.length oc S P O) => refShop_any SA S.length sc PA P.length pc OA O.length oc S P O W h)
  cases qg with
  | true =>
    have HE := Lib.hid (show decide (shopE S P O = 0) = false by
      rw [decide_eq_false_iff_not]
      intro he
      have hF := fine_of he
      have h1 := hF.n5
      have h2 := hF.len
      have h3 := hF.o8
      unfold grB at hqg
      rw [Bool.or_eq_true, Bool.or_eq_true, decide_eq_true_eq, decide_eq_true_eq, decide_eq_true_eq] at hqg
      omega)
    rw [HE.out]
    clear hs hqg Ho
    go_enter Try.func43, Try.ntmps43
    go_wp2_with fail
    refine (Hgr.out _).mono ?_
    rintro e w1 ⟨rfl, hb⟩
    have HG1 := Lib.hid (HG0.out.later hb)
    clear hb HG0 g0 g1 g2 g3
    obtain ⟨g0, g1, g2, g3⟩ := HG1.out.cells
    go_wp2
    go_ret
    exact ⟨rfl, HG1.out.bel⟩
  | false =>
    obtain ⟨x, hx⟩ : ∃ x, shopE S P O = x := ⟨_, rfl⟩
    rw [hx] at Ho ⊢
    obtain ⟨q, hq⟩ : ∃ q, (x == 0) = q := ⟨_, rfl⟩
    have Hq := Lib.hid (show decide (x = 0) = q by rw [← hq, Bool.eq_iff_iff]; simp)
    rw [Hq.out]
    clear hs hqg hx
    go_enter Try.func43, Try.ntmps43
    go_wp2_with fail
    refine (Hgr.out _).mono ?_
    rintro e w2 ⟨rfl, hb⟩
    have HG1 := Lib.hid (HG0.out.later hb)
    clear hb HG0 g0 g1 g2 g3
    obtain ⟨g0, g1, g2, g3⟩ := HG1.out.cells
    go_wp2_with fail
    refine (Ho.out _ HG1.out.sh).mono ?_
    rintro e w3 ⟨rfl, hb⟩
    have HG2 := Lib.hid (HG1.out.later hb)
    clear hb HG1 g0 g1 g2 g3
    obtain ⟨g0, g1, g2, g3⟩ := HG2.out.cells
    go_wp2
    go_ret
    exact ⟨rfl, HG2.out.bel⟩
set_option maxRecDepth 100000 in
set_option maxHeartbeats 8000000 in
theorem least_no (he : shopE S P O = 0) (hc : canB S.length O (stockM S) = false) : Calls Try.prog 44 #[.agg #[.slice SA sn sc, .slice PA pn pc, .slice OA on oc]] w fun e w' => e = .returned (.tuple #[.int .i64 0, .bool false, .bool true]) ∧ Below w.heap.size w w' := by
  obtain rfl := hs.stk.len
  obtain rfl := hs.prc.len
  obtain rfl := hs.ord.len
  have HG0 := Lib.hid (GW.start hs)
  obtain ⟨g0, g1, g2, g3⟩ := HG0.out.cells
  have hf : filE S P O ≠ 0 := by rw [filE_no he hc]; decide
  have H1 := Lib.hid (fun W (h : ShopIn W W.heap.size SA S.length sc PA P.length pc OA O.length oc S P O) => spentA_bad SA S.length sc PA P.length pc OA O.length oc S P O W h hf)
  have H3 := Lib.hid (fun W (h : ShopIn W W.heap.size SA S.length sc PA P.length pc OA O.length oc S P O) => leastA_bad SA S.length sc PA P.length pc OA O.length oc S P O W h hf)
  have H4 := Lib.hid (fun W (h : ShopIn W W.heap.size SA S.length sc PA P.length pc OA O.length oc S P O) => proofA_bad SA S.length sc PA P.length pc OA O.length oc S P O W h hf)
  have H5 := Lib.hid (fun W (h : ShopIn W W.heap.size SA S.length sc PA P.length pc OA O.length oc S P O) => fillA_bad SA S.length sc PA P.length pc OA O.length oc S P O W h hf)
  rw [filE_no he hc] at H1 H3 H4 H5
  clear hs hf he hc
  go_enter Try.func44, Try.ntmps44
  go_wp2_with fail
  refine (H3.out _ HG0.out.sh).mono ?_
  rintro e w4 ⟨rfl, hb⟩
  have HG1 := Lib.hid (HG0.out.later hb)
  clear hb HG0 g0 g1 g2 g3
  obtain ⟨g0, g1, g2, g3⟩ := HG1.out.cells
  go_wp2_with fail
  refine (H5.out _ HG1.out.sh).mono ?_
  rintro e w5 ⟨rfl, hb⟩
  have HG2 := Lib.hid (HG1.out.later hb)
  clear hb HG1 g0 g1 g2 g3
  obtain ⟨g0, g1, g2, g3⟩ := HG2.out.cells
  go_wp2_with fail
  refine (H4.out _ HG2.out.sh).mono ?_
  rintro e w6 ⟨rfl, hb⟩
  have HG3 := Lib.hid (HG2.out.later hb)
  clear hb HG2 g0 g1 g2 g3
  obtain ⟨g0, g1, g2, g3⟩ := HG3.out.cells
  go_wp2_with fail
  refine (H1.out _ HG3.out.sh).mono ?_
  rintro e w7 ⟨rfl, hb⟩
  have HG4 := Lib.hid (HG3.out.later hb)
  clear hb HG3 g0 g1 g2 g3
  obtain ⟨g0, g1, g2, g3⟩ := HG4.out.cells
  go_wp2
  go_ret3
  exact ⟨rfl, HG4.out.bel⟩
set_option maxRecDepth 100000 in
set_option maxHeartbeats 8000000 in
theorem least_ok (he : shopE S P O = 0) (hc : canB S.length O (stockM S) = true) : Calls Try.prog 44 #[.agg #[.slice SA sn sc, .slice PA pn pc, .slice OA on oc]] w fun e w' => ∃ X, e = .returned (.tuple #[.int .i64 (leV S.length P O (stockM S)), .bool true, .bool true]) ∧ Below w.heap.size w w' ∧ FillIs S.length O (stockM S) X := by
  obtain rfl := hs.stk.len
  obtain rfl := hs.prc.len
  obtain rfl := hs.ord.len
  have HG0 := Lib.hid (GW.start hs)
  obtain ⟨g0, g1, g2, g3⟩ := HG0.out.cells
  have hf := filE_ok he hc
  have hF := fine_of he
  have n5 := hF.n5
  have o8 := hF.o8
  have He := Lib.hid he
  have H1 := Lib.hid (fun W (h : ShopIn W W.heap.size SA S.length sc PA P.length pc OA O.length oc S P O) => spentA_ok SA S.length sc PA P.length pc OA O.length oc S P O W h hf)
  have H3 := Lib.hid (fun W (h : ShopIn W W.heap.size SA S.length sc PA P.length pc OA O.length oc S P O) => leastA_ok SA S.length sc PA P.length pc OA O.length oc S P O W h hf)
  have H4 := Lib.hid (fun W (h : ShopIn W W.heap.size SA S.length sc PA P.length pc OA O.length oc S P O) => proofA_ok SA S.length sc PA P.length pc OA O.length oc S P O W h hf)
  have H5 := Lib.hid (fun W (h : ShopIn W W.heap.size SA S.length sc PA P.length pc OA O.length oc S P O) => fillA_ok SA S.length sc PA P.length pc OA O.length oc S P O W h hf)
  have H6 := Lib.hid (fun (A : Option Addr) (c : Nat) W (h : ShopIn W W.heap.size SA S.length sc PA P.length pc OA O.length oc S P O) (hl : Sl 1 encI W W.heap.size A S.length c (woL S.length P O (stockM S))) => checkProof_all SA S.length sc PA P.length pc OA O.length oc S P O A S.length c _ W h hl)
  have H7 := Lib.hid (fun (A : Option Addr) (c : Nat) W (h : ShopIn W W.heap.size SA S.length sc PA P.length pc OA O.length oc S P O) (hl : Sl 1 encI W W.heap.size A S.length c (woL S.length P O (stockM S))) => refProof_any SA S.length sc PA P.length pc OA O.length oc S P O A S.length c _ W h hl)
  have H8 := Lib.hid (fun (A : Option Addr) (c : Nat) W (h : ShopIn W W.heap.size SA S.length sc PA P.length pc OA O.length oc S P O) (hl : Sl 1 encI W W.heap.size A S.length c (spL S.length O (stockM S))) => refCost_any SA S.length sc PA P.length pc OA O.length oc S P O W h A S.length c _ hl (by have := hF.len; omega) (by have := hF.len; omega) hF.prc (spL_bound hF.ok))
  rw [wo_R he] at H6 H7
  rw [costX_sp] at H8
  obtain ⟨v, hv⟩ : ∃ v, leV S.length P O (stockM S) = v := ⟨_, rfl⟩
  rw [hv] at H3 H6 H7 H8 ⊢
  have Hv := Lib.hid hv
  clear hs hf he hc hF hv
  go_enter Try.func44, Try.ntmps44
  go_wp2_with fail
  refine (H3.out _ HG0.out.sh).mono ?_
  rintro e w8 ⟨rfl, hb⟩
  have HG1 := Lib.hid (HG0.out.later hb)
  clear hb HG0 g0 g1 g2 g3
  obtain ⟨g0, g1, g2, g3⟩ := HG1.out.cells
  go_wp2_with fail
  refine (H5.out _ HG1.out.sh).mono ?_
  rintro e w9 ⟨A3, c3, L, rfl, hb, hfl, hfi⟩
  have HG2 := Lib.hid (HG1.out.later hb)
  clear hb HG1 g0 g1 g2 g3
  obtain ⟨g0, g1, g2, g3⟩ := HG2.out.cells
  have HF2 := Lib.hid hfl
  have Hfi := Lib.hid hfi
  clear hfl hfi
  go_wp2_with fail
  refine (H4.out _ HG2.out.sh).mono ?_
  rintro e w10 ⟨A4, c4, rfl, hb, hsl⟩
  have HG3 := Lib.hid (HG2.out.later hb)
  have HF3 := Lib.hid (HF2.out.later hb)
  clear hb HG2 HF2 g0 g1 g2 g3
  obtain ⟨g0, g1, g2, g3⟩ := HG3.out.cells
  have HR3 := Lib.hid (ListIn.mk hsl)
  clear hsl
  go_wp2_with fail
  refine (H1.out _ HG3.out.sh).mono ?_
  rintro e w11 ⟨sb, rfl, hb, hsl⟩
  have HG4 := Lib.hid (HG3.out.later hb)
  have HF4 := Lib.hid (HF3.out.later hb)
  have HR4 := Lib.hid (HR3.out.later hb)
  clear hb HG3 HF3 HR3 g0 g1 g2 g3
  obtain ⟨g0, g1, g2, g3⟩ := HG4.out.cells
  have HQ4 := Lib.hid (ListIn.mk hsl)
  clear hsl
  have Hwid := Lib.hid (fillIs_wid HF4.out Hfi.out o8 n5)
  have Hcf := Lib.hid (fun W (h : ShopIn W W.heap.size SA S.length sc PA P.length pc OA O.length oc S P O) (hl : FillIn W A3 O.length c3 L) => checkFill_any SA S.length sc PA P.length pc OA O.length oc S P O A3 O.length c3 L W h hl (by omega))
  have Hrf := Lib.hid (fun W (h : ShopIn W W.heap.size SA S.length sc PA P.length pc OA O.length oc S P O) (hl : FillIn W A3 O.length c3 L) => refFill_any SA S.length sc PA P.length pc OA O.length oc S P O A3 O.length c3 L W h hl (by omega))
  rw [show fillR S P O (rowsX L) = (v, 0) by rw [← Hv.out]; exact fillIs_R He.out Hfi.out] at Hcf Hrf
  go_wp2_with fail
  refine (wide_any _ _ _ L _ HF4.out.sl).mono ?_
  rintro e w12 ⟨rfl, hb⟩
  have HG5 := Lib.hid (HG4.out.later hb)
  have HF5 := Lib.hid (HF4.out.later hb)
  have HR5 := Lib.hid (HR4.out.later hb)
  have HQ5 := Lib.hid (HQ4.out.later hb)
  clear hb HG4 HF4 HR4 HQ4 g0 g1 g2 g3
  obtain ⟨g0, g1, g2, g3⟩ := HG5.out.cells
  rw [Hwid.out]
  go_wp2_with fail
  refine (Hcf.out _ HG5.out.sh HF5.out).mono ?_
  rintro e w13 ⟨rfl, hb⟩
  have HG6 := Lib.hid (HG5.out.later hb)
  have HF6 := Lib.hid (HF5.out.later hb)
  have HR6 := Lib.hid (HR5.out.later hb)
  have HQ6 := Lib.hid (HQ5.out.later hb)
  clear hb HG5 HF5 HR5 HQ5 g0 g1 g2 g3
  obtain ⟨g0, g1, g2, g3⟩ := HG6.out.cells
  go_wp2_with fail
  refine (Hrf.out _ HG6.out.sh HF6.out).mono ?_
  rintro e w14 ⟨rfl, hb⟩
  have HG7 := Lib.hid (HG6.out.later hb)
  have HF7 := Lib.hid (HF6.out.later hb)
  have HR7 := Lib.hid (HR6.out.later hb)
  have HQ7 := Lib.hid (HQ6.out.later hb)
  clear hb HG6 HF6 HR6 HQ6 g0 g1 g2 g3
  obtain ⟨g0, g1, g2, g3⟩ := HG7.out.cells
  go_wp2_with fail
  refine (H6.out _ _ _ HG7.out.sh HR7.out.sl).mono ?_
  rintro e w15 ⟨rfl, hb⟩
  have HG8 := Lib.hid (HG7.out.later hb)
  have HF8 := Lib.hid (HF7.out.later hb)
  have HR8 := Lib.hid (HR7.out.later hb)
  have HQ8 := Lib.hid (HQ7.out.later hb)
  clear hb HG7 HF7 HR7 HQ7 g0 g1 g2 g3
  obtain ⟨g0, g1, g2, g3⟩ := HG8.out.cells
  go_wp2_with fail
  refine (H7.out _ _ _ HG8.out.sh HR8.out.sl).mono ?_
  rintro e w16 ⟨rfl, hb⟩
  have HG9 := Lib.hid (HG8.out.later hb)
  have HF9 := Lib.hid (HF8.out.later hb)
  have HR9 := Lib.hid (HR8.out.later hb)
  have HQ9 := Lib.hid (HQ8.out.later hb)
  clear hb HG8 HF8 HR8 HQ8 g0 g1 g2 g3
  obtain ⟨g0, g1, g2, g3⟩ := HG9.out.cells
  go_wp2_with fail
  refine (H8.out _ _ _ HG9.out.sh HQ9.out.sl).mono ?_
  rintro e w17 ⟨rfl, hb⟩
  have HG10 := Lib.hid (HG9.out.later hb)
  have HF10 := Lib.hid (HF9.out.later hb)
  have HR10 := Lib.hid (HR9.out.later hb)
  have HQ10 := Lib.hid (HQ9.out.later hb)
  clear hb HG9 HF9 HR9 HQ9 g0 g1 g2 g3
  obtain ⟨g0, g1, g2, g3⟩ := HG10.out.cells
  go_wp2
  go_ret3
  exact ⟨_, rfl, HG10.out.bel, Hfi.out⟩
end
end Go.Proofs.Ytmfiggbobaihcaa
