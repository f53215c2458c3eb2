/- The reference's free names of a text with names beyond the letters; the fresh name of more names than letters. -/
import Derived.Test.YtfcadppidgkoaaaFreeAFnExactRenameFree
import Derived.Test.YtfcadppidgkoaaaFreshFnExactRenameFree
import Derived.Test.YtfcadppidgkoaaaRenP
namespace Go.Proofs.Ytfcadppidgkoaaa.PFnExactRenameFree
open Go.RowKit Go.Proofs.YtfcadppidgkoaaaW.PrintWords Go.Proofs.YtfcadppidgkoaaaW.PrintLast Go.Proofs.YtfcadppidgkoaaaW.PrintMore
set_option linter.unusedVariables false
set_option linter.unusedSimpArgs false

def nmL : List UInt8 := ((List.range 256).map UInt8.ofNat).filter nameB
theorem vl_ofNat {i : Nat} (h : i < 256) : vl (UInt8.ofNat i) = i := by
  unfold vl
  rw [UInt8.toNat_ofNat']
  omega
theorem nm_sorted : nmL.Pairwise (fun a b => vl a < vl b) := by
  unfold nmL
  refine List.Pairwise.filter _ ?_
  rw [List.pairwise_map]
  refine List.Pairwise.imp_of_mem (fun {a b} ha hb h => ?_) (List.pairwise_lt_range (n := 256))
  rw [vl_ofNat (by simpa using ha), vl_ofNat (by simpa using hb)]
  omega
theorem mem_nm {c : UInt8} : c ∈ nmL ↔ nameB c = true := by
  unfold nmL
  rw [List.mem_filter]
  constructor
  · exact fun h => h.2
  · exact fun h => ⟨List.mem_map.mpr ⟨c.toNat, by simpa using c.toNat_lt, by simp⟩, h⟩
theorem nm_len : nmL.length ≤ 256 := by
  unfold nmL
  refine Nat.le_trans (List.length_filter_le _ _) (by simp)
theorem ins_gen (p : UInt8 → Bool) {c : UInt8} : ∀ (L : List UInt8), L.Pairwise (fun a b => vl a < vl b) → c ∈ L → insL c (L.filter p) = L.filter (orS p (eqS c))
  | [], _, h => by simp at h
  | d :: L, hs, h => by
    obtain ⟨h1, h2⟩ := List.pairwise_cons.mp hs
    rw [List.filter_cons, List.filter_cons]
    by_cases hcd : c = d
    · subst hcd
      have hrest : L.filter (orS p (eqS c)) = L.filter p := by
        apply List.filter_congr
        intro e he
        have : e ≠ c := fun h => by have := h1 e he; rw [h] at this; omega
        simp [orS, eqS, this]
      rw [hrest, if_pos (show orS p (eqS c) c = true from by simp [orS, eqS])]
      by_cases hp : p c = true
      · rw [if_pos hp]
        unfold insL
        rw [if_neg (by omega), if_pos rfl]
      · rw [if_neg hp]
        exact insL_before fun e he => h1 e (List.mem_filter.mp he).1
    · have hcL : c ∈ L := by
        rcases List.mem_cons.mp h with h | h
        · exact absurd h hcd
        · exact h
      have ho : orS p (eqS c) d = p d := by simp [orS, eqS, Ne.symm hcd]
      rw [ho, ← ins_gen p L h2 hcL]
      by_cases hp : p d = true
      · rw [if_pos hp, if_pos hp]
        conv => lhs; unfold insL
        rw [if_pos (h1 c hcL)]
      · rw [if_neg hp, if_neg hp]
def sortM (p : UInt8 → Bool) : List UInt8 := nmL.filter p
theorem sortM_len (p : UInt8 → Bool) : (sortM p).length ≤ 256 := Nat.le_trans (List.length_filter_le _ _) nm_len
theorem sortM_no : sortM noS = [] := by simp [sortM, noS]
theorem ins_sortM (p : UInt8 → Bool) {c : UInt8} (hc : nameB c = true) : insL c (sortM p) = sortM (orS p (eqS c)) := ins_gen p nmL nm_sorted (mem_nm.mpr hc)
theorem both_sortM (t : List UInt8) : ∀ (p : UInt8 → Bool), (∀ c, c ∈ t → nameB c = true) → bothL (sortM p) t = sortM (orS p (inS t)) := by
  induction t with
  | nil => intro p _; show sortM p = _; congr 1; funext c; simp [orS, inS]
  | cons d t ih =>
    intro p h
    show bothL (insL d (sortM p)) t = _
    rw [ins_sortM p (h d (by simp)), ih _ fun c hc => h c (by simp [hc])]
    congr 1
    funext c
    simp only [orS, inS, eqS, List.contains_cons, Bool.or_assoc]
theorem sortM_congr {p q : UInt8 → Bool} (h : ∀ c, nameB c = true → p c = q c) : sortM p = sortM q :=
  List.filter_congr fun c hc => h c (mem_nm.mp hc)
theorem sortM_mem {p : UInt8 → Bool} {c : UInt8} : c ∈ sortM p ↔ nameB c = true ∧ p c = true := by
  unfold sortM; rw [List.mem_filter, mem_nm]
theorem sortM_in (q : UInt8 → Bool) {c : UInt8} (hc : nameB c = true) : inS (sortM q) c = q c := by
  unfold inS
  rw [Bool.eq_iff_iff, List.contains_iff_mem, sortM_mem]
  simp [hc]
theorem sortM_both (p q : UInt8 → Bool) : bothL (sortM p) (sortM q) = sortM (orS p q) := by
  rw [both_sortM _ _ fun c hc => (sortM_mem.mp hc).1]
  apply sortM_congr
  intro c hc
  simp [orS, sortM_in q hc]
theorem sortM_less (p : UInt8 → Bool) (c : UInt8) : (sortM p).filter (fun d => d != c) = sortM (minusS p (eqS c)) := by
  unfold sortM
  rw [List.filter_filter]
  apply List.filter_congr
  intro d _
  simp only [minusS, eqS, bne]
  exact Bool.and_comm _ _

theorem add_m (p : UInt8 → Bool) {c : UInt8} (hc : nameB c = true) {k : Nat} (hk : 300 ≤ k) : spec_tmAdd.f k (B (sortM p)) (vl c) = some (B (sortM (orS p (eqS c)))) := by
  have := sortM_len p
  rw [add_f _ (by omega) c k (by omega), ins_sortM p hc]
theorem less_m (p : UInt8 → Bool) (c : UInt8) {k : Nat} (hk : 300 ≤ k) : spec_tmLess.f k (B (sortM p)) (vl c) = some (B (sortM (minusS p (eqS c)))) := by
  have := sortM_len p
  rw [less_f _ (by omega) c k (by omega), sortM_less]
theorem both_m (p q : UInt8 → Bool) {k : Nat} (hk : 900 ≤ k) : spec_tmBoth.f k (B (sortM p)) (B (sortM q)) = some (B (sortM (orS p q))) := by
  have := sortM_len p
  have := sortM_len q
  rw [both_f _ _ (by omega) (by omega) k (by omega), sortM_both]

theorem fre_stepm (k : Nat) (t : Tm) (hw : Wf nameB t) (hl : t.text.length ≤ 1000000) (hk : t.size + 2 ≤ k) :
    spec_tmFree.f (k + 1) (B t.text) = spec_tmFree.l0 k (B t.text) (B (sortM noS)) (t.kids.map fun u => B u.text) (t.kids.length : Int) 0 := by
  rw [spec_tmFree.f, parts_text hw hl hk, Option.bind_some, List.length_map, sortM_no]; rfl
theorem fre_roundm {k : Nat} {s : ByteArray} {p q : UInt8 → Bool} (hk : 900 ≤ k)
    {xs : List ByteArray} {i : Nat} {n : Int} (hn : n = xs.length) (hi : i < xs.length) (hlen : xs.length ≤ 1000000) {u : ByteArray} (hx : xs.getD i ByteArray.empty = u) (h : spec_tmFree.f k u = some (B (sortM q))) :
    spec_tmFree.l0 (k + 1) s (B (sortM p)) xs n i = spec_tmFree.l0 k s (B (sortM (orS p q))) xs n ((i + 1 : Nat) : Int) := by
  subst hn
  rw [spec_tmFree.l0, if_pos (by omega), if_pos (by omega), if_pos (by omega), show rdOf ByteArray.empty xs (i : Int) = xs.getD i ByteArray.empty from rfl, hx, h, Option.bind_some, both_m p q hk, Option.bind_some, wrap_id (x := (i : Int) + 1) (by omega) (by omega)]
  rfl
theorem fre_endm {k : Nat} {t : Tm} (hw : Wf nameB t) (hl : t.text.length ≤ 1000000) (hk : t.size + 900 ≤ k) {xs : List ByteArray} {i : Nat} {n : Int} (hn : n = i) :
    spec_tmFree.l0 (k + 2) (B t.text) (B (sortM (frs t.kids))) xs n i = some (B (sortM t.fr)) := by
  have hwn := hw
  have hbn := binds_text hwn hl (show t.size + 1 ≤ k + 1 by omega)
  have hj : ∀ s, spec_tmFree.j1 (k + 1) (B t.text) s = _ := fun s => by rw [spec_tmFree.j1, kind_text hwn hl (by omega), Option.bind_some]
  rw [spec_tmFree.l0, if_neg (by omega)]
  cases t with
  | leaf sk a b =>
    obtain rfl := kind_leaf hw
    have hb2 : spec_tmBinds.f (k + 1) (B (Tm.leaf 48 a b).text) = some (0, false) := hbn
    rw [hb2, Option.bind_some, if_neg (by decide), hj]
    rfl
  | un sk a b t =>
    have e : frs (Tm.un sk a b t).kids = t.fr := by simp [frs, Tm.kids, orS_no]
    rw [e]
    rcases hw.1 with ⟨hkk, ha, hb⟩ | ⟨rfl, _, hb⟩ | ⟨hkk, _, _⟩
    · rcases hkk with rfl | rfl | rfl
      · have hb2 : spec_tmBinds.f (k + 1) (B (Tm.un 33 a b t).text) = some (0, false) := hbn
        rw [hb2, Option.bind_some, if_neg (by decide), hj, if_pos (by rfl), text_33, bt0, bt2, if_pos (by rw [B_size]; simp; omega), at_cons_zero, add_m _ ha (by omega), Option.bind_some, if_pos (by rw [B_size]; simp; omega), at_cons_succ, at_cons_succ, at_cons_zero, add_m _ hb (by omega), Option.bind_some, orS_assoc]
        rfl
      · have hb2 : spec_tmBinds.f (k + 1) (B (Tm.un 63 a b t).text) = some (vl b, true) := hbn
        rw [hb2, Option.bind_some, if_pos rfl, less_m _ _ (by omega), Option.bind_some, hj, if_neg (by simp only [Tm.kind]; decide), if_pos (by rfl), text_63, bt0, if_pos (by rw [B_size]; simp; omega), at_cons_zero, add_m _ ha (by omega), Option.bind_some]
        rfl
      · have hb2 : spec_tmBinds.f (k + 1) (B (Tm.un 61 a b t).text) = some (0, false) := hbn
        rw [hb2, Option.bind_some, if_neg (by decide), hj, if_neg (by simp only [Tm.kind]; decide), if_neg (by simp only [Tm.kind]; decide), if_pos (by rfl), text_61, bt1, bt3, if_pos (by rw [B_size]; simp; omega), at_cons_succ, at_cons_zero, add_m _ ha (by omega), Option.bind_some, if_pos (by rw [B_size]; simp; omega), at_cons_succ, at_cons_succ, at_cons_succ, at_cons_zero, add_m _ hb (by omega), Option.bind_some, orS_assoc]
        rfl
    · have hb2 : spec_tmBinds.f (k + 1) (B (Tm.un 35 a b t).text) = some (vl b, true) := hbn
      rw [hb2, Option.bind_some, if_pos rfl, less_m _ _ (by omega), Option.bind_some, hj, if_neg (by simp only [Tm.kind]; decide), if_neg (by simp only [Tm.kind]; decide), if_neg (by simp only [Tm.kind]; decide)]
      rfl
    · rcases hkk with rfl | rfl
      · have hb2 : spec_tmBinds.f (k + 1) (B (Tm.un 42 a b t).text) = some (0, false) := hbn
        rw [hb2, Option.bind_some, if_neg (by decide), hj, if_neg (by simp only [Tm.kind]; decide), if_neg (by simp only [Tm.kind]; decide), if_neg (by simp only [Tm.kind]; decide)]
        rfl
      · have hb2 : spec_tmBinds.f (k + 1) (B (Tm.un 126 a b t).text) = some (0, false) := hbn
        rw [hb2, Option.bind_some, if_neg (by decide), hj, if_neg (by simp only [Tm.kind]; decide), if_neg (by simp only [Tm.kind]; decide), if_neg (by simp only [Tm.kind]; decide)]
        rfl
  | bin sk a b t u =>
    have e : frs (Tm.bin sk a b t u).kids = orS t.fr u.fr := by simp [frs, Tm.kids, orS_no]
    rw [e]
    rcases kind_bin hw with rfl | rfl
    · have hb2 : spec_tmBinds.f (k + 1) (B (Tm.bin 43 a b t u).text) = some (0, false) := hbn
      rw [hb2, Option.bind_some, if_neg (by decide), hj, if_neg (by simp only [Tm.kind]; decide), if_neg (by simp only [Tm.kind]; decide), if_neg (by simp only [Tm.kind]; decide)]
      rfl
    · have hb2 : spec_tmBinds.f (k + 1) (B (Tm.bin 38 a b t u).text) = some (0, false) := hbn
      rw [hb2, Option.bind_some, if_neg (by decide), hj, if_neg (by simp only [Tm.kind]; decide), if_neg (by simp only [Tm.kind]; decide), if_neg (by simp only [Tm.kind]; decide)]
      rfl

theorem frees_name (t : Tm) : ∀ k, Wf nameB t → t.text.length ≤ 1000000 → 6 * t.size + 920 ≤ k → spec_tmFree.f k (B t.text) = some (B (sortM t.fr)) := by
  induction t with
  | leaf sk a b =>
    intro k hw hl hk
    simp only [Tm.size] at hk
    obtain ⟨k, rfl⟩ : ∃ m, k = m + 3 := ⟨k - 3, by omega⟩
    rw [fre_stepm (k + 2) _ hw hl (by simp only [Tm.size]; omega)]
    exact fre_endm (t := .leaf sk a b) (i := 0) hw hl (by simp only [Tm.size]; omega) rfl
  | un sk a b t ih =>
    intro k hw hl hk
    simp only [Tm.size] at hk
    have hl2 : t.text.length ≤ 1000000 := by simp only [Tm.text, List.length_append] at hl; omega
    obtain ⟨k, rfl⟩ : ∃ m, k = m + 4 := ⟨k - 4, by omega⟩
    rw [fre_stepm (k + 3) _ hw hl (by simp only [Tm.size]; omega)]
    refine (fre_roundm (k := k + 2) (xs := [B t.text]) (i := 0) (by omega) rfl (by simp) (by simp) rfl (ih (k + 2) hw.2 hl2 (by omega))).trans ?_
    exact fre_endm (t := .un sk a b t) (i := 1) hw hl (by simp only [Tm.size]; omega) rfl
  | bin sk a b t u ih1 ih2 =>
    intro k hw hl hk
    simp only [Tm.size] at hk
    have hl' := hl
    simp only [Tm.text, List.length_cons, List.length_append] at hl'
    obtain ⟨k, rfl⟩ : ∃ m, k = m + 5 := ⟨k - 5, by omega⟩
    rw [fre_stepm (k + 4) _ hw hl (by simp only [Tm.size]; omega)]
    refine (fre_roundm (k := k + 3) (xs := [B t.text, B u.text]) (i := 0) (by omega) rfl (by simp) (by simp) rfl (ih1 (k + 3) hw.2.2.2.1 (by omega) (by omega))).trans ?_
    refine (fre_roundm (k := k + 2) (xs := [B t.text, B u.text]) (i := 1) (by omega) rfl (by simp) (by simp) rfl (ih2 (k + 2) hw.2.2.2.2 (by omega) (by omega))).trans ?_
    exact fre_endm (t := .bin sk a b t u) (i := 2) hw hl (by simp only [Tm.size]; omega) rfl


theorem bey_name {i : Nat} {c : UInt8} (h : c ∈ beyFrom i) : nameB c = true ∧ ∃ j, j < 63 ∧ c = UInt8.ofNat (128 + j) := by
  unfold beyFrom at h
  obtain ⟨j, hj, rfl⟩ := List.mem_map.mp h
  simp only [List.mem_range] at hj
  refine ⟨?_, i + j, by omega, rfl⟩
  unfold nameB
  rw [bey_vl (by omega)]
  simp only [decide_eq_true_eq]
  omega
theorem freshB_congr {p q : UInt8 → Bool} (h : ∀ c, nameB c = true → p c = q c) : freshB p = freshB q := by
  unfold freshB
  rw [freshOf_congr fun c hc => h c (let_name hc), find_congr fun c hc => by rw [h c (bey_name hc).1]]
theorem freshB_name (p : UInt8 → Bool) : nameB (freshB p) = true := by
  unfold freshB
  cases hf : freshOf p with
  | some c => exact let_name (freshOf_let hf).1
  | none =>
    show nameB (((beyFrom 0).find? fun c => !p c).getD 191) = true
    cases hg : (beyFrom 0).find? fun c => !p c with
    | none => decide
    | some c => exact (bey_name (List.mem_of_find?_eq_some hg)).1
theorem fresh_name (t : Tm) {old name : UInt8} (ho : nameB old = true) (hn : nameB name = true) {k : Nat} (hk : 900 ≤ k) :
    ∃ s, spec_tmBoth.f k (B (sortM t.fr)) (B [old, name]) = some (B s) ∧ spec_tmFresh.f k (B s) = some (vl (freshB (tkS t old name))) := by
  have h1 := sortM_len t.fr
  have h2 := sortM_len (orS t.fr (inS [old, name]))
  have hm : ∀ c, c ∈ [old, name] → nameB c = true := by
    intro c hc
    rcases List.mem_cons.mp hc with rfl | hc
    · exact ho
    · rcases List.mem_cons.mp hc with rfl | hc
      · exact hn
      · cases hc
  refine ⟨sortM (orS t.fr (inS [old, name])), ?_, ?_⟩
  · rw [both_f _ _ (by omega) (by simp only [List.length_cons, List.length_nil]; omega) k (by simp only [List.length_cons, List.length_nil]; omega), both_sortM _ _ hm]
  · rw [tmFresh_f _ k (by omega) (by omega)]
    congr 2
    apply freshB_congr
    intro c hc
    rw [sortM_in _ hc]
    simp only [tkS, orS, inS, eqS, List.contains_cons, List.contains_nil, Bool.or_false]
theorem in_name (q : UInt8 → Bool) {c : UInt8} (hc : nameB c = true) {k : Nat} (hk : 300 ≤ k) : spec_tmIn.f k (B (sortM q)) (vl c) = some (q c) := by
  have h1 := sortM_len q
  rw [tmIn_f _ (by omega) c k (by omega)]
  have := sortM_in q hc
  unfold inS at this
  rw [this]

end Go.Proofs.Ytfcadppidgkoaaa.PFnExactRenameFree
