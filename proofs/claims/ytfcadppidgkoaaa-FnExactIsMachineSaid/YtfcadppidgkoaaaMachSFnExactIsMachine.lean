/- Several texts in one.
   The reference's offers, meetings and machines, at texts.
   The walk of the reference's maGood.
   What the laws do with a machine: its size, its copy, whether two are alike. -/
import Derived.Test.YtfcadppidgkoaaaGuardFnExactIsMachine
import Derived.Test.YtfcadppidgkoaaaInputFnExactIsMachine
import Derived.Test.YtfcadppidgkoaaaMachA
import Derived.Test.YtfcadppidgkoaaaMachW
namespace Go.Proofs.Ytfcadppidgkoaaa.PFnExactIsMachine
open Go.RowKit Go.Proofs.YtfcadppidgkoaaaW.PrintWords Go.Proofs.YtfcadppidgkoaaaW.PrintLast Go.Proofs.YtfcadppidgkoaaaW.PrintMore
set_option linter.unusedVariables false
set_option linter.unusedSimpArgs false

theorem num1 (x : Nat) (h : x ≤ 100000000) : wrap64 ((x : Int) + 1) = ((x + 1 : Nat) : Int) := by rw [wrap_id (by omega) (by omega)]; omega
theorem one1_f (c : UInt8) : spec_tmOne.f (B [c]) = some (isLet c) := by
  simp only [spec_tmOne.f, B_size, bt_B]
  rw [if_pos (by rfl), if_pos (by simp)]
  show (if vl c ≥ 97 then some (decide (vl c ≤ 122)) else some false) = some (isLet c)
  unfold isLet
  by_cases h : vl c ≥ 97 <;> simp [h]
theorem thread_f (l : List UInt8) (k : Nat) (hk : 3000 ≤ k) : spec_maThread.f k (B l) = some (simpleOk l) := by
  unfold spec_maThread.f
  rw [good_f l k hk, Option.bind_some]
  rcases hok : readOk l with _ | _
  · simp [simpleOk, hok]
  · obtain ⟨h1, h2, h3, h4⟩ := read_good hok
    have e := guarded_text (parsed l).1 k (Wf.names (fun c => let_name) h3) (by rw [← h2]; omega) (by omega)
    have e2 := inputs_text (parsed l).1 k (Wf.names (fun c => let_name) h3) (by rw [← h2]; omega) (by omega)
    rw [← h2] at e e2
    unfold spec_tmSimple.f
    rw [if_pos rfl, e, Option.bind_some, e2]
    cases hg : (pre (parsed l).1).all guaP <;> cases hs : (pre (parsed l).1).all simP <;> simp [simpleOk, hok, hg, hs]

abbrev Off := S138
def stay (o : Off) : Off := ⟨o.f0, o.f1, o.f2, o.f3, true⟩
def offs : Tm → List Off
  | .leaf _ _ _ => []
  | .un k a b t => if k = 33 ∨ k = 63 then [⟨vl k, vl a, vl b, B t.text, false⟩] else if k = 126 then [⟨126, 0, 0, B t.text, false⟩] else if k = 42 then (offs t).map stay else []
  | .bin k _ _ t u => if k = 43 then offs t ++ offs u else []
theorem offs_len (t : Tm) : (offs t).length ≤ t.size := by
  induction t with
  | leaf => simp [offs]
  | un k a b t ih =>
    simp only [offs, Tm.size]
    split
    · simp
    · split
      · simp
      · split
        · rw [List.length_map]; omega
        · simp
  | bin k a b t u ih1 ih2 =>
    simp only [offs, Tm.size]
    split
    · rw [List.length_append]; omega
    · simp
theorem stay_l (m : Nat) : ∀ (xs : List Off) (i k : Nat), i + m = xs.length → m < k → xs.length ≤ 1000000 → spec_rdOffers.l0 k xs (xs.length : Int) i = some (xs.take i ++ (xs.drop i).map stay) := by
  induction m with
  | zero =>
    intro xs i k h hk hl
    obtain ⟨k, rfl⟩ : ∃ m, k = m + 1 := ⟨k - 1, by omega⟩
    rw [spec_rdOffers.l0, if_neg (by omega), List.take_of_length_le (by omega), List.drop_eq_nil_of_le (by omega)]; simp
  | succ m ih =>
    intro xs i k h hk hl
    obtain ⟨k, rfl⟩ : ∃ m, k = m + 1 := ⟨k - 1, by omega⟩
    have hi : i < xs.length := by omega
    have er : rd_T138 xs (i : Int) = xs[i] := by unfold rd_T138; simp [List.getD, List.getElem?_eq_getElem hi]
    have e := ih (xs.set i (stay xs[i])) (i + 1) k (by simp; omega) (by omega) (by simpa using hl)
    rw [List.length_set] at e
    rw [spec_rdOffers.l0, if_pos (by omega), if_pos (by omega), if_pos (by omega), er, Int.toNat_natCast, num1 _ (by omega)]
    refine e.trans ?_
    congr 1
    rw [List.drop_eq_getElem_cons hi, List.take_succ_eq_append_getElem (by simpa using hi), List.take_set_of_le (Nat.le_refl _), List.drop_set_of_lt (by omega), List.map_cons, List.append_assoc]
    simp
theorem off_stay {t : Tm} {k : Nat} (h : t.size < k) (hs : t.size ≤ 1000000) : spec_rdOffers.l0 k (offs t) ((offs t).length : Int) 0 = some ((offs t).map stay) := by
  have := offs_len t
  have e := stay_l (offs t).length (offs t) 0 k (by omega) (by omega) (by omega)
  simpa using e
theorem offers_text (t : Tm) : ∀ k, Wf nameB t → t.text.length ≤ 1000000 → 6 * t.size + 20 ≤ k → spec_rdOffers.f k (B t.text) = some (offs t) := by
  induction t with
  | leaf sk a b =>
    intro k hw hl hk
    obtain ⟨k, rfl⟩ : ∃ m, k = m + 2 := ⟨k - 2, by omega⟩
    obtain ⟨rfl, _, _⟩ := hw
    rw [spec_rdOffers.f, kind_text (t := .leaf 48 a b) ⟨rfl, by assumption, by assumption⟩ hl (by omega), Option.bind_some]
    rfl
  | un sk a b t ih =>
    intro k hw hl hk
    have hw0 := hw
    simp only [Tm.size] at hk
    have hl2 : t.text.length ≤ 1000000 := by simp only [Tm.text, List.length_append] at hl; omega
    have hs := size_le_text t
    obtain ⟨k, rfl⟩ : ∃ m, k = m + 2 := ⟨k - 2, by omega⟩
    have hk1 := kind_text (k := k + 1) hw hl (by simp only [Tm.size]; omega)
    have hk2 := kind_text (k := k) hw hl (by simp only [Tm.size]; omega)
    obtain ⟨hkk, hw2⟩ := hw
    have io : ∀ c, sk = c → (Tm.un sk a b t).kind = c := fun c h => h
    have sz4 : sk = 33 ∨ sk = 63 → (B (Tm.un sk a b t).text).size = t.text.length + 4 ∧ bt (B (Tm.un sk a b t).text) 0 = vl a ∧ bt (B (Tm.un sk a b t).text) 2 = vl b ∧ (B (Tm.un sk a b t).text).extract 4 (B (Tm.un sk a b t).text).size = B t.text := by
      rintro (rfl | rfl) <;> refine ⟨by rw [B_size]; simp [Tm.text], by rw [bt_B]; rfl, by rw [bt_B]; rfl, by rw [B_extract, B_size]; simp [Tm.text]⟩
    rcases hkk with ⟨rfl | rfl | rfl, _, _⟩ | ⟨rfl, _, _⟩ | ⟨rfl | rfl, _, _⟩
    · obtain ⟨q1, q2, q3, q4⟩ := sz4 (.inl rfl)
      have k1 : spec_tmKind.f (k + 1) (B (Tm.un 33 a b t).text) = some 33 := hk1
      have k2 : spec_tmKind.f k (B (Tm.un 33 a b t).text) = some 33 := hk2
      rw [spec_rdOffers.f, k1, Option.bind_some, if_pos rfl, spec_rdOffers.j0, if_pos (by decide), k2, Option.bind_some, if_pos (by omega), if_pos (by omega), if_pos (by omega), q2, q3, q4]; rfl
    · obtain ⟨q1, q2, q3, q4⟩ := sz4 (.inr rfl)
      have k1 : spec_tmKind.f (k + 1) (B (Tm.un 63 a b t).text) = some 63 := hk1
      have k2 : spec_tmKind.f k (B (Tm.un 63 a b t).text) = some 63 := hk2
      rw [spec_rdOffers.f, k1, Option.bind_some, if_neg (by decide), spec_rdOffers.j0, if_pos (by decide), k2, Option.bind_some, if_pos (by omega), if_pos (by omega), if_pos (by omega), q2, q3, q4]; rfl
    · have k1 : spec_tmKind.f (k + 1) (B (Tm.un 61 a b t).text) = some 61 := hk1
      rw [spec_rdOffers.f, k1]; rfl
    · have k1 : spec_tmKind.f (k + 1) (B (Tm.un 35 a b t).text) = some 35 := hk1
      rw [spec_rdOffers.f, k1]; rfl
    · have hz : (B (Tm.un 42 a b t).text).size = t.text.length + 1 := by rw [B_size]; simp [Tm.text]
      have he : (B (Tm.un 42 a b t).text).extract 1 (B (Tm.un 42 a b t).text).size = B t.text := by rw [B_extract, B_size]; simp [Tm.text]
      have k1 : spec_tmKind.f (k + 1) (B (Tm.un 42 a b t).text) = some 42 := hk1
      rw [spec_rdOffers.f, k1, Option.bind_some, if_neg (by decide), spec_rdOffers.j0, if_neg (by decide), if_neg (by decide), if_neg (by decide), if_pos rfl, if_pos (by omega), he, ih k hw2 hl2 (by omega), Option.bind_some, off_stay (by omega) (by omega)]; rfl
    · have hz : (B (Tm.un 126 a b t).text).size = t.text.length + 2 := by rw [B_size]; simp [Tm.text]
      have he : (B (Tm.un 126 a b t).text).extract 2 (B (Tm.un 126 a b t).text).size = B t.text := by rw [B_extract, B_size]; simp [Tm.text]
      have k1 : spec_tmKind.f (k + 1) (B (Tm.un 126 a b t).text) = some 126 := hk1
      rw [spec_rdOffers.f, k1, Option.bind_some, if_neg (by decide), spec_rdOffers.j0, if_neg (by decide), if_pos rfl, if_pos (by omega), he]; rfl
  | bin sk a b t u ih1 ih2 =>
    intro k hw hl hk
    have hw0 := hw
    simp only [Tm.size] at hk
    have hl' := hl
    simp only [Tm.text, List.length_cons, List.length_append] at hl'
    have hs := size_le_text t
    have hs2 := size_le_text u
    obtain ⟨k, rfl⟩ : ∃ m, k = m + 2 := ⟨k - 2, by omega⟩
    have hk1 := kind_text (k := k + 1) hw hl (by simp only [Tm.size]; omega)
    have hp := parts_text (k := k) hw hl (by simp only [Tm.size]; omega)
    obtain ⟨hkk, _, _, hw2, hw3⟩ := hw
    rcases hkk with rfl | rfl
    · have r0 : rdOf ByteArray.empty ((Tm.bin 43 a b t u).kids.map fun u => B u.text) 0 = B t.text := rfl
      have r1 : rdOf ByteArray.empty ((Tm.bin 43 a b t u).kids.map fun u => B u.text) 1 = B u.text := rfl
      have hlen : (((Tm.bin 43 a b t u).kids.map fun u => B u.text).length : Int) = 2 := rfl
      have o1 := offs_len t
      have o2 := offs_len u
      have k1 : spec_tmKind.f (k + 1) (B (Tm.bin 43 a b t u).text) = some 43 := hk1
      rw [spec_rdOffers.f, k1, Option.bind_some, if_neg (by decide), spec_rdOffers.j0, if_neg (by decide), if_neg (by decide), if_pos rfl, hp, Option.bind_some, hlen, if_pos (by decide), r0, ih1 k hw2 (by omega) (by omega), Option.bind_some, if_pos (by decide), r1, ih2 k hw3 (by omega) (by omega), Option.bind_some, if_pos (by omega)]; rfl
    · have k1 : spec_tmKind.f (k + 1) (B (Tm.bin 38 a b t u).text) = some 38 := hk1
      rw [spec_rdOffers.f, k1]; rfl

def prO (o : Off) : Int × Int := (o.f0, o.f1)
def prW (x : UInt8 × UInt8 × UInt8) : Int × Int := (vl x.1, vl x.2.1)
theorem offs_ways (t : Tm) : Wf nameB t → (offs t).map prO = t.ways.map prW := by
  induction t with
  | leaf => intro _; rfl
  | un k a b t ih =>
    intro hw
    obtain ⟨hkk, hw2⟩ := hw
    rcases hkk with ⟨rfl | rfl | rfl, _, _⟩ | ⟨rfl, _, _⟩ | ⟨rfl | rfl, rfl, _⟩
    · rfl
    · rfl
    · rfl
    · rfl
    · have := ih hw2
      show ((offs t).map stay).map prO = t.ways.map prW
      rw [List.map_map, show prO ∘ stay = prO from rfl, this]
    · rfl
  | bin k a b t u ih1 ih2 =>
    intro hw
    obtain ⟨hkk, _, _, hw2, hw3⟩ := hw
    rcases hkk with rfl | rfl
    · show (offs t ++ offs u).map prO = (t.ways ++ u.ways).map prW
      rw [List.map_append, List.map_append, ih1 hw2, ih2 hw3]
    · rfl
def gB (x y : Int × Int) : Bool := (x.2 == y.2) && ((x.1 == 33 && y.1 == 63) || (x.1 == 63 && y.1 == 33))
theorem vl_beq (c d : UInt8) : (vl c == vl d) = (c == d) := by rw [Bool.eq_iff_iff]; simp [vl_inj]
theorem fit_g (x y : UInt8 × UInt8 × UInt8) : fitB x y = gB (prW x) (prW y) := by
  simp only [fitB, gB, prW, vl_beq]
  rw [show (33 : Int) = vl 33 from rfl, show (63 : Int) = vl 63 from rfl]
  simp only [vl_beq]
def mB (o r : Off) : Bool := gB (prO o) (prO r)
theorem any_pr {α β γ : Type} (xs : List α) (ys : List β) (f : α → γ) (g : β → γ) (p : γ → Bool) (h : xs.map f = ys.map g) : (xs.any fun x => p (f x)) = ys.any fun y => p (g y) := by
  have e1 : (xs.any fun x => p (f x)) = (xs.map f).any p := by rw [List.any_map]; rfl
  have e2 : (ys.any fun x => p (g x)) = (ys.map g).any p := by rw [List.any_map]; rfl
  rw [e1, e2, h]
theorem meet_offs {t u : Tm} (ht : Wf nameB t) (hu : Wf nameB u) : ((offs t).any fun o => (offs u).any (mB o)) = meetB t u := by
  unfold meetB
  have e : ∀ x, (u.ways.any (fitB x)) = u.ways.any fun y => gB (prW x) (prW y) := fun x => by congr 1; funext y; exact fit_g x y
  simp only [e]
  have e2 : ∀ z, (u.ways.any fun y => gB z (prW y)) = (offs u).any fun r => gB z (prO r) := fun z => (any_pr (offs u) u.ways prO prW (gB z) (offs_ways u hu)).symm
  simp only [e2]
  exact any_pr (offs t) t.ways prO prW (fun z => (offs u).any fun r => gB z (prO r)) (offs_ways t ht)
theorem match_f (o r : Off) : spec_maMatch.f o.f0 o.f1 o.f2 o.f3 o.f4 r.f0 r.f1 r.f2 r.f3 r.f4 = some (mB o r) := by
  unfold spec_maMatch.f mB gB prO
  by_cases h1 : o.f1 = r.f1
  · rw [if_pos h1]
    by_cases h2 : o.f0 = 33
    · rw [if_pos h2]
      by_cases h3 : r.f0 = 63
      · rw [if_pos h3]; simp [h1, h2, h3]
      · rw [if_neg h3, if_neg (by rw [h2]; decide)]; simp [h1, h2, h3]
    · rw [if_neg h2]
      by_cases h3 : o.f0 = 63
      · rw [if_pos h3]; simp [h1, h3]
      · rw [if_neg h3]; simp [h1, h2, h3]
  · rw [if_neg h1]; simp [h1]
theorem rd_at (xs : List Off) (i : Nat) (h : i < xs.length) : rd_T138 xs (i : Int) = xs[i] := by unfold rd_T138; simp [List.getD, List.getElem?_eq_getElem h]
theorem meet_l1 (s : ByteArray) (x10 : List Off) (x11 x12 : Int) (xs : List Off) (o : Off) (hl : xs.length ≤ 1000000) (m : Nat) : ∀ (j k c : Nat) (v : Bool), j + m = xs.length → (∀ k, c ≤ k → spec_maMeet.l0 k s x10 x11 (wrap64 (x12 + 1)) = some v) → c + m + 1 ≤ k →
    spec_maMeet.l1 k s x10 x11 x12 xs (xs.length : Int) j o.f0 o.f1 o.f2 o.f3 o.f4 = some ((xs.drop j).any (mB o) || v) := by
  induction m with
  | zero =>
    intro j k c v h hv hk
    obtain ⟨k, rfl⟩ : ∃ m, k = m + 1 := ⟨k - 1, by omega⟩
    rw [spec_maMeet.l1, if_neg (by omega), hv k (by omega), List.drop_eq_nil_of_le (by omega)]; rfl
  | succ m ih =>
    intro j k c v h hv hk
    obtain ⟨k, rfl⟩ : ∃ m, k = m + 1 := ⟨k - 1, by omega⟩
    have hj : j < xs.length := by omega
    rw [spec_maMeet.l1, if_pos (by omega), if_pos (by omega), if_pos (by omega), rd_at xs j hj, match_f, Option.bind_some, num1 _ (by omega), List.drop_eq_getElem_cons hj, List.any_cons]
    cases hm : mB o xs[j] with
    | true => rw [if_pos rfl]; rfl
    | false => rw [if_neg (by decide), ih (j + 1) k c v (by omega) hv (by omega)]; rfl
theorem meet_l0 (u : Tm) (hu : Wf nameB u) (hlu : u.text.length ≤ 1000000) (xs : List Off) (hl : xs.length ≤ 1000000) (m : Nat) : ∀ (i k : Nat), i + m = xs.length → m * (u.size + 3) + 6 * u.size + 30 ≤ k →
    spec_maMeet.l0 k (B u.text) xs (xs.length : Int) i = some ((xs.drop i).any fun o => (offs u).any (mB o)) := by
  induction m with
  | zero =>
    intro i k h hk
    obtain ⟨k, rfl⟩ : ∃ m, k = m + 1 := ⟨k - 1, by omega⟩
    rw [spec_maMeet.l0, if_neg (by omega), List.drop_eq_nil_of_le (by omega)]; rfl
  | succ m ih =>
    intro i k h hk
    obtain ⟨k, rfl⟩ : ∃ m, k = m + 1 := ⟨k - 1, by omega⟩
    have hi : i < xs.length := by omega
    have ho := offs_len u
    have hs := size_le_text u
    rw [Nat.succ_mul] at hk
    rw [spec_maMeet.l0, if_pos (by omega), if_pos (by omega), if_pos (by omega), rd_at xs i hi, offers_text u k hu hlu (by omega), Option.bind_some, List.drop_eq_getElem_cons hi, List.any_cons]
    have e := meet_l1 (B u.text) xs (xs.length : Int) (i : Int) (offs u) xs[i] (by omega) (offs u).length 0 k (m * (u.size + 3) + 6 * u.size + 30) _ (by omega) (fun k hk => by rw [num1 _ (by omega)]; exact ih (i + 1) k (by omega) hk) (by omega)
    rw [List.drop_zero] at e
    exact e
theorem meet_text {t u : Tm} {k : Nat} (ht : Wf nameB t) (hlt : t.text.length ≤ 1000) (hu : Wf nameB u) (hlu : u.text.length ≤ 1000) (hst : t.size ≤ 61) (hsu : u.size ≤ 61) (hk : 10000 ≤ k) : spec_maMeet.f k (B t.text) (B u.text) = some (meetB t u) := by
  unfold spec_maMeet.f
  have ho := offs_len t
  have h1 : (offs t).length * (u.size + 3) ≤ 61 * 64 := Nat.mul_le_mul (by omega) (by omega)
  rw [offers_text t k ht (by omega) (by omega), Option.bind_some, ← meet_offs ht hu]
  have e := meet_l0 u hu (by omega) (offs t) (by omega) (offs t).length 0 k (by omega) (by omega)
  rw [List.drop_zero] at e
  exact e
theorem wait_l (xs : List Off) (hl : xs.length ≤ 1000000) (m : Nat) : ∀ (i k : Nat), i + m = xs.length → m < k → spec_maWaits.l0 k xs (xs.length : Int) i = some (!((xs.drop i).any fun o => o.f0 == 126)) := by
  induction m with
  | zero =>
    intro i k h hk
    obtain ⟨k, rfl⟩ : ∃ m, k = m + 1 := ⟨k - 1, by omega⟩
    rw [spec_maWaits.l0, if_neg (by omega), List.drop_eq_nil_of_le (by omega)]; rfl
  | succ m ih =>
    intro i k h hk
    obtain ⟨k, rfl⟩ : ∃ m, k = m + 1 := ⟨k - 1, by omega⟩
    have hi : i < xs.length := by omega
    rw [spec_maWaits.l0, if_pos (by omega), if_pos (by omega), if_pos (by omega), rd_at xs i hi, num1 _ (by omega), List.drop_eq_getElem_cons hi, List.any_cons]
    by_cases h1 : xs[i].f0 = 126
    · rw [if_pos h1, show (xs[i].f0 == 126) = true from beq_iff_eq.mpr h1]; rfl
    · rw [if_neg h1, show (xs[i].f0 == 126) = false from beq_eq_false_iff_ne.mpr h1, ih (i + 1) k (by omega) (by omega)]; rfl
theorem tau_offs {t : Tm} (ht : Wf nameB t) : ((offs t).any fun o => o.f0 == 126) = tauB t := by
  unfold tauB
  have e : ∀ x : UInt8 × UInt8 × UInt8, (x.1 == 126) = ((prW x).1 == 126) := fun x => by rw [show (126 : Int) = vl 126 from rfl]; exact (vl_beq _ _).symm
  simp only [e]
  exact any_pr (offs t) t.ways prO prW (fun z => z.1 == 126) (offs_ways t ht)
theorem waits_text {t : Tm} {k : Nat} (ht : Wf nameB t) (hlt : t.text.length ≤ 1000) (hst : t.size ≤ 61) (hk : 1000 ≤ k) : spec_maWaits.f k (B t.text) = some (waitB t) := by
  obtain ⟨k, rfl⟩ : ∃ m, k = m + 1 := ⟨k - 1, by omega⟩
  have ho := offs_len t
  have e0 := kind_text (k := k + 1) ht (by omega) (by omega)
  have e1 := offers_text t k ht (by omega) (by omega)
  have e2 := wait_l (offs t) (by omega) (offs t).length 0 k (by omega) (by omega)
  rw [List.drop_zero, tau_offs ht] at e2
  unfold spec_maWaits.f
  cases t with
  | leaf sk a b =>
    obtain ⟨rfl, _, _⟩ := ht
    rw [show spec_tmKind.f (k + 1) _ = some 48 from e0]; rfl
  | un sk a b t =>
    obtain ⟨hkk, hw2⟩ := ht
    rcases hkk with ⟨rfl | rfl | rfl, _, _⟩ | ⟨rfl, _, _⟩ | ⟨rfl | rfl, _, _⟩
    · rw [show spec_tmKind.f (k + 1) _ = some 33 from e0]; rfl
    · rw [show spec_tmKind.f (k + 1) _ = some 63 from e0]; rfl
    · have hz : (B (Tm.un 61 a b t).text).size = t.text.length + 5 := by rw [B_size]; simp [Tm.text]
      have b1 : bt (B (Tm.un 61 a b t).text) 1 = vl a := by rw [bt_B]; rfl
      have b3 : bt (B (Tm.un 61 a b t).text) 3 = vl b := by rw [bt_B]; rfl
      rw [show spec_tmKind.f (k + 1) (B (Tm.un 61 a b t).text) = some 61 from e0, Option.bind_some, if_neg (by decide), if_neg (by decide), spec_maWaits.j0, if_neg (by decide), if_pos rfl, if_pos (by omega), if_pos (by omega), b1, b3, vl_bne]
      simp [waitB, Tm.kind, Tm.na, Tm.nb]
    · rw [show spec_tmKind.f (k + 1) _ = some 35 from e0]; rfl
    · rw [show spec_tmKind.f (k + 1) _ = some 42 from e0]; rfl
    · rw [show spec_tmKind.f (k + 1) _ = some 126 from e0]; rfl
  | bin sk a b t u =>
    obtain ⟨hkk, _, _, hw2, hw3⟩ := ht
    rcases hkk with rfl | rfl
    · rw [show spec_tmKind.f (k + 1) (B (Tm.bin 43 a b t u).text) = some 43 from e0, Option.bind_some, if_neg (by decide), if_neg (by decide), spec_maWaits.j0, if_neg (by decide), if_neg (by decide), if_pos rfl, e1, Option.bind_some]
      exact e2
    · rw [show spec_tmKind.f (k + 1) _ = some 38 from e0]; rfl

end Go.Proofs.Ytfcadppidgkoaaa.PFnExactIsMachine
namespace Go.Proofs.Ytfcadppidgkoaaa.PFnExactIsMachine
open Go.RowKit Go.Proofs.YtfcadppidgkoaaaW.PrintWords Go.Proofs.YtfcadppidgkoaaaW.PrintLast Go.Proofs.YtfcadppidgkoaaaW.PrintMore
set_option linter.unusedVariables false
set_option linter.unusedSimpArgs false

theorem simple_facts {l : List UInt8} (h : simpleOk l = true) : l = (parsed l).1.text ∧ Wf nameB (parsed l).1 ∧ l.length ≤ 1000 ∧ (parsed l).1.size ≤ 61 := by
  obtain ⟨h1, h2, h3, h4⟩ := read_good (simpleOk_read h)
  exact ⟨h2, Wf.names (fun c => let_name) h3, by omega, by omega⟩
theorem one_calls (c : UInt8) (w : World) : Calls Try.prog 62 #[.string (B [c])] w fun e w' => e = .returned (.bool (isLet c)) ∧ ∃ n, w' = w.drewN n :=
  (spec_tmOne.calls (B [c]) _ w (one1_f c)).mono fun e w' ⟨h, k⟩ => ⟨h, k.out⟩
theorem in_calls (l : List UInt8) (c : UInt8) (w : World) (hl : l.length ≤ 1100000) : Calls Try.prog 47 #[.string (B l), .int .u8 (vl c)] w fun e w' => e = .returned (.bool (l.contains c)) ∧ ∃ n, w' = w.drewN n :=
  (spec_tmIn.calls (l.length + 1) (B l) _ _ w (tmIn_f l (by omega) c _ (by omega))).mono fun e w' ⟨h, k⟩ => ⟨h, k.out⟩
theorem thread_calls (l : List UInt8) (w : World) : Calls Try.prog 54 #[.string (B l)] w fun e w' => e = .returned (.bool (simpleOk l)) ∧ Below w.heap.size w w' :=
  spec_maThread.calls 3000 (B l) _ w (thread_f l 3000 (Nat.le_refl _))
theorem waits_calls (l : List UInt8) (h : simpleOk l = true) (w : World) : Calls Try.prog 112 #[.string (B l)] w fun e w' => e = .returned (.bool (waitB (parsed l).1)) ∧ Below w.heap.size w w' := by
  obtain ⟨a1, a2, a3, a4⟩ := simple_facts h
  have hw := waits_text (k := 1000) a2 (by rw [← a1]; exact a3) a4 (Nat.le_refl _)
  rw [← a1] at hw
  exact spec_maWaits.calls 1000 (B l) _ w hw
theorem meet_calls (l u : List UInt8) (hl : simpleOk l = true) (hu : simpleOk u = true) (w : World) : Calls Try.prog 113 #[.string (B l), .string (B u)] w fun e w' => e = .returned (.bool (meetB (parsed l).1 (parsed u).1)) ∧ Below w.heap.size w w' := by
  obtain ⟨a1, a2, a3, a4⟩ := simple_facts hl
  obtain ⟨b1, b2, b3, b4⟩ := simple_facts hu
  have e := meet_text (k := 10000) a2 (by rw [← a1]; exact a3) b2 (by rw [← b1]; exact b3) a4 b4 (Nat.le_refl _)
  rw [← a1, ← b1] at e
  exact spec_maMeet.calls 10000 (B l) (B u) _ w e

set_option maxHeartbeats 4000000 in
set_option maxRecDepth 100000 in
theorem maGood_calls (own : List UInt8) (ready waiting : List (List UInt8)) (oR oW : Option Addr) (cR cW : Nat) (w : World) (hR : Strs w oR ready) (hW : Strs w oW waiting) (lo : own.length ≤ 1100000) (lr : ready.length ≤ 1100000) (lw : waiting.length ≤ 1100000) (hcw : waiting.length ≤ cW) :
    Calls Try.prog 76 #[.agg #[.string (B own), .slice oR ready.length cR, .slice oW waiting.length cW]] w fun e w' => e = .returned (.bool (machB own ready waiting)) ∧ Below w.heap.size w w' := by
  obtain ⟨wa, hwa⟩ : ∃ wa, wa = w.alloc (.cells #[.string (B own), .slice oR ready.length cR, .slice oW waiting.length cW] 27) := ⟨_, rfl⟩
  have hba : Below w.heap.size w wa := by rw [hwa]; exact below_alloc (Below.refl _ _) _
  have hm : MacAt w wa w.heap.size own ready waiting oR oW cR cW := ⟨by rw [hwa]; exact heap_alloc_new w _, hR, hW, hba, rfl⟩
  have HM := Lib.hid hm
  have hz : (B own).size = own.length := B_size own
  clear hR hW
  obtain ⟨c0, c1, c2⟩ := hm.cells
  clear hm
  by_cases hcnt : ¬ ready.length + waiting.length ≤ 40
  · have HF : Hid (machB own ready waiting = false) := by simp [Hid, machB, hcnt]
    have hg2 : (40 : Int) < (ready.length : Int) + (waiting.length : Int) := by omega
    go_enter Try.func76, Try.ntmps76
    go_wp2_with fail
    rw [← hwa]
    clear hwa hba
    go_wp2_with fail
    go_ret
    exact ⟨by rw [HF.out]; rfl, HM.out.hb⟩
  replace hcnt : ready.length + waiting.length ≤ 40 := by omega
  have hg2 : ¬ (40 : Int) < (ready.length : Int) + (waiting.length : Int) := by omega
  by_cases h26 : own.length > 26
  · have HF : Hid (machB own ready waiting = false) := by
      have : ownB [] own = false := by
        cases h : ownB [] own with
        | false => rfl
        | true => have := ownB_len h; omega
      simp [Hid, machB, this]
    have hg3 : 26 < own.length := h26
    have hg4 : (26 : Int) < (own.length : Int) := by omega
    go_enter Try.func76, Try.ntmps76
    go_wp2_with fail
    rw [← hwa]
    clear hwa hba
    go_wp2_with fail
    go_ret
    exact ⟨by rw [HF.out]; rfl, HM.out.hb⟩
  replace h26 : own.length ≤ 26 := by omega
  have hg4 : ¬ (26 : Int) < (own.length : Int) := by omega
  go_enter Try.func76, Try.ntmps76
  go_wp2_with fail
  rw [← hwa]
  clear hwa hba
  go_wp2_with fail
  clear hg2 hg4
  go_loopw [3] (fun i wr => ∃ k : Nat, k ≤ own.length ∧ i = .int .i64 k ∧ Hid (ownB (own.take k) (own.drop k) = ownB [] own) ∧ MacAt w wr w.heap.size own ready waiting oR oW cR cW) (fun i _ => own.length - (intOf i).toNat)
  case atStart => exact ⟨0, Nat.zero_le _, rfl, rfl, HM.out⟩
  case round =>
    obtain ⟨k, hk, rfl, hown, hm⟩ := hrel
    have HMR := Lib.hid hm
    obtain ⟨d0, d1, d2⟩ := hm.cells
    clear hm
    by_cases hlt : k < own.length
    · obtain ⟨c, hc, hst⟩ := ownB_step own k hlt
      have hlt2 : k < (B own).size := by omega
      have hlt3 : k + 1 ≤ (B own).size := by omega
      have hex : (B own).extract 0 k = B (own.take k) := by rw [B_extract]; rfl
      have hex2 : (B own).extract k (k + 1) = B [c] := by
        rw [B_extract]; congr 1
        rw [List.take_succ_eq_append_getElem hlt, List.drop_append_of_le_length (by simp; omega), hc]
        simp [List.drop_take]
      have hbk : (((B own)[k]'hlt2).toNat : Int) = vl c := by rw [← hc]; rfl
      obtain ⟨j, hj⟩ : ∃ j : Int, (k : Int) + 1 = j := ⟨_, rfl⟩
      have hj0 : (0 : Int) ≤ j := by omega
      have hj1 : (k : Int) ≤ j := by omega
      have hj2 : j ≤ (own.length : Int) := by omega
      have hj3 : j.toNat = k + 1 := by omega
      have HST := Lib.hid hst
      clear hst hc
      have hi0 := fun W => in_calls (own.take k) c W (by simp; omega)
      rcases h1 : isLet c with _ | _
      · have HF : Hid (machB own ready waiting = false) := by
          have : ownB [] own = false := by rw [← hown.out, HST.out, h1]; rfl
          simp [Hid, machB, this]
        have hl : ∀ W, Calls Try.prog 62 #[.string (B [c])] W fun e w' => e = .returned (.bool false) ∧ ∃ n, w' = W.drewN n := fun W => by rw [← h1]; exact one_calls c W
        clear hown h1 hi0
        go_wp2_with fail
        go_quiet (first | (go_at_call 62; exact Calls.quiet_of (hl _)))
        go_wp2_with fail
        go_ret
        exact ⟨by rw [HF.out]; rfl, pw_below_drewN HMR.out.hb _⟩
      have hl : ∀ W, Calls Try.prog 62 #[.string (B [c])] W fun e w' => e = .returned (.bool true) ∧ ∃ n, w' = W.drewN n := fun W => by rw [← h1]; exact one_calls c W
      rcases h2 : (own.take k).contains c with _ | _
      · have HO : Hid (ownB (own.take (k + 1)) (own.drop (k + 1)) = ownB [] own) := by rw [Hid, ← hown.out, HST.out, h1, h2]; simp
        have hi : ∀ W, Calls Try.prog 47 #[.string (B (own.take k)), .int .u8 (vl c)] W fun e w' => e = .returned (.bool false) ∧ ∃ n, w' = W.drewN n := fun W => by rw [← h2]; exact hi0 W
        clear hown h1 h2 hi0
        go_wp2_with fail
        go_quiet (first | (go_at_call 62; exact Calls.quiet_of (hl _)) | (go_at_call 47; exact Calls.quiet_of (hi _)))
        go_wp2_with fail
        go_roundw
        case rel => exact ⟨k + 1, by omega, by first | go_num | (congr 1; omega), HO.out, HMR.out.below (pw_below_drewN (Below.refl _ _) _)⟩
        case measure => first | exact meas4 _ _ hlt | (rw [← hj]; exact meas4 _ _ hlt)
      · have HF : Hid (machB own ready waiting = false) := by
          have : ownB [] own = false := by rw [← hown.out, HST.out, h1, h2]; rfl
          simp [Hid, machB, this]
        have hi : ∀ W, Calls Try.prog 47 #[.string (B (own.take k)), .int .u8 (vl c)] W fun e w' => e = .returned (.bool true) ∧ ∃ n, w' = W.drewN n := fun W => by rw [← h2]; exact hi0 W
        clear hown h1 h2 hi0
        go_wp2_with fail
        go_quiet (first | (go_at_call 62; exact Calls.quiet_of (hl _)) | (go_at_call 47; exact Calls.quiet_of (hi _)))
        go_wp2_with fail
        go_ret
        exact ⟨by rw [HF.out]; rfl, pw_below_drewN HMR.out.hb _⟩
    have HOW : Hid (ownB [] own = true) := by
      have hke : k = own.length := by omega
      rw [Hid, ← hown.out, hke, List.drop_length]; rfl
    clear hown
    have HMB : Hid (machB own ready waiting = (ready.all simpleOk && waitsB [] waiting)) := by rw [Hid, machB, HOW.out, decide_eq_true hcnt]; rfl
    go_wp2_with fail
    go_loopw [53] (fun i wr => ∃ k : Nat, k ≤ ready.length ∧ i = .int .i64 k ∧ Hid ((ready.drop k).all simpleOk = ready.all simpleOk) ∧ MacAt w wr w.heap.size own ready waiting oR oW cR cW) (fun i _ => ready.length - (intOf i).toNat)
    case atStart => exact ⟨0, Nat.zero_le _, rfl, rfl, HMR.out⟩
    case round =>
      obtain ⟨k2, hk2, rfl, hall, hm⟩ := hrel
      clear HMR d0 d1 d2
      have HMR := Lib.hid hm
      obtain ⟨d0, d1, d2⟩ := hm.cells
      have hrd := hm.rd
      clear hm
      by_cases hlt : k2 < ready.length
      · obtain ⟨g, rfl, e0⟩ := hrd k2 hlt
        obtain ⟨l, hl⟩ : ∃ l, ready[k2] = l := ⟨_, rfl⟩
        have HST : Hid ((ready.drop k2).all simpleOk = (simpleOk l && (ready.drop (k2 + 1)).all simpleOk)) := by rw [Hid, ← hl, List.drop_eq_getElem_cons hlt, List.all_cons]
        rw [hl] at e0
        clear hl hrd
        go_wp2_with fail
        refine (thread_calls l _).mono ?_
        rintro e w2 ⟨rfl, hb2⟩
        have HB2 := Lib.hid hb2
        clear hb2 e0
        rcases hok : simpleOk l with _ | _
        · have HF : Hid (machB own ready waiting = false) := by
            have : ready.all simpleOk = false := by rw [← hall.out, HST.out, hok]; rfl
            rw [Hid, HMB.out, this]; rfl
          clear hok
          go_wp2_with fail
          go_ret
          exact ⟨by rw [HF.out]; rfl, below_then HMR.out.hb HMR.out.hb.size HB2.out⟩
        · have HA : Hid ((ready.drop (k2 + 1)).all simpleOk = ready.all simpleOk) := by rw [Hid, ← hall.out, HST.out, hok]; rfl
          clear hok
          go_wp2_with fail
          go_roundw
          case rel => exact ⟨k2 + 1, by omega, by go_num, HA.out, HMR.out.below HB2.out⟩
          case measure => exact meas4 _ _ hlt
      have HRA : Hid (ready.all simpleOk = true) := by
        have hke : k2 = ready.length := by omega
        rw [Hid, ← hall.out, hke, List.drop_length]; rfl
      clear hall hrd
      have HME : Hid (machB own ready waiting = waitsB [] waiting) := by rw [Hid, HMB.out, HRA.out]; rfl
      clear HMB
      go_wp2_with fail
      go_loopw [64] (fun i wr => ∃ k : Nat, k ≤ waiting.length ∧ i = .int .i64 k ∧ Hid (waitsB ((waiting.take k).map fun l => (parsed l).1) (waiting.drop k) = waitsB [] waiting) ∧ Hid (∀ l, l ∈ waiting.take k → simpleOk l = true) ∧ MacAt w wr w.heap.size own ready waiting oR oW cR cW) (fun i _ => waiting.length - (intOf i).toNat)
      case atStart => exact ⟨0, Nat.zero_le _, rfl, rfl, fun l hl => by simp at hl, HMR.out⟩
      case round =>
        obtain ⟨k3, hk3, rfl, hall, hsim, hm⟩ := hrel
        clear HMR d0 d1 d2
        have HMR := Lib.hid hm
        obtain ⟨d0, d1, d2⟩ := hm.cells
        have hwt := hm.wt
        clear hm
        by_cases hlt : k3 < waiting.length
        · obtain ⟨g, rfl, e0⟩ := hwt k3 hlt
          obtain ⟨l, hl⟩ : ∃ l, waiting[k3] = l := ⟨_, rfl⟩
          have HTK : Hid (waiting.take (k3 + 1) = waiting.take k3 ++ [l]) := by rw [Hid, ← hl, List.take_succ_eq_append_getElem hlt]
          have HDR : Hid (waiting.drop k3 = l :: waiting.drop (k3 + 1)) := by rw [Hid, ← hl, List.drop_eq_getElem_cons hlt]
          rw [hl] at e0
          clear hl hwt
          go_wp2_with fail
          refine (thread_calls l _).mono ?_
          rintro e w2 ⟨rfl, hb2⟩
          have HM2 := Lib.hid (HMR.out.below hb2)
          clear hb2 e0 d0 d1 d2 HMR
          rcases hok : simpleOk l with _ | _
          · have HF : Hid (machB own ready waiting = false) := by rw [Hid, HME.out, ← hall.out, HDR.out, waitsB, hok]; rfl
            clear hok
            go_wp2_with fail
            go_ret
            exact ⟨by rw [HF.out]; rfl, HM2.out.hb⟩
          have HOK := Lib.hid hok
          have HSI : Hid (∀ u, u ∈ waiting.take (k3 + 1) → simpleOk u = true) := fun u hu => by
            rw [HTK.out] at hu
            rcases List.mem_append.mp hu with h | h
            · exact hsim.out u h
            · simp at h; rw [h]; exact hok
          have HWL : Hid (waitsB [] waiting = ((waitB (parsed l).1 && !(((waiting.take k3).map fun l => (parsed l).1).any (meetB (parsed l).1))) && waitsB ((waiting.take (k3 + 1)).map fun l => (parsed l).1) (waiting.drop (k3 + 1)))) := by rw [Hid, ← hall.out, HDR.out, waitsB, hok, HTK.out, List.map_append]; rfl
          clear hok hall
          go_wp2_with fail
          refine (waits_calls l HOK.out _).mono ?_
          rintro e w3 ⟨rfl, hb3⟩
          have HM3 := Lib.hid (HM2.out.below hb3)
          clear hb3 HM2
          rcases hwb : waitB (parsed l).1 with _ | _
          · have HF : Hid (machB own ready waiting = false) := by rw [Hid, HME.out, HWL.out, hwb]; rfl
            clear hwb
            go_wp2_with fail
            go_ret
            exact ⟨by rw [HF.out]; rfl, HM3.out.hb⟩
          have HWB := Lib.hid hwb
          clear hwb
          obtain ⟨f0, f1, f2⟩ := HM3.out.cells
          have hk3c : k3 ≤ cW := by omega
          have hsim0 := HM3.out.wt
          go_wp2_with fail
          go_loopw [82] (fun i wr => ∃ j : Nat, j ≤ k3 ∧ i = .int .i64 j ∧ Hid ((((waiting.take k3).drop j).map fun l => (parsed l).1).any (meetB (parsed l).1) = ((waiting.take k3).map fun l => (parsed l).1).any (meetB (parsed l).1)) ∧ MacAt w wr w.heap.size own ready waiting oR (some ⟨g, 0, none⟩) cR cW) (fun i _ => k3 - (intOf i).toNat)
          case atStart => exact ⟨0, Nat.zero_le _, rfl, rfl, HM3.out⟩
          case round =>
            obtain ⟨j, hj, rfl, hany, hm⟩ := hrel
            clear HM3 f0 f1 f2 hsim0
            have HMR := Lib.hid hm
            have hwt := hm.wt
            clear hm
            by_cases hlt2 : j < k3
            · have hjw : j < waiting.length := by omega
              obtain ⟨g2, hg2, e0⟩ := hwt j hjw
              obtain rfl : g = g2 := by injection hg2 with h; injection h
              obtain ⟨u, hu⟩ : ∃ u, waiting[j] = u := ⟨_, rfl⟩
              have hjt : j < (waiting.take k3).length := by simp; omega
              have hgj : (waiting.take k3)[j] = u := by rw [List.getElem_take]; exact hu
              have HUO : Hid (simpleOk u = true) := hsim.out u (by rw [← hgj]; exact List.getElem_mem hjt)
              have HST : Hid ((((waiting.take k3).drop j).map fun l => (parsed l).1).any (meetB (parsed l).1) = (meetB (parsed l).1 (parsed u).1 || (((waiting.take k3).drop (j + 1)).map fun l => (parsed l).1).any (meetB (parsed l).1))) := by rw [Hid, List.drop_eq_getElem_cons hjt, List.map_cons, List.any_cons, hgj]
              rw [hu] at e0
              clear hu hgj hjt hg2 hwt
              go_wp2_with fail
              refine (meet_calls l u HOK.out HUO.out _).mono ?_
              rintro e w4 ⟨rfl, hb4⟩
              have HM4 := Lib.hid (HMR.out.below hb4)
              clear hb4 e0 HMR
              rcases hmt : meetB (parsed l).1 (parsed u).1 with _ | _
              · have HA : Hid ((((waiting.take k3).drop (j + 1)).map fun l => (parsed l).1).any (meetB (parsed l).1) = ((waiting.take k3).map fun l => (parsed l).1).any (meetB (parsed l).1)) := by rw [Hid, ← hany.out, HST.out, hmt]; rfl
                clear hmt hany
                go_wp2_with fail
                go_roundw
                case rel => exact ⟨j + 1, by omega, by go_num, HA.out, HM4.out⟩
                case measure => exact meas4 _ _ hlt2
              · have HF : Hid (machB own ready waiting = false) := by
                  rw [Hid, HME.out, HWL.out, HWB.out, ← hany.out, HST.out, hmt]; rfl
                clear hmt hany
                go_wp2_with fail
                go_ret
                exact ⟨by rw [HF.out]; rfl, HM4.out.hb⟩
            have HNO : Hid (waitsB ((waiting.take (k3 + 1)).map fun l => (parsed l).1) (waiting.drop (k3 + 1)) = waitsB [] waiting) := by
              have h1 : ((waiting.take k3).map fun l => (parsed l).1).any (meetB (parsed l).1) = false := by
                rw [← hany.out, List.drop_eq_nil_of_le (by simp; omega)]; rfl
              rw [Hid, HWL.out, HWB.out, h1]; rfl
            clear hany hwt
            go_wp2_with fail
            go_roundw
            case rel => exact ⟨k3 + 1, by omega, by go_num, HNO.out, HSI.out, HMR.out⟩
            case measure => exact meas4 _ _ hlt
        · have HF : Hid (machB own ready waiting = true) := by
            have hke : k3 = waiting.length := by omega
            rw [Hid, HME.out, ← hall.out, hke, List.drop_length]; rfl
          clear hwt
          go_wp2_with fail
          go_ret
          exact ⟨by rw [HF.out]; rfl, HMR.out.hb⟩

end Go.Proofs.Ytfcadppidgkoaaa.PFnExactIsMachine
namespace Go.Proofs.Ytfcadppidgkoaaa.PFnExactIsMachine
open Go.RowKit Go.Proofs.YtfcadppidgkoaaaW.PrintWords Go.Proofs.YtfcadppidgkoaaaW.PrintLast Go.Proofs.YtfcadppidgkoaaaW.PrintMore
set_option linter.unusedVariables false
set_option linter.unusedSimpArgs false

theorem rd_get (xs : List ByteArray) (i : Nat) (h : i < xs.length) : rdOf ByteArray.empty xs (i : Int) = xs[i] := by
  unfold rdOf; simp [List.getD, List.getElem?_eq_getElem h]
theorem sz_l (xs : List ByteArray) (hl : xs.length ≤ 1048576) (hs : ∀ s, s ∈ xs → s.size ≤ 9223372036854775807) (m : Nat) : ∀ (i k x : Nat), i + m = xs.length → m < k → x ≤ 1048576 →
    ∃ z : Int, laws_szStringS.l0 k xs (x : Int) (i : Int) = some z ∧ (z = -1 ∨ ∃ y : Nat, z = y ∧ y ≤ x ∧ ∀ s, s ∈ xs.drop i → s.size ≤ x) := by
  induction m with
  | zero =>
    intro i k x h hk hx
    obtain ⟨k, rfl⟩ : ∃ m, k = m + 1 := ⟨k - 1, by omega⟩
    refine ⟨x, by rw [laws_szStringS.l0, if_neg (by omega)], .inr ⟨x, rfl, Nat.le_refl _, fun s hs => ?_⟩⟩
    rw [List.drop_eq_nil_of_le (by omega)] at hs; cases hs
  | succ m ih =>
    intro i k x h hk hx
    obtain ⟨k, rfl⟩ : ∃ m, k = m + 1 := ⟨k - 1, by omega⟩
    have hi : i < xs.length := by omega
    have hz := hs xs[i] (List.getElem_mem hi)
    rw [laws_szStringS.l0, if_pos (by omega), if_pos (by omega), rd_get xs i hi, num1 _ (by omega), wrap_id (x := (x : Int) - (xs[i].size : Int)) (by omega) (by omega)]
    by_cases hlt : (x : Int) - (xs[i].size : Int) < 0
    · exact ⟨-1, by rw [if_pos hlt], .inl rfl⟩
    · obtain ⟨z, e, hz2⟩ := ih (i + 1) k (x - xs[i].size) (by omega) (by omega) (by omega)
      rw [if_neg hlt, show (x : Int) - (xs[i].size : Int) = ((x - xs[i].size : Nat) : Int) from by omega]
      refine ⟨z, e, ?_⟩
      rcases hz2 with hz2 | ⟨y, e2, hy, hd⟩
      · exact .inl hz2
      · refine .inr ⟨y, e2, by omega, fun s hs => ?_⟩
        rw [List.drop_eq_getElem_cons hi] at hs
        rcases List.mem_cons.mp hs with rfl | hs
        · omega
        · have := hd s hs; omega
theorem sz_f (xs : List ByteArray) (hl : xs.length ≤ 9223372036854775807) (hs : ∀ s, s ∈ xs → s.size ≤ 9223372036854775807) (x k : Nat) (hx : x ≤ 1048576) (hk : 1048577 ≤ k) :
    ∃ z : Int, laws_szStringS.f k xs (x : Int) = some z ∧ (z = -1 ∨ ∃ y : Nat, z = y ∧ y ≤ x ∧ xs.length ≤ x ∧ ∀ s, s ∈ xs → s.size ≤ x) := by
  unfold laws_szStringS.f
  rw [wrap_id (x := (x : Int) - (xs.length : Int)) (by omega) (by omega)]
  by_cases hlt : (x : Int) - (xs.length : Int) < 0
  · exact ⟨-1, by rw [if_pos hlt], .inl rfl⟩
  · obtain ⟨z, e, hz⟩ := sz_l xs (by omega) hs xs.length 0 k (x - xs.length) (by omega) (by omega) (by omega)
    rw [if_neg hlt, show (x : Int) - (xs.length : Int) = ((x - xs.length : Nat) : Int) from by omega]
    refine ⟨z, e, ?_⟩
    rcases hz with hz | ⟨y, e2, hy, hd⟩
    · exact .inl hz
    · exact .inr ⟨y, e2, by omega, by omega, fun s hs => by have := hd s (by simpa using hs); omega⟩
theorem szM_f (own : ByteArray) (r w : List ByteArray) (ho : own.size ≤ 9223372036854775807) (hlr : r.length ≤ 9223372036854775807) (hlw : w.length ≤ 9223372036854775807) (hr : ∀ s, s ∈ r → s.size ≤ 9223372036854775807) (hw : ∀ s, s ∈ w → s.size ≤ 9223372036854775807) :
    ∃ z : Int, laws_szMachine.f 1048577 own r w 1048576 = some z ∧ (z = -1 ∨ ∃ y : Nat, z = y ∧ own.size ≤ 1048576 ∧ r.length ≤ 1048576 ∧ w.length ≤ 1048576 ∧ (∀ s, s ∈ r → s.size ≤ 1048576) ∧ ∀ s, s ∈ w → s.size ≤ 1048576) := by
  unfold laws_szMachine.f
  rw [wrap_id (x := (1048576 : Int) - (own.size : Int)) (by omega) (by omega)]
  by_cases hlt : (1048576 : Int) - (own.size : Int) < 0
  · exact ⟨-1, by rw [if_pos hlt], .inl rfl⟩
  rw [if_neg hlt, show (1048576 : Int) - (own.size : Int) = ((1048576 - own.size : Nat) : Int) from by omega]
  obtain ⟨z1, e1, h1⟩ := sz_f r hlr hr (1048576 - own.size) 1048577 (by omega) (Nat.le_refl _)
  rw [e1, Option.bind_some]
  rcases h1 with rfl | ⟨y1, rfl, hy1, q1, q2⟩
  · exact ⟨-1, by rw [if_pos (by decide)], .inl rfl⟩
  obtain ⟨z2, e2, h2⟩ := sz_f w hlw hw y1 1048577 (by omega) (Nat.le_refl _)
  rw [if_neg (by omega), e2, Option.bind_some]
  rcases h2 with rfl | ⟨y2, rfl, hy2, q3, q4⟩
  · exact ⟨-1, by rw [if_pos (by decide)], .inl rfl⟩
  · exact ⟨y2, by rw [if_neg (by omega)], .inr ⟨y2, rfl, by omega, by omega, by omega, fun s hs => by have := q2 s hs; omega, fun s hs => by have := q4 s hs; omega⟩⟩
theorem to_l (xs : List ByteArray) (hl : xs.length ≤ 1048576) (m : Nat) : ∀ (i k : Nat) (ys : List ByteArray), i + m = xs.length → m < k → ys.length = xs.length → ys.take i = xs.take i → laws_toStringS.l0 k xs ys (i : Int) = some xs := by
  induction m with
  | zero =>
    intro i k ys h hk hy ht
    obtain ⟨k, rfl⟩ : ∃ m, k = m + 1 := ⟨k - 1, by omega⟩
    rw [laws_toStringS.l0, if_neg (by omega)]
    rw [List.take_of_length_le (by omega), List.take_of_length_le (by omega)] at ht
    rw [ht]
  | succ m ih =>
    intro i k ys h hk hy ht
    obtain ⟨k, rfl⟩ : ∃ m, k = m + 1 := ⟨k - 1, by omega⟩
    have hi : i < xs.length := by omega
    rw [laws_toStringS.l0, if_pos (by omega), if_pos (by omega), if_pos (by omega), rd_get xs i hi, num1 _ (by omega), Int.toNat_natCast]
    refine ih (i + 1) k _ (by omega) (by omega) (by simp [hy]) ?_
    rw [List.take_succ_eq_append_getElem (by simp; omega), List.take_succ_eq_append_getElem hi, List.take_set_of_le (Nat.le_refl _), ht]
    simp
theorem to_f (xs : List ByteArray) (hl : xs.length ≤ 1048576) (k : Nat) (hk : 1048577 ≤ k) : laws_toStringS.f k xs = some xs := by
  unfold laws_toStringS.f
  rw [if_pos (by omega), if_pos (by omega)]
  exact to_l xs hl xs.length 0 k _ (by omega) (by omega) (by simp) (by simp)
theorem toM_f (own : ByteArray) (r w : List ByteArray) (hr : r.length ≤ 1048576) (hw : w.length ≤ 1048576) : laws_toMachine.f 1048577 own r w = some (own, r, w) := by
  unfold laws_toMachine.f
  rw [to_f r hr _ (Nat.le_refl _), Option.bind_some, to_f w hw _ (Nat.le_refl _)]; rfl
theorem eq_l (xs : List ByteArray) (hl : xs.length ≤ 1048576) (m : Nat) : ∀ (i k : Nat), i + m = xs.length → m < k → laws_eqStringS.l0 k xs xs (i : Int) = some true := by
  induction m with
  | zero =>
    intro i k h hk
    obtain ⟨k, rfl⟩ : ∃ m, k = m + 1 := ⟨k - 1, by omega⟩
    rw [laws_eqStringS.l0, if_neg (by omega)]
  | succ m ih =>
    intro i k h hk
    obtain ⟨k, rfl⟩ : ∃ m, k = m + 1 := ⟨k - 1, by omega⟩
    rw [laws_eqStringS.l0, if_pos (by omega), if_pos (by omega), if_pos (by omega), if_pos rfl, num1 _ (by omega)]
    exact ih (i + 1) k (by omega) (by omega)
theorem eq_fs (xs : List ByteArray) (hl : xs.length ≤ 1048576) (k : Nat) (hk : 1048577 ≤ k) : laws_eqStringS.f k xs xs = some true := by
  unfold laws_eqStringS.f
  rw [if_pos rfl]
  exact eq_l xs hl xs.length 0 k (by omega) (by omega)
theorem eqM_f (own : ByteArray) (r w : List ByteArray) (hr : r.length ≤ 1048576) (hw : w.length ≤ 1048576) : laws_eqMachine.f 1048577 own r w own r w = some true := by
  unfold laws_eqMachine.f
  rw [if_pos rfl, eq_fs r hr _ (Nat.le_refl _), Option.bind_some, if_pos rfl, eq_fs w hw _ (Nat.le_refl _)]; rfl

theorem strs_of {w : World} {base : Nat} {ok : Nat → Prop} {v : Value} {xs : List (List UInt8)} (h : Kd.R Kd.string 9 w base ok v (xs.map B)) : ∃ o cap, v = .slice o xs.length cap ∧ xs.length ≤ cap ∧ Strs w o xs ∧ Kd.C Kd.string w o (xs.map B).length (xs.map B) := by
  have hr := Kd.R_reads h
  obtain ⟨o, cap, rfl, hc, hC⟩ := hr
  rw [List.length_map] at hc
  refine ⟨o, cap, by rw [List.length_map], hc, fun i hi => ?_, hC⟩
  obtain ⟨g, cap2, e1, _, _, cells, hcells⟩ := Kd.R_form h (by rw [List.length_map]; omega)
  injection e1 with e2 e3 e4
  subst e2
  obtain ⟨c, hc1, hc2, hc3, _⟩ := Kd.R_elem h ByteArray.empty (i : Int) (by omega) (by rw [List.length_map]; omega)
  refine ⟨g, rfl, ?_⟩
  have hM : c = [.string ((xs.map B).getD i ByteArray.empty)] := by
    rw [Int.toNat_natCast] at hc2; exact hc2
  have := hc3 0 (.string ((xs.map B).getD i ByteArray.empty)) (by rw [hM]; rfl)
  rw [Int.toNat_natCast] at this
  have e5 : (xs.map B).getD i ByteArray.empty = B xs[i] := by simp [List.getD, List.getElem?_eq_getElem hi]
  rw [e5] at this
  simpa [show (Kd.string).sz = 1 from rfl] using this
theorem strs_len {w : World} {base : Nat} {ok : Nat → Prop} {v : Value} {l : List ByteArray} {xs : List (List UInt8)} (hl : l = xs.map B ∧ l.length = xs.length) (h : Kd.R Kd.string 9 w base ok v l) : ∃ o cap, v = .slice o l.length cap ∧ l.length ≤ cap ∧ Strs w o xs ∧ Kd.C Kd.string w o l.length l := by
  obtain ⟨rfl, h2⟩ := hl
  rw [h2]
  obtain ⟨o, cap, e, q1, q2, q3⟩ := strs_of h
  rw [h2] at q3
  exact ⟨o, cap, e, q1, q2, q3⟩
theorem lists_of (l : List ByteArray) : ∃ xs : List (List UInt8), l = xs.map B := by
  induction l with
  | nil => exact ⟨[], rfl⟩
  | cons a l ih =>
    obtain ⟨xs, rfl⟩ := ih
    obtain ⟨x, rfl⟩ := B_of a
    exact ⟨x :: xs, rfl⟩

end Go.Proofs.Ytfcadppidgkoaaa.PFnExactIsMachine
