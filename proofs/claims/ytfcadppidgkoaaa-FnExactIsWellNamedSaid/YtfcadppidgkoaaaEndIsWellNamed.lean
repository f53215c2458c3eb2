/- The law FnExactIsWellNamed, walked: the program's answer is the reference's. -/
import Derived.Test.YtfcadppidgkoaaaRefsIsWellNamed
import Derived.Test.YtfcadppidgkoaaaBindersIsWellNamed
import Derived.Test.YtfcadppidgkoaaaFreeSIsWellNamed
import Derived.Test.YtfcadppidgkoaaaInIsWellNamed
import Derived.Test.YtfcadppidgkoaaaReads
import Derived.Test.YtfcadppidgkoaaaWell
namespace Go.Proofs.Ytfcadppidgkoaaa.PFnExactIsWellNamed
open Go.RowKit Go.Proofs.YtfcadppidgkoaaaW.PrintWords Go.Proofs.YtfcadppidgkoaaaW.PrintLast Go.Proofs.YtfcadppidgkoaaaW.PrintMore Go.Proofs.Ytfcadppidgkoaaa.Pterm Go.Proofs.Ytfcadppidgkoaaa.PIsWellNamed
set_option linter.unusedVariables false
set_option linter.unusedSimpArgs false

/-- What both say. -/
def val (l : List UInt8) : Bool := readOk l && !twF (parsed l).1.fr (parsed l).1.binders

theorem does (wb : World) (g h : Nat) (p : UInt8 → Bool) : EWell.Does (.pointer (some ⟨h, 0, none⟩)) (.pointer (some ⟨g, 0, none⟩)) (Wf isLet) wb (fun l w => WTold wb w g h p l) :=
  ⟨fun _ _ h => h.below, fun l u w N x hq hl ht => well_closure ht u N x hq hl⟩

set_option maxHeartbeats 1000000 in
theorem IsWellNamed_calls (l : List UInt8) (w : World) (hl : l.length ≤ 140737488351232) :
    Calls Try.prog 16 #[.string (B l)] w fun e w' => e = .returned (.tuple #[.bool (val l), .bool (readOk l)]) ∧ Below w.heap.size w w' := by
  go_enter Try.func16, Try.ntmps16
  go_wp2_with fail
  refine (read_calls l w hl).mono ?_
  rintro e w1 ⟨hb, p, rfl, hp⟩
  rcases hok : readOk l with _ | _
  · have hv : Hid (val l = false) := by simp [Hid, val, hok]
    have HO := Lib.hid hok
    clear hok hp
    go_wp2_with fail
    go_ret2
    exact ⟨by rw [hv.out, HO.out]; rfl, hb⟩
  · have hv : Hid (val l = !twF (parsed l).1.fr (parsed l).1.binders) := by simp [Hid, val, hok]
    obtain ⟨b, rfl, hli⟩ := hp hok
    have hsz := (read_good hok).2.2.2
    have hw := (read_good hok).2.2.1
    have HO := Lib.hid hok
    clear hok hp
    go_wp2_with fail
    refine (free_any 61 _ _ _ _ (by omega) (by omega) hw hli).mono ?_
    rintro e w2 ⟨rfl, m, rfl⟩
    replace hb := pw_below_drewN hb m
    replace hli := hli.drewN m
    have HW := Lib.hid hw
    generalize w1.drewN m = w2 at hb hli ⊢
    have HT : Hid (∀ e1 e2, WTold w2 ((w2.alloc (.cells #[.int .u32 (setI (parsed l).1.fr)] e1)).alloc (.cells #[.bool false] e2)) w2.heap.size (w2.heap.size + 1) (parsed l).1.fr []) := fun e1 e2 =>
      ⟨((Below.refl w2.heap.size w2).alloc (Nat.le_refl _) _).alloc (by simp) _,
       ⟨e1, by
         rw [Below.heap_alloc _ _ _ (by simp)]
         have := heap_alloc_new w2 (.cells #[.int .u32 (setI (parsed l).1.fr)] e1)
         rw [this]
         congr 4
         exact congrArg _ (setI_congr fun c _ => by simp [orS, inS, blS])⟩,
       ⟨e2, by rw [show twF (parsed l).1.fr (blS []) = false from rfl]; have := heap_alloc_new (w2.alloc (.cells #[.int .u32 (setI (parsed l).1.fr)] e1)) (.cells #[.bool false] e2); simpa using this⟩, Nat.le_refl _, by omega, by omega⟩
    have HL := Lib.hid hli
    have HB := Lib.hid hb
    clear hli hb hw
    go_wp2_with fail
    refine (EWell.each_any (does w2 w2.heap.size (w2.heap.size + 1) (parsed l).1.fr) 61 (parsed l).1 [] _ _ b (by omega) (by omega) (wf_pre HW.out) HL.out (HT.out _ _)).mono ?_
    rintro e w3 ⟨rfl, ht⟩
    rw [List.nil_append] at ht
    have hb3 := ht.below
    obtain ⟨_, ch, _, _⟩ := ht.cells
    rw [bl_pre HW.out] at ch
    replace hb3 := below_then HB.out HB.out.size hb3
    clear ht HT HB
    go_wp2_with fail
    go_ret2
    exact ⟨by rw [hv.out, HO.out]; rfl, hb3⟩

theorem in_or (fs pre : List UInt8) (c : UInt8) : orS (inS fs) (inS pre) c = (fs.contains c || pre.contains c) := rfl
theorem tw_loop (bs fs : List UInt8) (hb : bs.length ≤ 1000) (hf : fs.length ≤ 1000) (n : Nat) : ∀ (pre l : List UInt8) (k : Nat), bs = pre ++ l → l.length ≤ n → n + 1100 < k → spec_IsWellNamed.l0 k (B bs) (B fs) (pre.length : Nat) = some (!twF (orS (inS fs) (inS pre)) l, true) := by
  induction n with
  | zero =>
    intro pre l k h hl hk
    obtain ⟨k, rfl⟩ : ∃ m, k = m + 1 := ⟨k - 1, by omega⟩
    have : l = [] := List.length_eq_zero_iff.mp (by omega)
    subst this
    rw [spec_IsWellNamed.l0, B_size, h, if_neg (by simp)]; rfl
  | succ n ih =>
    intro pre l k h hl hk
    obtain ⟨k, rfl⟩ : ∃ m, k = m + 1 := ⟨k - 1, by omega⟩
    cases l with
    | nil => rw [spec_IsWellNamed.l0, B_size, h, if_neg (by simp)]; rfl
    | cons c l =>
      have hlen := congrArg List.length h
      simp only [List.length_append, List.length_cons] at hlen hl
      have hbt : bt (B bs) (pre.length : Nat) = vl c := by rw [h, bt_B]; exact at_mid pre c l
      have hex : (B bs).extract 0 ((pre.length : Nat) : Int).toNat = B pre := by rw [B_extract, h]; simp
      have w : wrap64 ((pre.length : Int) + 1) = ((pre ++ [c]).length : Nat) := by rw [wrap_id (by omega) (by omega)]; simp
      have e1 := tmIn_f fs (by omega) c k (by omega)
      have e2 := tmIn_f pre (by omega) c k (by omega)
      have e3 := ih (pre ++ [c]) l k (by rw [h]; simp) (by omega) (by omega)
      have hp : orS (orS (inS fs) (inS pre)) (eqS c) = orS (inS fs) (inS (pre ++ [c])) := by
        funext d; simp only [orS, inS, eqS, List.contains_append, List.contains_cons, List.contains_nil, Bool.or_false, Bool.or_assoc]
      rw [spec_IsWellNamed.l0, if_pos (by rw [B_size]; omega), if_pos (by omega), hbt, e1, hex, e2, w, e3]
      simp only [Option.bind_some, twF, in_or, hp]
      rcases h1 : fs.contains c with _ | _
      · rcases h2 : pre.contains c with _ | _
        · rw [if_neg (by decide), if_pos (by rw [B_size]; omega), if_neg (by decide)]; rfl
        · rw [if_neg (by decide), if_pos (by rw [B_size]; omega), if_pos rfl]; rfl
      · rw [if_pos rfl]; rfl
theorem twF_congr {p q : UInt8 → Bool} : ∀ {l : List UInt8}, (∀ c, c ∈ l → isLet c = true) → (∀ c, isLet c = true → p c = q c) → twF p l = twF q l := by
  intro l
  induction l generalizing p q with
  | nil => intros; rfl
  | cons b l ih =>
    intro hl h
    simp only [twF]
    rw [h b (hl b (by simp)), ih (q := orS q (eqS b)) (fun c hc => hl c (by simp [hc])) (fun c hc => by unfold orS; rw [h c hc])]

theorem spec_val (l : List UInt8) : spec_IsWellNamed.f 3000 (B l) = some (val l, readOk l) := by
  unfold spec_IsWellNamed.f val
  rw [good_f l 3000 (by omega), Option.bind_some]
  rcases hok : readOk l with _ | _
  · rfl
  · obtain ⟨h1, h2, h3, h4⟩ := read_good hok
    have e := binders_text (parsed l).1 3000 (Wf.names (fun c => let_name) h3) (by rw [← h2]; omega) (by omega)
    rw [← h2] at e
    have e4 := frees_text (parsed l).1 3000 h3 (by rw [← h2]; omega) (by omega)
    rw [← h2] at e4
    have hlen := binders_len (parsed l).1
    have hlet := binders_let h3
    have hsl := sort_len (parsed l).1.fr
    have e5 := tw_loop (parsed l).1.binders (sortL (parsed l).1.fr) (by omega) (by omega) 100 [] _ 3000 rfl (by omega) (by omega)
    rw [if_pos rfl, e, Option.bind_some, e4, Option.bind_some]
    refine e5.trans ?_
    rw [twF_congr (q := (parsed l).1.fr) hlet (fun c hc => ?_)]
    · rfl
    · simp only [orS, inS, List.contains_nil, Bool.or_false]
      rw [Bool.eq_iff_iff, List.contains_iff_mem, sort_mem]
      simp [hc]

set_option maxHeartbeats 1000000 in
theorem law_walk (s : ByteArray) (w : World) (hs : s.size ≤ 140737488351232) :
    Calls Try.prog 3 #[.string s] w fun e w' => e = .returned (.bool true) ∧ Below w.heap.size w w' := by
  obtain ⟨l, rfl⟩ := B_of s
  have hz : (B l).size = l.length := B_size l
  rw [hz] at hs
  by_cases hbig : l.length > 1048576
  · go_enter Try.func3, Try.ntmps3
    go_wp2_with fail
    go_ret
    exact ⟨rfl, Below.refl _ _⟩
  · have HF := Lib.hid (spec_val l)
    go_enter Try.func3, Try.ntmps3
    go_wp2_with fail
    refine (spec_IsWellNamed.calls 3000 (B l) _ _ _ HF.out).mono ?_
    rintro e w1 ⟨rfl, hb1⟩
    go_wp2_with fail
    refine (IsWellNamed_calls l _ hs).mono ?_
    rintro e w2 ⟨rfl, hb⟩
    replace hb := below_then hb1 hb1.size hb
    clear hb1
    go_wp2_with fail
    go_ret
    exact ⟨rfl, hb⟩

end Go.Proofs.Ytfcadppidgkoaaa.PFnExactIsWellNamed
