/- Several texts in one.
   The reference's tmWith at a term's text.
   The reference's tmRename, walked: what the walk wants; where nothing is renamed; the signs that do not bind.
   The reference's tmRename, walked: sums and pairs.
   The reference's tmRename, walked: the signs that bind.
   The reference's tmRename, walked: all kinds together. -/
import Derived.Test.YtfcadppidgkoaaaRefsFnExactRenameFree
import Derived.Test.YtfcadppidgkoaaaFreeNFnExactRenameFree
import Derived.Test.YtfcadppidgkoaaaRenP
import Derived.Lib.ConvBytes
import Derived.Laws.IdiomStrings
import Derived.Deep.RegionHeld3
namespace Go.Proofs.Ytfcadppidgkoaaa.PFnExactRenameFree
open Go.RowKit Go.Proofs.YtfcadppidgkoaaaW.PrintWords Go.Proofs.YtfcadppidgkoaaaW.PrintLast Go.Proofs.YtfcadppidgkoaaaW.PrintMore
set_option linter.unusedVariables false
set_option linter.unusedSimpArgs false

theorem un_text (k a b : UInt8) (t : Tm) : ∃ hd : List UInt8, hd.length = headLen k ∧ ∀ u : Tm, (Tm.un k a b u).text = hd ++ u.text := by
  by_cases h1 : k = 35
  · exact ⟨[35, b, 46], by subst h1; rfl, fun u => by simp [Tm.text, h1]⟩
  by_cases h2 : k = 61
  · exact ⟨[91, a, 61, b, 93], by subst h2; rfl, fun u => by simp [Tm.text, h2]⟩
  by_cases h3 : k = 42
  · exact ⟨[42], by subst h3; rfl, fun u => by simp [Tm.text, h3]⟩
  by_cases h4 : k = 126
  · exact ⟨[126, 46], by subst h4; rfl, fun u => by simp [Tm.text, h4]⟩
  · exact ⟨[a, k, b, 46], by simp [headLen, h1, h2, h3, h4], fun u => by simp [Tm.text, h1, h2, h3, h4]⟩
theorem un_kind {P : UInt8 → Bool} {k a b : UInt8} {t : Tm} (h : Wf P (.un k a b t)) : k ≠ 48 ∧ k ≠ 43 ∧ k ≠ 38 := by
  rcases h.1 with ⟨h, _⟩ | ⟨h, _⟩ | ⟨h, _⟩
  · rcases h with rfl | rfl | rfl <;> decide
  · subst h; decide
  · rcases h with rfl | rfl <;> decide
theorem rdOf_at {α : Type} {d x : α} {l : List α} {i : Nat} (h : l[i]? = some x) : rdOf d l (i : Int) = x := by
  unfold rdOf; simp [List.getD, h]
theorem with_un {k a b : UInt8} {t u : Tm} {f : Nat} (hw : Wf nameB (.un k a b t)) (hl : (Tm.un k a b t).text.length ≤ 1000000) (hu : u.text.length ≤ 1000000) (hf : (Tm.un k a b t).size + 2 ≤ f) :
    spec_tmWith.f f (B (Tm.un k a b t).text) [B u.text] = some (B (Tm.un k a b u).text) := by
  obtain ⟨n1, n2, n3⟩ := un_kind hw
  obtain ⟨hd, h1, h2⟩ := un_text k a b t
  have hk := kind_text (k := f) hw hl (by omega)
  have hh := head_text (k := f) hw hl (by omega)
  rw [if_neg (show ¬ ((Tm.un k a b t).kind = 43 ∨ (Tm.un k a b t).kind = 38) from by rintro (h | h); exact n2 h; exact n3 h)] at hh
  simp only [Tm.kind] at hk hh
  have e48 : ¬ vl k = 48 := by rw [e48]; exact n1
  have e43 : ¬ vl k = 43 := by rw [e43]; exact n2
  have e38 : ¬ vl k = 38 := by rw [e38]; exact n3
  have hlen := congrArg List.length (h2 t)
  rw [List.length_append] at hlen
  have r0 : rdOf ByteArray.empty [B u.text] 0 = B u.text := rfl
  have hex : (B (Tm.un k a b t).text).extract 0 ((headLen k : Nat) : Int).toNat = B hd := by
    rw [B_extract, h2 t, Int.toNat_natCast, ← h1]
    simp
  unfold spec_tmWith.f
  rw [hk, Option.bind_some, if_neg e48, if_neg e43, if_neg e38, hh, Option.bind_some, r0, hex]
  rw [if_pos (by omega), if_pos (by rw [B_size]; omega), if_pos (by simp), if_pos (by rw [B_size, B_size]; omega), B_append, ← h2 u]
theorem with_bin {k a b : UInt8} {t1 t2 u v : Tm} {f : Nat} (hw : Wf nameB (.bin k a b t1 t2)) (hl : (Tm.bin k a b t1 t2).text.length ≤ 1000000) (hu : u.text.length ≤ 1000000) (hv : v.text.length ≤ 1000000) (hf : (Tm.bin k a b t1 t2).size + 2 ≤ f) :
    spec_tmWith.f f (B (Tm.bin k a b t1 t2).text) [B u.text, B v.text] = some (B (Tm.bin k a b u v).text) := by
  have hk := kind_text (k := f) hw hl (by omega)
  simp only [Tm.kind] at hk
  have r0 : rdOf ByteArray.empty [B u.text, B v.text] 0 = B u.text := rfl
  have r1 : rdOf ByteArray.empty [B u.text, B v.text] 1 = B v.text := rfl
  have s40 : (⟨#[40]⟩ : ByteArray).size = 1 := rfl
  have s43 : (⟨#[43]⟩ : ByteArray).size = 1 := rfl
  have s38 : (⟨#[38]⟩ : ByteArray).size = 1 := rfl
  unfold spec_tmWith.f
  rw [hk, Option.bind_some]
  simp only [r0, r1, ByteArray.size_append, B_size, s40, s43, s38, List.length_cons, List.length_nil]
  rcases hw.1 with rfl | rfl
  · rw [if_neg (by decide), if_pos (by decide), if_pos (by omega), if_pos (by omega), if_pos (by omega), if_pos (by omega), if_pos (by omega), if_pos (by omega)]
    rw [show (⟨#[40]⟩ : ByteArray) = B [40] from rfl, show (⟨#[43]⟩ : ByteArray) = B [43] from rfl, show (⟨#[41]⟩ : ByteArray) = B [41] from rfl]
    simp only [B_append]
    congr 2
    simp [Tm.text]
  · rw [if_neg (by decide), if_neg (by decide), if_pos (by decide), if_pos (by omega), if_pos (by omega), if_pos (by omega), if_pos (by omega), if_pos (by omega), if_pos (by omega)]
    rw [show (⟨#[40]⟩ : ByteArray) = B [40] from rfl, show (⟨#[38]⟩ : ByteArray) = B [38] from rfl, show (⟨#[41]⟩ : ByteArray) = B [41] from rfl]
    simp only [B_append]
    congr 2
    simp [Tm.text]

end Go.Proofs.Ytfcadppidgkoaaa.PFnExactRenameFree
namespace Go.Proofs.Ytfcadppidgkoaaa.PFnExactRenameFree
open Go.RowKit Go.Proofs.YtfcadppidgkoaaaW.PrintWords Go.Proofs.YtfcadppidgkoaaaW.PrintLast Go.Proofs.YtfcadppidgkoaaaW.PrintMore
set_option linter.unusedVariables false
set_option linter.unusedSimpArgs false

theorem rvt {c d : UInt8} (h : c = d) : (vl c == vl d) = true := by rw [h]; simp
theorem rvf {c d : UInt8} (h : ¬ c = d) : (vl c == vl d) = false := by rw [beq_eq_false_iff_ne]; exact fun e => h (vl_inj.mp e)
theorem name_world {P : Program} {c : Code} {Q : Exit → Act → World → Prop} {a : Act} {w : World} (h : ∀ W, W = w → c.wp P Q a W) : c.wp P Q a w := h w rfl
theorem swap_f (c old name : UInt8) : spec_tmSwap.f (vl c) (vl old) (vl name) = some (vl (swp c old name)) := by
  unfold spec_tmSwap.f swp
  by_cases h : c = old
  · rw [if_pos (by rw [h]), if_pos h]
  · rw [if_neg (fun e => h (vl_inj.mp e)), if_neg h]
def HeadAt (w : World) (g : Nat) (l : List UInt8) : Prop := ∃ cs e z, w.heap[g]? = some (.cells cs e (z, z + 1)) ∧ l.length ≤ z ∧ ∀ (j : Nat) (c : UInt8), l[j]? = some c → cs[j]? = some (Value.int .u8 (vl c))
section
variable {w w' : World} {g : Nat} {l : List UInt8}
theorem HeadAt.lt (h : HeadAt w g l) : g < w.heap.size := by obtain ⟨cs, e, z, h, _⟩ := h; exact blk_lt h
theorem HeadAt.keep (h : HeadAt w g l) (hk : w'.heap[g]? = w.heap[g]?) : HeadAt w' g l := by obtain ⟨cs, e, z, h, h2⟩ := h; exact ⟨cs, e, z, hk.trans h, h2⟩
theorem HeadAt.below (h : HeadAt w g l) (hb : Below w.heap.size w w') : HeadAt w' g l := h.keep (hb.block _ h.lt)
theorem HeadAt.drewN (h : HeadAt w g l) (m : Nat) : HeadAt (w.drewN m) g l := h.keep rfl
theorem HeadAt.cell (h : HeadAt w g l) {j : Nat} {c : UInt8} (hj : l[j]? = some c) : w.cell? ⟨g, j, none⟩ = some (.int .u8 (vl c)) := by
  obtain ⟨cs, e, z, h, _, h2⟩ := h
  simp only [World.cell?, h]
  exact h2 j c hj
theorem HeadAt.frozen (h : HeadAt w g l) {j : Nat} (hj : j < l.length) : w.frozen? ⟨g, j, none⟩ = false := by
  obtain ⟨cs, e, z, h, h1, _⟩ := h
  simp only [World.frozen?, h]
  simp only [Bool.and_eq_false_iff, decide_eq_false_iff_not]
  exact .inl (by omega)
theorem HeadAt.set (h : HeadAt w g l) (j : Nat) (c : UInt8) : HeadAt (w.setCell ⟨g, j, none⟩ (.int .u8 (vl c))) g (l.set j c) := by
  obtain ⟨cs, e, z, h, h1, h2⟩ := h
  refine ⟨cs.setIfInBounds j (.int .u8 (vl c)), e, z, ?_, by rw [List.length_set]; exact h1, fun i d hi => ?_⟩
  · simp [World.setCell, Array.getElem?_modify, h]
  · rw [List.getElem?_set] at hi
    rw [Array.getElem?_setIfInBounds]
    by_cases hij : j = i
    · subst hij
      rw [if_pos rfl] at hi ⊢
      by_cases hjl : j < l.length
      · rw [if_pos hjl] at hi
        injection hi with hi
        subst hi
        have := h2 j l[j] (List.getElem?_eq_getElem hjl)
        rw [if_pos (Array.getElem?_eq_some_iff.mp this).1]
      · rw [if_neg hjl] at hi; cases hi
    · rw [if_neg hij] at hi ⊢
      exact h2 i d hi
theorem HeadAt.conv (h : HeadAt w g l) (cap : Nat) : (convert 98 9 (.slice (some ⟨g, 0, none⟩) l.length cap)).run Try.prog w = .ok (.string (B l)) w :=
  run_convert_bytes_back w 98 9 5 ⟨g, 0, none⟩ cap l Try.underlying98 Try.underlying5 Try.underlying9 fun j hj => by
    rw [add_plain]
    exact h.cell (List.getElem?_eq_getElem hj)
theorem head_new (w : World) (e : TypeId) (l : List UInt8) : HeadAt (Lib.bytesWorld w e (B l)) w.heap.size l := by
  refine ⟨_, e, _, Lib.bytesWorld_at_new w e (B l), ?_, fun j c hj => ?_⟩
  · simp [Lib.bytesCells, B]
  · obtain ⟨hj1, hj2⟩ := List.getElem?_eq_some_iff.mp hj
    have := Lib.bytesWorld_cell w e (B l) j (by rw [B_size]; exact hj1)
    simp only [World.cell?, Lib.bytesWorld_at_new] at this
    rw [B_data] at this
    simp only [Option.isSome_none, Bool.false_eq_true, if_false] at this
    rw [this]
    simp [List.getD, hj, vl]
end
theorem below_bytes (w : World) (e : TypeId) (s : ByteArray) : Below w.heap.size w (Lib.bytesWorld w e s) :=
  ⟨rfl, rfl, rfl, by rw [Lib.bytesWorld_size]; omega, fun i hi => Lib.bytesWorld_at_old w e s i hi⟩

def RnPost (w : World) (l : List UInt8) (e : Ending) (w' : World) : Prop := e = .returned (.string (B l)) ∧ Below w.heap.size w w'
def RnUpto (n : Nat) : Prop := ∀ (t : Tm) (old name : UInt8) (w : World), t.size ≤ n → Wf nameB t → t.text.length ≤ 1000 → nameB old = true → nameB name = true → Enough t old name →
    Calls Try.prog 86 #[.string (B t.text), .int .u8 (vl old), .int .u8 (vl name)] w (RnPost w (renS n t old name).text)

set_option maxHeartbeats 1000000 in
set_option maxRecDepth 100000 in
theorem rn_early (t : Tm) (old name : UInt8) (w : World) (hs : t.size ≤ 300) (hw : Wf nameB t) (hl : t.text.length ≤ 1000) (ho : nameB old = true) (h : old = name ∨ t.fr old = false) :
    Calls Try.prog 86 #[.string (B t.text), .int .u8 (vl old), .int .u8 (vl name)] w (RnPost w t.text) := by
  have hfr := frees_name t 3000 hw (by omega) (by omega)
  have hin := in_name t.fr ho (k := 3000) (by omega)
  by_cases h1 : old = name
  · have e1 := rvt h1
    clear h h1 hfr hin
    go_enter Try.func86, Try.ntmps86
    go_wp2_with fail
    go_ret
    exact ⟨rfl, Below.refl _ _⟩
  · have e1 := rvf h1
    rw [h.resolve_left h1] at hin
    clear h h1
    go_enter Try.func86, Try.ntmps86
    go_wp2_with fail
    refine (spec_tmFree.calls 3000 _ _ _ hfr).mono ?_
    rintro e w1 ⟨rfl, hb1⟩
    go_wp2_with fail
    refine (spec_tmIn.calls 3000 _ _ _ _ hin).mono ?_
    rintro e w2 ⟨rfl, hd2⟩
    replace hb1 := below_step hb1 hd2.below
    clear hd2 hfr hin
    go_wp2_with fail
    go_ret
    exact ⟨rfl, hb1⟩

structure RnS (T : Tm) (old name : UInt8) (hd : List UInt8) (x : Int) (isB : Bool) : Prop where
  fr : spec_tmFree.f 3000 (B T.text) = some (B (sortM T.fr))
  is : spec_tmIn.f 3000 (B (sortM T.fr)) (vl old) = some true
  he : spec_tmHead.f 3000 (B T.text) = some ((hd.length : Nat) : Int)
  bi : spec_tmBinds.f 3000 (B T.text) = some (x, isB)
  kd : spec_tmKind.f 3000 (B T.text) = some (vl T.kind)
  ex : (B T.text).extract 0 hd.length = B hd
  sz : hd.length ≤ (B T.text).size
  e1 : (vl old == vl name) = false
theorem RnS.un {k a b : UInt8} {t : Tm} {old name : UInt8} {hd : List UInt8} (h : (Tm.un k a b t).text = hd ++ t.text) (hh : hd.length = headLen k) (hs : (Tm.un k a b t).size ≤ 300) (hw : Wf nameB (.un k a b t)) (hl : (Tm.un k a b t).text.length ≤ 1000) (ho : nameB old = true) (hf : (Tm.un k a b t).fr old = true) (hon : ¬ old = name) :
    RnS (.un k a b t) old name hd (if k = 63 ∨ k = 35 then vl b else 0) (decide (k = 63 ∨ k = 35)) := by
  obtain ⟨n1, n2, n3⟩ := un_kind hw
  refine ⟨frees_name _ 3000 hw (by omega) (by omega), ?_, ?_, ?_, ?_, ?_, ?_, rvf hon⟩
  · have := in_name (Tm.un k a b t).fr ho (k := 3000) (by omega)
    rwa [hf] at this
  · have := head_text (k := 3000) hw (by omega) (by omega)
    rw [if_neg (show ¬ ((Tm.un k a b t).kind = 43 ∨ (Tm.un k a b t).kind = 38) from by rintro (h | h); exact n2 h; exact n3 h)] at this
    rw [this, hh]; rfl
  · have := binds_text (k := 3000) hw (by omega) (by omega)
    rw [this]
    by_cases h2 : k = 63 ∨ k = 35
    · rw [if_pos (show (Tm.un k a b t).kind = 63 ∨ (Tm.un k a b t).kind = 35 from h2), if_pos h2, decide_eq_true h2]; rfl
    · rw [if_neg (show ¬ ((Tm.un k a b t).kind = 63 ∨ (Tm.un k a b t).kind = 35) from h2), if_neg h2, decide_eq_false h2]
  · exact kind_text (k := 3000) hw (by omega) (by omega)
  · rw [B_extract, h]; simp
  · rw [B_size, h]; simp
set_option maxHeartbeats 4000000 in
set_option maxRecDepth 100000 in
theorem rn_33 (n : Nat) (ih : RnUpto n) (a b : UInt8) (t : Tm) (old name : UInt8) (w : World) (hs : t.size ≤ n) (hn : n ≤ 299) (hw : Wf nameB (.un 33 a b t)) (hl : (Tm.un 33 a b t).text.length ≤ 1000) (ho : nameB old = true) (hnn : nameB name = true) (hE : Enough t old name) (hf : (Tm.un 33 a b t).fr old = true) (hon : ¬ old = name) :
    Calls Try.prog 86 #[.string (B (Tm.un 33 a b t).text), .int .u8 (vl old), .int .u8 (vl name)] w (RnPost w (Tm.un 33 (swp a old name) (swp b old name) (renS n t old name)).text) := by
  have HS := Lib.hid (RnS.un (hd := [a, 33, b, 46]) (name := name) rfl rfl (by simp only [Tm.size]; omega) hw hl ho hf hon)
  have HI := Lib.hid (fun W => ih t old name W hs hw.2 (by simp only [Tm.text, List.length_append] at hl; omega) ho hnn hE)
  have HLU := Lib.hid (renS_wf freshB_name n t old name hnn hw.2).2.2
  have HX : Hid ((B (Tm.un 33 a b t).text).extract 4 (B (Tm.un 33 a b t).text).size = B t.text) := by rw [Hid, B_size, B_extract]; simp [Tm.text]
  have HT : Hid (t.text.length ≤ 1000) := by show _ ≤ _; simp only [Tm.text, List.length_append] at hl; omega
  generalize renS n t old name = u at HI HLU ⊢
  clear hs hn hw ho hnn hE hf hon hl ih
  go_enter Try.func86, Try.ntmps86
  have e1 := HS.out.e1
  go_wp2_with fail
  refine (spec_tmFree.calls 3000 _ _ _ HS.out.fr).mono ?_
  rintro e w1 ⟨rfl, hb1⟩
  go_wp2_with fail
  refine (spec_tmIn.calls 3000 _ _ _ _ HS.out.is).mono ?_
  rintro e w2 ⟨rfl, hd2⟩
  replace hb1 := below_step hb1 hd2.below
  clear hd2
  go_wp2_with fail
  refine (spec_tmHead.calls 3000 _ _ _ HS.out.he).mono ?_
  rintro e w3 ⟨rfl, hd3⟩
  replace hb1 := below_step hb1 hd3.below
  clear hd3
  have hex : (B (Tm.un 33 a b t).text).extract 0 4 = B [a, 33, b, 46] := HS.out.ex
  have hsz := HS.out.sz
  have hcv := Lib.run_convert_string_bytes (P := Try.prog) w3 9 98 5 (B [a, 33, b, 46]) Try.underlying9 Try.underlying98 Try.underlying5
  have hh4 := head_new w3 5 [a, 33, b, 46]
  have hb4 := below_step hb1 (below_bytes w3 5 (B [a, 33, b, 46]))
  generalize Lib.bytesWorld w3 5 (B [a, 33, b, 46]) = W4 at hcv hh4 hb4
  rw [B_size] at hcv
  generalize grownCap w3 [a, 33, b, 46].length 0 5 = cap at hcv
  replace hcv : (convert 9 98 (.string (B [a, 33, b, 46]))).run Try.prog w3 = .ok (.slice (some ⟨w3.heap.size, 0, none⟩) 4 cap) W4 := hcv
  replace hsz : (4 : Int) ≤ ((B (Tm.un 33 a b t).text).size : Int) := by have h1 : 4 ≤ (B (Tm.un 33 a b t).text).size := hsz; omega
  have hg : w.heap.size ≤ w3.heap.size := hb1.size
  generalize hgg : w3.heap.size = g at hcv hh4 hg
  clear hb1 hgg
  go_wp2_with fail
  refine (spec_tmBinds.calls 3000 _ _ _ _ HS.out.bi).mono ?_
  rintro e W5 ⟨rfl, hd5⟩
  have HH : Hid (HeadAt W5 g [a, 33, b, 46]) := hh4.below hd5.below
  have HB : Hid (Below w.heap.size w W5) := below_step hb4 hd5.below
  have HG := Lib.hid hg
  clear hh4 hb4 hd5 hg hcv hex e1
  go_wp2_with fail
  refine (spec_tmKind.calls 3000 _ _ _ HS.out.kd).mono ?_
  rintro e W6 ⟨rfl, hd6⟩
  have HH6 := Lib.hid (HH.out.below hd6.below)
  have HB6 := Lib.hid (below_step HB.out hd6.below)
  clear hd6 HH HB
  have k1 : (vl (Tm.un 33 a b t).kind == 33) = true := rfl
  have c0 := HH6.out.cell (j := 0) (c := a) rfl
  have f0 := HH6.out.frozen (j := 0) (by simp)
  go_wp2_with fail
  refine (spec_tmSwap.calls _ _ _ _ _ (swap_f a old name)).mono ?_
  rintro e W7 ⟨rfl, hd7⟩
  have HH7 := Lib.hid (HH6.out.below hd7.below)
  have HB7 := Lib.hid (below_step HB6.out hd7.below)
  clear hd7 c0 f0
  have c0 := HH7.out.cell (j := 0) (c := a) rfl
  have f0 := HH7.out.frozen (j := 0) (by simp)
  go_upto_region 22 with fail
  refine name_world ?_
  intro W8 hW8
  have HH6 : Hid (HeadAt W8 g ([a, 33, b, 46].set 0 (swp a old name))) := by rw [hW8]; exact HH7.out.set _ _
  have HB6 : Hid (Below w.heap.size w W8) := by rw [hW8]; exact HB7.out.setCell HG.out _
  clear hW8 c0 f0 HH7 HB7
  have c0 := HH6.out.cell (j := 2) (c := b) rfl
  have f0 := HH6.out.frozen (j := 2) (by simp)
  go_wp2_with fail
  refine (spec_tmSwap.calls _ _ _ _ _ (swap_f b old name)).mono ?_
  rintro e W7 ⟨rfl, hd7⟩
  have HH7 := Lib.hid (HH6.out.below hd7.below)
  have HB7 := Lib.hid (below_step HB6.out hd7.below)
  clear hd7 c0 f0
  have c0 := HH7.out.cell (j := 2) (c := b) rfl
  have f0 := HH7.out.frozen (j := 2) (by simp)
  go_upto_region 30 with fail
  refine name_world ?_
  intro W8 hW8
  have HH6 : Hid (HeadAt W8 g ([swp a old name, 33, b, 46].set 2 (swp b old name))) := by rw [hW8]; exact HH7.out.set _ _
  have HB6 : Hid (Below w.heap.size w W8) := by rw [hW8]; exact HB7.out.setCell HG.out _
  clear hW8 c0 f0 HH7 HB7
  have hcv : ∀ W : World, HeadAt W g [swp a old name, 33, swp b old name, 46] → (convert 98 9 (.slice (some ⟨g, 0, none⟩) 4 cap)).run Try.prog W = .ok (.string (B [swp a old name, 33, swp b old name, 46])) W := fun W h => h.conv cap
  have hex : (B (Tm.un 33 a b t).text).extract 4 (B (Tm.un 33 a b t).text).size = B t.text := HX.out
  have hz1 : (B [swp a old name, 33, swp b old name, 46]).size = 4 := B_size _
  have hz2 : (B u.text).size = u.text.length := B_size _
  have hb1 : (9223372036854775807 < 4 + u.text.length) = False := eq_false (by have := HLU.out; have := HT.out; omega)
  have hh : HeadAt W8 g [swp a old name, 33, swp b old name, 46] := HH6.out
  go_region_held3 (fun w' => HeadAt w' g [swp a old name, 33, swp b old name, 46]) (first | exact hh | exact hh.keep rfl | exact HeadAt.below (by exact hh.keep rfl) hb0)
    (first | (go_at_call 86; refine (HI.out _).mono ?_; rintro e w9 ⟨rfl, hb0⟩))
  all_goals
    have hb9 : Below w.heap.size w w9 := below_step HB6.out ⟨hb0.os, hb0.tape, hb0.output, hb0.size, hb0.block⟩
    clear hb0
    go_wp2_with fail
    go_ret
    refine ⟨?_, hb9⟩
    rw [B_append]
    rfl
set_option maxHeartbeats 4000000 in
set_option maxRecDepth 100000 in
theorem rn_61 (n : Nat) (ih : RnUpto n) (a b : UInt8) (t : Tm) (old name : UInt8) (w : World) (hs : t.size ≤ n) (hn : n ≤ 299) (hw : Wf nameB (.un 61 a b t)) (hl : (Tm.un 61 a b t).text.length ≤ 1000) (ho : nameB old = true) (hnn : nameB name = true) (hE : Enough t old name) (hf : (Tm.un 61 a b t).fr old = true) (hon : ¬ old = name) :
    Calls Try.prog 86 #[.string (B (Tm.un 61 a b t).text), .int .u8 (vl old), .int .u8 (vl name)] w (RnPost w (Tm.un 61 (swp a old name) (swp b old name) (renS n t old name)).text) := by
  have HS := Lib.hid (RnS.un (hd := [91, a, 61, b, 93]) (name := name) rfl rfl (by simp only [Tm.size]; omega) hw hl ho hf hon)
  have HI := Lib.hid (fun W => ih t old name W hs hw.2 (by simp only [Tm.text, List.length_append] at hl; omega) ho hnn hE)
  have HLU := Lib.hid (renS_wf freshB_name n t old name hnn hw.2).2.2
  have HX : Hid ((B (Tm.un 61 a b t).text).extract 5 (B (Tm.un 61 a b t).text).size = B t.text) := by rw [Hid, B_size, B_extract]; simp [Tm.text]
  have HT : Hid (t.text.length ≤ 1000) := by show _ ≤ _; simp only [Tm.text, List.length_append] at hl; omega
  generalize renS n t old name = u at HI HLU ⊢
  clear hs hn hw ho hnn hE hf hon hl ih
  go_enter Try.func86, Try.ntmps86
  have e1 := HS.out.e1
  go_wp2_with fail
  refine (spec_tmFree.calls 3000 _ _ _ HS.out.fr).mono ?_
  rintro e w1 ⟨rfl, hb1⟩
  go_wp2_with fail
  refine (spec_tmIn.calls 3000 _ _ _ _ HS.out.is).mono ?_
  rintro e w2 ⟨rfl, hd2⟩
  replace hb1 := below_step hb1 hd2.below
  clear hd2
  go_wp2_with fail
  refine (spec_tmHead.calls 3000 _ _ _ HS.out.he).mono ?_
  rintro e w3 ⟨rfl, hd3⟩
  replace hb1 := below_step hb1 hd3.below
  clear hd3
  have hex : (B (Tm.un 61 a b t).text).extract 0 5 = B [91, a, 61, b, 93] := HS.out.ex
  have hsz := HS.out.sz
  have hcv := Lib.run_convert_string_bytes (P := Try.prog) w3 9 98 5 (B [91, a, 61, b, 93]) Try.underlying9 Try.underlying98 Try.underlying5
  have hh4 := head_new w3 5 [91, a, 61, b, 93]
  have hb4 := below_step hb1 (below_bytes w3 5 (B [91, a, 61, b, 93]))
  generalize Lib.bytesWorld w3 5 (B [91, a, 61, b, 93]) = W4 at hcv hh4 hb4
  rw [B_size] at hcv
  generalize grownCap w3 [91, a, 61, b, 93].length 0 5 = cap at hcv
  replace hcv : (convert 9 98 (.string (B [91, a, 61, b, 93]))).run Try.prog w3 = .ok (.slice (some ⟨w3.heap.size, 0, none⟩) 5 cap) W4 := hcv
  replace hsz : (5 : Int) ≤ ((B (Tm.un 61 a b t).text).size : Int) := by have h1 : 5 ≤ (B (Tm.un 61 a b t).text).size := hsz; omega
  have hg : w.heap.size ≤ w3.heap.size := hb1.size
  generalize hgg : w3.heap.size = g at hcv hh4 hg
  clear hb1 hgg
  go_wp2_with fail
  refine (spec_tmBinds.calls 3000 _ _ _ _ HS.out.bi).mono ?_
  rintro e W5 ⟨rfl, hd5⟩
  have HH : Hid (HeadAt W5 g [91, a, 61, b, 93]) := hh4.below hd5.below
  have HB : Hid (Below w.heap.size w W5) := below_step hb4 hd5.below
  have HG := Lib.hid hg
  clear hh4 hb4 hd5 hg hcv hex e1
  go_wp2_with fail
  refine (spec_tmKind.calls 3000 _ _ _ HS.out.kd).mono ?_
  rintro e W6 ⟨rfl, hd6⟩
  have HH6 := Lib.hid (HH.out.below hd6.below)
  have HB6 := Lib.hid (below_step HB.out hd6.below)
  clear hd6 HH HB
  have k0 : (vl (Tm.un 61 a b t).kind == 33) = false := rvf (c := 61) (d := 33) (by decide)
  have k1 : (vl (Tm.un 61 a b t).kind == 61) = true := rfl
  have c0 := HH6.out.cell (j := 1) (c := a) rfl
  have f0 := HH6.out.frozen (j := 1) (by simp)
  go_wp2_with fail
  refine (spec_tmSwap.calls _ _ _ _ _ (swap_f a old name)).mono ?_
  rintro e W7 ⟨rfl, hd7⟩
  have HH7 := Lib.hid (HH6.out.below hd7.below)
  have HB7 := Lib.hid (below_step HB6.out hd7.below)
  clear hd7 c0 f0
  have c0 := HH7.out.cell (j := 1) (c := a) rfl
  have f0 := HH7.out.frozen (j := 1) (by simp)
  go_upto_region 25 with fail
  refine name_world ?_
  intro W8 hW8
  have HH6 : Hid (HeadAt W8 g ([91, a, 61, b, 93].set 1 (swp a old name))) := by rw [hW8]; exact HH7.out.set _ _
  have HB6 : Hid (Below w.heap.size w W8) := by rw [hW8]; exact HB7.out.setCell HG.out _
  clear hW8 c0 f0 HH7 HB7
  have c0 := HH6.out.cell (j := 3) (c := b) rfl
  have f0 := HH6.out.frozen (j := 3) (by simp)
  go_wp2_with fail
  refine (spec_tmSwap.calls _ _ _ _ _ (swap_f b old name)).mono ?_
  rintro e W7 ⟨rfl, hd7⟩
  have HH7 := Lib.hid (HH6.out.below hd7.below)
  have HB7 := Lib.hid (below_step HB6.out hd7.below)
  clear hd7 c0 f0
  have c0 := HH7.out.cell (j := 3) (c := b) rfl
  have f0 := HH7.out.frozen (j := 3) (by simp)
  go_upto_region 30 with fail
  refine name_world ?_
  intro W8 hW8
  have HH6 : Hid (HeadAt W8 g ([91, swp a old name, 61, b, 93].set 3 (swp b old name))) := by rw [hW8]; exact HH7.out.set _ _
  have HB6 : Hid (Below w.heap.size w W8) := by rw [hW8]; exact HB7.out.setCell HG.out _
  clear hW8 c0 f0 HH7 HB7
  have hcv : ∀ W : World, HeadAt W g [91, swp a old name, 61, swp b old name, 93] → (convert 98 9 (.slice (some ⟨g, 0, none⟩) 5 cap)).run Try.prog W = .ok (.string (B [91, swp a old name, 61, swp b old name, 93])) W := fun W h => h.conv cap
  have hex : (B (Tm.un 61 a b t).text).extract 5 (B (Tm.un 61 a b t).text).size = B t.text := HX.out
  have hz1 : (B [91, swp a old name, 61, swp b old name, 93]).size = 5 := B_size _
  have hz2 : (B u.text).size = u.text.length := B_size _
  have hb1 : (9223372036854775807 < 5 + u.text.length) = False := eq_false (by have := HLU.out; have := HT.out; omega)
  have hh : HeadAt W8 g [91, swp a old name, 61, swp b old name, 93] := HH6.out
  go_region_held3 (fun w' => HeadAt w' g [91, swp a old name, 61, swp b old name, 93]) (first | exact hh | exact hh.keep rfl | exact HeadAt.below (by exact hh.keep rfl) hb0)
    (first | (go_at_call 86; refine (HI.out _).mono ?_; rintro e w9 ⟨rfl, hb0⟩))
  all_goals
    have hb9 : Below w.heap.size w w9 := below_step HB6.out ⟨hb0.os, hb0.tape, hb0.output, hb0.size, hb0.block⟩
    clear hb0
    go_wp2_with fail
    go_ret
    refine ⟨?_, hb9⟩
    rw [B_append]
    rfl
set_option maxHeartbeats 4000000 in
set_option maxRecDepth 100000 in
theorem rn_42 (n : Nat) (ih : RnUpto n) (a b : UInt8) (t : Tm) (old name : UInt8) (w : World) (hs : t.size ≤ n) (hn : n ≤ 299) (hw : Wf nameB (.un 42 a b t)) (hl : (Tm.un 42 a b t).text.length ≤ 1000) (ho : nameB old = true) (hnn : nameB name = true) (hE : Enough t old name) (hf : (Tm.un 42 a b t).fr old = true) (hon : ¬ old = name) :
    Calls Try.prog 86 #[.string (B (Tm.un 42 a b t).text), .int .u8 (vl old), .int .u8 (vl name)] w (RnPost w (Tm.un 42 a b (renS n t old name)).text) := by
  have HS := Lib.hid (RnS.un (hd := [42]) (name := name) rfl rfl (by simp only [Tm.size]; omega) hw hl ho hf hon)
  have HI := Lib.hid (fun W => ih t old name W hs hw.2 (by simp only [Tm.text, List.length_append] at hl; omega) ho hnn hE)
  have HLU := Lib.hid (renS_wf freshB_name n t old name hnn hw.2).2.2
  have HX : Hid ((B (Tm.un 42 a b t).text).extract 1 (B (Tm.un 42 a b t).text).size = B t.text) := by rw [Hid, B_size, B_extract]; simp [Tm.text]
  have HT : Hid (t.text.length ≤ 1000) := by show _ ≤ _; simp only [Tm.text, List.length_append] at hl; omega
  generalize renS n t old name = u at HI HLU ⊢
  clear hs hn hw ho hnn hE hf hon hl ih
  go_enter Try.func86, Try.ntmps86
  have e1 := HS.out.e1
  go_wp2_with fail
  refine (spec_tmFree.calls 3000 _ _ _ HS.out.fr).mono ?_
  rintro e w1 ⟨rfl, hb1⟩
  go_wp2_with fail
  refine (spec_tmIn.calls 3000 _ _ _ _ HS.out.is).mono ?_
  rintro e w2 ⟨rfl, hd2⟩
  replace hb1 := below_step hb1 hd2.below
  clear hd2
  go_wp2_with fail
  refine (spec_tmHead.calls 3000 _ _ _ HS.out.he).mono ?_
  rintro e w3 ⟨rfl, hd3⟩
  replace hb1 := below_step hb1 hd3.below
  clear hd3
  have hex : (B (Tm.un 42 a b t).text).extract 0 1 = B [42] := HS.out.ex
  have hsz := HS.out.sz
  have hcv := Lib.run_convert_string_bytes (P := Try.prog) w3 9 98 5 (B [42]) Try.underlying9 Try.underlying98 Try.underlying5
  have hh4 := head_new w3 5 [42]
  have hb4 := below_step hb1 (below_bytes w3 5 (B [42]))
  generalize Lib.bytesWorld w3 5 (B [42]) = W4 at hcv hh4 hb4
  rw [B_size] at hcv
  generalize grownCap w3 [42].length 0 5 = cap at hcv
  replace hcv : (convert 9 98 (.string (B [42]))).run Try.prog w3 = .ok (.slice (some ⟨w3.heap.size, 0, none⟩) 1 cap) W4 := hcv
  replace hsz : (1 : Int) ≤ ((B (Tm.un 42 a b t).text).size : Int) := by have h1 : 1 ≤ (B (Tm.un 42 a b t).text).size := hsz; omega
  have hg : w.heap.size ≤ w3.heap.size := hb1.size
  generalize hgg : w3.heap.size = g at hcv hh4 hg
  clear hb1 hgg
  go_wp2_with fail
  refine (spec_tmBinds.calls 3000 _ _ _ _ HS.out.bi).mono ?_
  rintro e W5 ⟨rfl, hd5⟩
  have HH : Hid (HeadAt W5 g [42]) := hh4.below hd5.below
  have HB : Hid (Below w.heap.size w W5) := below_step hb4 hd5.below
  have HG := Lib.hid hg
  clear hh4 hb4 hd5 hg hcv hex e1
  go_wp2_with fail
  refine (spec_tmKind.calls 3000 _ _ _ HS.out.kd).mono ?_
  rintro e W6 ⟨rfl, hd6⟩
  have HH6 := Lib.hid (HH.out.below hd6.below)
  have HB6 := Lib.hid (below_step HB.out hd6.below)
  clear hd6 HH HB
  have k0 : (vl (Tm.un 42 a b t).kind == 33) = false := rvf (c := 42) (d := 33) (by decide)
  have k1 : (vl (Tm.un 42 a b t).kind == 61) = false := rvf (c := 42) (d := 61) (by decide)
  have k2 : (vl (Tm.un 42 a b t).kind == 43) = false := rvf (c := 42) (d := 43) (by decide)
  have k3 : (vl (Tm.un 42 a b t).kind == 38) = false := rvf (c := 42) (d := 38) (by decide)
  obtain ⟨W8, hW8⟩ : ∃ W, W = W6 := ⟨_, rfl⟩
  rw [← hW8] at HH6 HB6 ⊢
  clear hW8
  go_upto_region 30 with fail
  have hcv : ∀ W : World, HeadAt W g [42] → (convert 98 9 (.slice (some ⟨g, 0, none⟩) 1 cap)).run Try.prog W = .ok (.string (B [42])) W := fun W h => h.conv cap
  have hex : (B (Tm.un 42 a b t).text).extract 1 (B (Tm.un 42 a b t).text).size = B t.text := HX.out
  have hz1 : (B [42]).size = 1 := B_size _
  have hz2 : (B u.text).size = u.text.length := B_size _
  have hb1 : (9223372036854775807 < 1 + u.text.length) = False := eq_false (by have := HLU.out; have := HT.out; omega)
  have hh : HeadAt W8 g [42] := HH6.out
  go_region_held3 (fun w' => HeadAt w' g [42]) (first | exact hh | exact hh.keep rfl | exact HeadAt.below (by exact hh.keep rfl) hb0)
    (first | (go_at_call 86; refine (HI.out _).mono ?_; rintro e w9 ⟨rfl, hb0⟩))
  all_goals
    have hb9 : Below w.heap.size w w9 := below_step HB6.out ⟨hb0.os, hb0.tape, hb0.output, hb0.size, hb0.block⟩
    clear hb0
    go_wp2_with fail
    go_ret
    refine ⟨?_, hb9⟩
    rw [B_append]
    rfl
set_option maxHeartbeats 4000000 in
set_option maxRecDepth 100000 in
theorem rn_126 (n : Nat) (ih : RnUpto n) (a b : UInt8) (t : Tm) (old name : UInt8) (w : World) (hs : t.size ≤ n) (hn : n ≤ 299) (hw : Wf nameB (.un 126 a b t)) (hl : (Tm.un 126 a b t).text.length ≤ 1000) (ho : nameB old = true) (hnn : nameB name = true) (hE : Enough t old name) (hf : (Tm.un 126 a b t).fr old = true) (hon : ¬ old = name) :
    Calls Try.prog 86 #[.string (B (Tm.un 126 a b t).text), .int .u8 (vl old), .int .u8 (vl name)] w (RnPost w (Tm.un 126 a b (renS n t old name)).text) := by
  have HS := Lib.hid (RnS.un (hd := [126, 46]) (name := name) rfl rfl (by simp only [Tm.size]; omega) hw hl ho hf hon)
  have HI := Lib.hid (fun W => ih t old name W hs hw.2 (by simp only [Tm.text, List.length_append] at hl; omega) ho hnn hE)
  have HLU := Lib.hid (renS_wf freshB_name n t old name hnn hw.2).2.2
  have HX : Hid ((B (Tm.un 126 a b t).text).extract 2 (B (Tm.un 126 a b t).text).size = B t.text) := by rw [Hid, B_size, B_extract]; simp [Tm.text]
  have HT : Hid (t.text.length ≤ 1000) := by show _ ≤ _; simp only [Tm.text, List.length_append] at hl; omega
  generalize renS n t old name = u at HI HLU ⊢
  clear hs hn hw ho hnn hE hf hon hl ih
  go_enter Try.func86, Try.ntmps86
  have e1 := HS.out.e1
  go_wp2_with fail
  refine (spec_tmFree.calls 3000 _ _ _ HS.out.fr).mono ?_
  rintro e w1 ⟨rfl, hb1⟩
  go_wp2_with fail
  refine (spec_tmIn.calls 3000 _ _ _ _ HS.out.is).mono ?_
  rintro e w2 ⟨rfl, hd2⟩
  replace hb1 := below_step hb1 hd2.below
  clear hd2
  go_wp2_with fail
  refine (spec_tmHead.calls 3000 _ _ _ HS.out.he).mono ?_
  rintro e w3 ⟨rfl, hd3⟩
  replace hb1 := below_step hb1 hd3.below
  clear hd3
  have hex : (B (Tm.un 126 a b t).text).extract 0 2 = B [126, 46] := HS.out.ex
  have hsz := HS.out.sz
  have hcv := Lib.run_convert_string_bytes (P := Try.prog) w3 9 98 5 (B [126, 46]) Try.underlying9 Try.underlying98 Try.underlying5
  have hh4 := head_new w3 5 [126, 46]
  have hb4 := below_step hb1 (below_bytes w3 5 (B [126, 46]))
  generalize Lib.bytesWorld w3 5 (B [126, 46]) = W4 at hcv hh4 hb4
  rw [B_size] at hcv
  generalize grownCap w3 [126, 46].length 0 5 = cap at hcv
  replace hcv : (convert 9 98 (.string (B [126, 46]))).run Try.prog w3 = .ok (.slice (some ⟨w3.heap.size, 0, none⟩) 2 cap) W4 := hcv
  replace hsz : (2 : Int) ≤ ((B (Tm.un 126 a b t).text).size : Int) := by have h1 : 2 ≤ (B (Tm.un 126 a b t).text).size := hsz; omega
  have hg : w.heap.size ≤ w3.heap.size := hb1.size
  generalize hgg : w3.heap.size = g at hcv hh4 hg
  clear hb1 hgg
  go_wp2_with fail
  refine (spec_tmBinds.calls 3000 _ _ _ _ HS.out.bi).mono ?_
  rintro e W5 ⟨rfl, hd5⟩
  have HH : Hid (HeadAt W5 g [126, 46]) := hh4.below hd5.below
  have HB : Hid (Below w.heap.size w W5) := below_step hb4 hd5.below
  have HG := Lib.hid hg
  clear hh4 hb4 hd5 hg hcv hex e1
  go_wp2_with fail
  refine (spec_tmKind.calls 3000 _ _ _ HS.out.kd).mono ?_
  rintro e W6 ⟨rfl, hd6⟩
  have HH6 := Lib.hid (HH.out.below hd6.below)
  have HB6 := Lib.hid (below_step HB.out hd6.below)
  clear hd6 HH HB
  have k0 : (vl (Tm.un 126 a b t).kind == 33) = false := rvf (c := 126) (d := 33) (by decide)
  have k1 : (vl (Tm.un 126 a b t).kind == 61) = false := rvf (c := 126) (d := 61) (by decide)
  have k2 : (vl (Tm.un 126 a b t).kind == 43) = false := rvf (c := 126) (d := 43) (by decide)
  have k3 : (vl (Tm.un 126 a b t).kind == 38) = false := rvf (c := 126) (d := 38) (by decide)
  obtain ⟨W8, hW8⟩ : ∃ W, W = W6 := ⟨_, rfl⟩
  rw [← hW8] at HH6 HB6 ⊢
  clear hW8
  go_upto_region 30 with fail
  have hcv : ∀ W : World, HeadAt W g [126, 46] → (convert 98 9 (.slice (some ⟨g, 0, none⟩) 2 cap)).run Try.prog W = .ok (.string (B [126, 46])) W := fun W h => h.conv cap
  have hex : (B (Tm.un 126 a b t).text).extract 2 (B (Tm.un 126 a b t).text).size = B t.text := HX.out
  have hz1 : (B [126, 46]).size = 2 := B_size _
  have hz2 : (B u.text).size = u.text.length := B_size _
  have hb1 : (9223372036854775807 < 2 + u.text.length) = False := eq_false (by have := HLU.out; have := HT.out; omega)
  have hh : HeadAt W8 g [126, 46] := HH6.out
  go_region_held3 (fun w' => HeadAt w' g [126, 46]) (first | exact hh | exact hh.keep rfl | exact HeadAt.below (by exact hh.keep rfl) hb0)
    (first | (go_at_call 86; refine (HI.out _).mono ?_; rintro e w9 ⟨rfl, hb0⟩))
  all_goals
    have hb9 : Below w.heap.size w w9 := below_step HB6.out ⟨hb0.os, hb0.tape, hb0.output, hb0.size, hb0.block⟩
    clear hb0
    go_wp2_with fail
    go_ret
    refine ⟨?_, hb9⟩
    rw [B_append]
    rfl

end Go.Proofs.Ytfcadppidgkoaaa.PFnExactRenameFree
namespace Go.Proofs.Ytfcadppidgkoaaa.PFnExactRenameFree
open Go.RowKit Go.Proofs.YtfcadppidgkoaaaW.PrintWords Go.Proofs.YtfcadppidgkoaaaW.PrintLast Go.Proofs.YtfcadppidgkoaaaW.PrintMore
set_option linter.unusedVariables false
set_option linter.unusedSimpArgs false

theorem RnS.bin {k a b : UInt8} {t u : Tm} {old name : UInt8} (hs : (Tm.bin k a b t u).size ≤ 300) (hw : Wf nameB (.bin k a b t u)) (hl : (Tm.bin k a b t u).text.length ≤ 1000) (ho : nameB old = true) (hf : (Tm.bin k a b t u).fr old = true) (hon : ¬ old = name) :
    RnS (.bin k a b t u) old name [40] 0 false := by
  have hk := kind_bin hw
  refine ⟨frees_name _ 3000 hw (by omega) (by omega), ?_, ?_, ?_, ?_, ?_, ?_, rvf hon⟩
  · have := in_name (Tm.bin k a b t u).fr ho (k := 3000) (by omega)
    rwa [hf] at this
  · have := head_text (k := 3000) hw (by omega) (by omega)
    rw [if_pos (show (Tm.bin k a b t u).kind = 43 ∨ (Tm.bin k a b t u).kind = 38 from hk)] at this
    rw [this]; rfl
  · have := binds_text (k := 3000) hw (by omega) (by omega)
    rw [this]
    rw [if_neg (show ¬ ((Tm.bin k a b t u).kind = 63 ∨ (Tm.bin k a b t u).kind = 35) from by simp only [Tm.kind]; rcases hk with rfl | rfl <;> decide)]
  · exact kind_text (k := 3000) hw (by omega) (by omega)
  · rw [B_extract]; simp [Tm.text]
  · rw [B_size]; simp [Tm.text]
theorem with_row (W : World) (e : TypeId) (s1 s2 : ByteArray) : Kd.C Kd.string (W.alloc (.cells #[.string s1, .string s2] e)) (some ⟨W.heap.size, 0, none⟩) 2 [s1, s2] := by
  have h : Kd.R Kd.string e (W.alloc (.cells #[.string s1, .string s2] e)) 0 (fun _ => True) (.slice (some ⟨W.heap.size, 0, none⟩) 2 2) [s1, s2] := by
    refine Kd.R_of_own ⟨by simp [encs], .inr ⟨W.heap.size, 2, #[.string s1, .string s2], rfl, Nat.zero_le _, heap_alloc_new W _, Nat.le_refl _, by unfold maxLen; omega, by simp, ?_⟩⟩ (fun _ _ => trivial)
    rfl
  exact (Kd.R_reads' h).2.2
set_option maxHeartbeats 4000000 in
set_option maxRecDepth 100000 in
theorem rn_bin (n : Nat) (ih : RnUpto n) (k a b : UInt8) (t u : Tm) (old name : UInt8) (w : World) (hs : t.size + u.size ≤ n) (hn : n ≤ 299) (hw : Wf nameB (.bin k a b t u)) (hl : (Tm.bin k a b t u).text.length ≤ 1000) (ho : nameB old = true) (hnn : nameB name = true) (hE : Enough t old name) (hE2 : Enough u old name) (hf : (Tm.bin k a b t u).fr old = true) (hon : ¬ old = name) :
    Calls Try.prog 86 #[.string (B (Tm.bin k a b t u).text), .int .u8 (vl old), .int .u8 (vl name)] w (RnPost w (Tm.bin k a b (renS n t old name) (renS n u old name)).text) := by
  have hk := kind_bin hw
  have HS := Lib.hid (RnS.bin (name := name) (by simp only [Tm.size]; omega) hw hl ho hf hon)
  have hl' := hl
  simp only [Tm.text, List.length_cons, List.length_append] at hl'
  have hw1 := hw.2.2.2.1
  have hw2 := hw.2.2.2.2
  have HI1 := Lib.hid (fun W => ih t old name W (by omega) hw1 (by omega) ho hnn hE)
  have HI2 := Lib.hid (fun W => ih u old name W (by omega) hw2 (by omega) ho hnn hE2)
  have h1 := (renS_wf freshB_name n t old name hnn hw1).2.2
  have h2 := (renS_wf freshB_name n u old name hnn hw2).2.2
  have HWI := Lib.hid (with_bin (f := 3000) (u := renS n t old name) (v := renS n u old name) hw (by omega) (by omega) (by omega) (by simp only [Tm.size]; omega))
  have HP : Hid (spec_tmParts.f 3000 (B (Tm.bin k a b t u).text) = some [B t.text, B u.text]) := parts_text (k := 3000) hw (by omega) (by simp only [Tm.size]; omega)
  have HI : Hid (∀ (i : Bool) (s : ByteArray) (W : World), s = cond i (B t.text) (B u.text) → Calls Try.prog 86 #[.string s, .int .u8 (vl old), .int .u8 (vl name)] W fun e w' => ∃ r, r = cond i (B (renS n t old name).text) (B (renS n u old name).text) ∧ e = .returned (.string r) ∧ Below W.heap.size W w') := by
    intro i s W h
    subst h
    cases i
    · refine (HI2.out W).mono ?_
      rintro e w' ⟨rfl, hb⟩
      exact ⟨_, rfl, rfl, hb⟩
    · refine (HI1.out W).mono ?_
      rintro e w' ⟨rfl, hb⟩
      exact ⟨_, rfl, rfl, hb⟩
  generalize renS n t old name = t1 at HI HWI ⊢
  generalize renS n u old name = u1 at HI HWI ⊢
  clear HI1 HI2 hs hn hw ho hnn hE hE2 hf hon hl hl' ih hw1 hw2 h1 h2
  have k0 : (vl (Tm.bin k a b t u).kind == 33) = false := by simp only [Tm.kind]; rcases hk with rfl | rfl <;> decide
  have k1 : (vl (Tm.bin k a b t u).kind == 61) = false := by simp only [Tm.kind]; rcases hk with rfl | rfl <;> decide
  have hc : (vl (Tm.bin k a b t u).kind == 43) = true ∨ (vl (Tm.bin k a b t u).kind == 43) = false ∧ (vl (Tm.bin k a b t u).kind == 38) = true := by
    simp only [Tm.kind]
    rcases hk with rfl | rfl
    · exact .inl rfl
    · exact .inr ⟨rfl, rfl⟩
  clear hk
  rcases hc with k2 | ⟨k2, k3⟩
  next =>
    go_enter Try.func86, Try.ntmps86
    have e1 := HS.out.e1
    go_wp2_with fail
    refine (spec_tmFree.calls 3000 _ _ _ HS.out.fr).mono ?_
    rintro e w1 ⟨rfl, hb1⟩
    go_wp2_with fail
    refine (spec_tmIn.calls 3000 _ _ _ _ HS.out.is).mono ?_
    rintro e w2 ⟨rfl, hd2⟩
    replace hb1 := below_step hb1 hd2.below
    clear hd2
    go_wp2_with fail
    refine (spec_tmHead.calls 3000 _ _ _ HS.out.he).mono ?_
    rintro e w3 ⟨rfl, hd3⟩
    replace hb1 := below_step hb1 hd3.below
    clear hd3
    have hex : (B (Tm.bin k a b t u).text).extract 0 1 = B [40] := HS.out.ex
    have hsz := HS.out.sz
    have hcv := Lib.run_convert_string_bytes (P := Try.prog) w3 9 98 5 (B [40]) Try.underlying9 Try.underlying98 Try.underlying5
    have hh4 := head_new w3 5 [40]
    have hb4 := below_step hb1 (below_bytes w3 5 (B [40]))
    generalize Lib.bytesWorld w3 5 (B [40]) = W4 at hcv hh4 hb4
    rw [B_size] at hcv
    generalize grownCap w3 [40].length 0 5 = cap at hcv
    replace hcv : (convert 9 98 (.string (B [40]))).run Try.prog w3 = .ok (.slice (some ⟨w3.heap.size, 0, none⟩) 1 cap) W4 := hcv
    replace hsz : (1 : Int) ≤ ((B (Tm.bin k a b t u).text).size : Int) := by have h1 : 1 ≤ (B (Tm.bin k a b t u).text).size := hsz; omega
    have hg : w.heap.size ≤ w3.heap.size := hb1.size
    generalize hgg : w3.heap.size = g at hcv hh4 hg
    clear hb1 hgg
    go_wp2_with fail
    refine (spec_tmBinds.calls 3000 _ _ _ _ HS.out.bi).mono ?_
    rintro e W5 ⟨rfl, hd5⟩
    have HH : Hid (HeadAt W5 g [40]) := hh4.below hd5.below
    have HB : Hid (Below w.heap.size w W5) := below_step hb4 hd5.below
    have HG := Lib.hid hg
    clear hh4 hb4 hd5 hg hcv hex e1
    go_wp2_with fail
    refine (spec_tmKind.calls 3000 _ _ _ HS.out.kd).mono ?_
    rintro e W6 ⟨rfl, hd6⟩
    have HB6 := Lib.hid (below_step HB.out hd6.below)
    clear hd6 HB HH
    go_wp2_with fail
    refine (spec_tmParts.calls 3000 _ _ _ HP.out).mono ?_
    rintro e W8 ⟨v, rfl, R, hb8⟩
    have HB8 := Lib.hid (below_step HB6.out hb8)
    obtain ⟨gp, cp, rfl, _, _, _⟩ := Kd.R_form R (by simp)
    have p0 := (Kd.R_cell ByteArray.empty R 0 (by omega) (by simp)).1
    have p1 := (Kd.R_cell ByteArray.empty R 1 (by omega) (by simp)).1
    replace p0 : W8.cell? ⟨gp, 0, none⟩ = some (.string (B t.text)) := p0
    replace p1 : W8.cell? ⟨gp, 1, none⟩ = some (.string (B u.text)) := p1
    have hgl := World.block_lt_of_cell? W8 _ p0
    replace hgl : gp < W8.heap.size := hgl
    clear R hb8 HB6
    go_upto_region 29 with fail
    go_region_held3 (fun w' => w'.cell? ⟨gp, 0, none⟩ = some (.string (B t.text)) ∧ w'.cell? ⟨gp, 1, none⟩ = some (.string (B u.text))) (first | exact ⟨p0, p1⟩ | exact ⟨(hb13.cell hgl).trans p0, (hb13.cell hgl).trans p1⟩ | exact ⟨(hb12.cell hgl).trans p0, (hb12.cell hgl).trans p1⟩ | exact ⟨((below_alloc hb12 _).cell hgl).trans p0, ((below_alloc hb12 _).cell hgl).trans p1⟩ | exact ⟨(hb9.cell hgl).trans p0, (hb9.cell hgl).trans p1⟩)
      (first | (go_at_call 121; refine (spec_tmWith.calls 3000 _ _ _ _ _ _ (with_row _ _ _ _) (Nat.le_refl _) HWI.out).mono ?_; rintro e w11 ⟨rfl, hd11⟩; have hb13 := below_step (below_alloc hb12 _) hd11.below) | (go_at_call 86; refine (HI.out true _ _ ?_).mono ?_; (exact rfl); rintro e w9 ⟨r, hr, rfl, hb8⟩; (replace hr : r = B t1.text := hr); subst hr; have hb9 : Below W8.heap.size W8 w9 := ⟨hb8.os, hb8.tape, hb8.output, hb8.size, hb8.block⟩) | (go_at_call 86; refine (HI.out false _ _ ?_).mono ?_; (exact rfl); rintro e w10 ⟨r, hr, rfl, hb10⟩; (replace hr : r = B u1.text := hr); subst hr; have hb12 := below_step hb9 hb10))
    all_goals
      have HB := Lib.hid (below_step HB8.out hb13)
      clear hb13
      go_wp2_with fail
      go_ret
      exact ⟨rfl, HB.out⟩
  next =>
    go_enter Try.func86, Try.ntmps86
    have e1 := HS.out.e1
    go_wp2_with fail
    refine (spec_tmFree.calls 3000 _ _ _ HS.out.fr).mono ?_
    rintro e w1 ⟨rfl, hb1⟩
    go_wp2_with fail
    refine (spec_tmIn.calls 3000 _ _ _ _ HS.out.is).mono ?_
    rintro e w2 ⟨rfl, hd2⟩
    replace hb1 := below_step hb1 hd2.below
    clear hd2
    go_wp2_with fail
    refine (spec_tmHead.calls 3000 _ _ _ HS.out.he).mono ?_
    rintro e w3 ⟨rfl, hd3⟩
    replace hb1 := below_step hb1 hd3.below
    clear hd3
    have hex : (B (Tm.bin k a b t u).text).extract 0 1 = B [40] := HS.out.ex
    have hsz := HS.out.sz
    have hcv := Lib.run_convert_string_bytes (P := Try.prog) w3 9 98 5 (B [40]) Try.underlying9 Try.underlying98 Try.underlying5
    have hh4 := head_new w3 5 [40]
    have hb4 := below_step hb1 (below_bytes w3 5 (B [40]))
    generalize Lib.bytesWorld w3 5 (B [40]) = W4 at hcv hh4 hb4
    rw [B_size] at hcv
    generalize grownCap w3 [40].length 0 5 = cap at hcv
    replace hcv : (convert 9 98 (.string (B [40]))).run Try.prog w3 = .ok (.slice (some ⟨w3.heap.size, 0, none⟩) 1 cap) W4 := hcv
    replace hsz : (1 : Int) ≤ ((B (Tm.bin k a b t u).text).size : Int) := by have h1 : 1 ≤ (B (Tm.bin k a b t u).text).size := hsz; omega
    have hg : w.heap.size ≤ w3.heap.size := hb1.size
    generalize hgg : w3.heap.size = g at hcv hh4 hg
    clear hb1 hgg
    go_wp2_with fail
    refine (spec_tmBinds.calls 3000 _ _ _ _ HS.out.bi).mono ?_
    rintro e W5 ⟨rfl, hd5⟩
    have HH : Hid (HeadAt W5 g [40]) := hh4.below hd5.below
    have HB : Hid (Below w.heap.size w W5) := below_step hb4 hd5.below
    have HG := Lib.hid hg
    clear hh4 hb4 hd5 hg hcv hex e1
    go_wp2_with fail
    refine (spec_tmKind.calls 3000 _ _ _ HS.out.kd).mono ?_
    rintro e W6 ⟨rfl, hd6⟩
    have HB6 := Lib.hid (below_step HB.out hd6.below)
    clear hd6 HB HH
    go_wp2_with fail
    refine (spec_tmParts.calls 3000 _ _ _ HP.out).mono ?_
    rintro e W8 ⟨v, rfl, R, hb8⟩
    have HB8 := Lib.hid (below_step HB6.out hb8)
    obtain ⟨gp, cp, rfl, _, _, _⟩ := Kd.R_form R (by simp)
    have p0 := (Kd.R_cell ByteArray.empty R 0 (by omega) (by simp)).1
    have p1 := (Kd.R_cell ByteArray.empty R 1 (by omega) (by simp)).1
    replace p0 : W8.cell? ⟨gp, 0, none⟩ = some (.string (B t.text)) := p0
    replace p1 : W8.cell? ⟨gp, 1, none⟩ = some (.string (B u.text)) := p1
    have hgl := World.block_lt_of_cell? W8 _ p0
    replace hgl : gp < W8.heap.size := hgl
    clear R hb8 HB6
    go_upto_region 29 with fail
    go_region_held3 (fun w' => w'.cell? ⟨gp, 0, none⟩ = some (.string (B t.text)) ∧ w'.cell? ⟨gp, 1, none⟩ = some (.string (B u.text))) (first | exact ⟨p0, p1⟩ | exact ⟨(hb13.cell hgl).trans p0, (hb13.cell hgl).trans p1⟩ | exact ⟨(hb12.cell hgl).trans p0, (hb12.cell hgl).trans p1⟩ | exact ⟨((below_alloc hb12 _).cell hgl).trans p0, ((below_alloc hb12 _).cell hgl).trans p1⟩ | exact ⟨(hb9.cell hgl).trans p0, (hb9.cell hgl).trans p1⟩)
      (first | (go_at_call 121; refine (spec_tmWith.calls 3000 _ _ _ _ _ _ (with_row _ _ _ _) (Nat.le_refl _) HWI.out).mono ?_; rintro e w11 ⟨rfl, hd11⟩; have hb13 := below_step (below_alloc hb12 _) hd11.below) | (go_at_call 86; refine (HI.out true _ _ ?_).mono ?_; (exact rfl); rintro e w9 ⟨r, hr, rfl, hb8⟩; (replace hr : r = B t1.text := hr); subst hr; have hb9 : Below W8.heap.size W8 w9 := ⟨hb8.os, hb8.tape, hb8.output, hb8.size, hb8.block⟩) | (go_at_call 86; refine (HI.out false _ _ ?_).mono ?_; (exact rfl); rintro e w10 ⟨r, hr, rfl, hb10⟩; (replace hr : r = B u1.text := hr); subst hr; have hb12 := below_step hb9 hb10))
    all_goals
      have HB := Lib.hid (below_step HB8.out hb13)
      clear hb13
      go_wp2_with fail
      go_ret
      exact ⟨rfl, HB.out⟩

end Go.Proofs.Ytfcadppidgkoaaa.PFnExactRenameFree
namespace Go.Proofs.Ytfcadppidgkoaaa.PFnExactRenameFree
open Go.RowKit Go.Proofs.YtfcadppidgkoaaaW.PrintWords Go.Proofs.YtfcadppidgkoaaaW.PrintLast Go.Proofs.YtfcadppidgkoaaaW.PrintMore
set_option linter.unusedVariables false
set_option linter.unusedSimpArgs false

theorem two_conv (w : World) (g : Nat) (a b : UInt8) (h0 : w.cell? ⟨g, 0, none⟩ = some (.int .u8 (vl a))) (h1 : w.cell? ⟨g, 1, none⟩ = some (.int .u8 (vl b))) : (convert 98 9 (.slice (some ⟨g, 0, none⟩) 2 2)).run Try.prog w = .ok (.string (B [a, b])) w :=
  run_convert_bytes_back w 98 9 5 ⟨g, 0, none⟩ 2 [a, b] Try.underlying98 Try.underlying5 Try.underlying9 fun j hj => by
    rw [add_plain]
    have hj' : j < 2 := hj
    rcases (by omega : j = 0 ∨ j = 1) with rfl | rfl
    · exact h0
    · exact h1
theorem two_cells {w w1 : World} {x0 x1 : Value} {e : TypeId} (hb : Below (w.alloc (.cells #[x0, x1] e)).heap.size (w.alloc (.cells #[x0, x1] e)) w1) :
    w1.cell? ⟨w.heap.size, 0, none⟩ = some x0 ∧ w1.cell? ⟨w.heap.size, 1, none⟩ = some x1 := by
  have h : w1.heap[w.heap.size]? = some (.cells #[x0, x1] e (0, 0)) := (hb.block w.heap.size (by simp)).trans (heap_alloc_new w _)
  exact ⟨blk_cell h 0, blk_cell h 1⟩
theorem two_cellsd {w w1 : World} {x0 x1 : Value} {e : TypeId} (hb : Below ((w.alloc (.cells #[x0, x1] e)).drew).heap.size (w.alloc (.cells #[x0, x1] e)).drew w1) :
    w1.cell? ⟨w.heap.size, 0, none⟩ = some x0 ∧ w1.cell? ⟨w.heap.size, 1, none⟩ = some x1 :=
  two_cells (e := e) ⟨hb.os, hb.tape, hb.output, hb.size, hb.block⟩
set_option maxHeartbeats 2000000 in
set_option maxRecDepth 100000 in
theorem rn_63_1 (n : Nat) (ih : RnUpto n) (a b : UInt8) (t : Tm) (old name : UInt8) (w : World) (hs : t.size ≤ n) (hn : n ≤ 299) (hw : Wf nameB (.un 63 a b t)) (hl : (Tm.un 63 a b t).text.length ≤ 1000) (ho : nameB old = true) (hnn : nameB name = true) (hE : Enough (.un 63 a b t) old name) (hf : (Tm.un 63 a b t).fr old = true) (hon : ¬ old = name) (hbo : b = old) :
    Calls Try.prog 86 #[.string (B (Tm.un 63 a b t).text), .int .u8 (vl old), .int .u8 (vl name)] w (RnPost w (Tm.un 63 (swp a old name) b t).text) := by
  have HS := Lib.hid (RnS.un (hd := [a, 63, b, 46]) (name := name) rfl rfl (by simp only [Tm.size]; omega) hw hl ho hf hon)
  have HX : Hid ((B (Tm.un 63 a b t).text).extract 4 (B (Tm.un 63 a b t).text).size = B t.text) := by rw [Hid, B_size, B_extract]; simp [Tm.text]
  have htl : t.text.length ≤ 1000 := by simp only [Tm.text, List.length_append] at hl; omega
  have hen := hE.un
  have HT : Hid (t.text.length ≤ 1000) := htl
  have e2 : (vl b == vl name) = false := rvf (by rw [hbo]; exact hon)
  have e3 : (vl b != vl old) = false := by rw [bne, rvt hbo]; rfl
  clear hs hn hw ho hnn hE hen hf hon hl ih hbo htl
  go_enter Try.func86, Try.ntmps86
  have e1 := HS.out.e1
  go_wp2_with fail
  refine (spec_tmFree.calls 3000 _ _ _ HS.out.fr).mono ?_
  rintro e w1 ⟨rfl, hb1⟩
  go_wp2_with fail
  refine (spec_tmIn.calls 3000 _ _ _ _ HS.out.is).mono ?_
  rintro e w2 ⟨rfl, hd2⟩
  replace hb1 := below_step hb1 hd2.below
  clear hd2
  go_wp2_with fail
  refine (spec_tmHead.calls 3000 _ _ _ HS.out.he).mono ?_
  rintro e w3 ⟨rfl, hd3⟩
  replace hb1 := below_step hb1 hd3.below
  clear hd3
  have hex : (B (Tm.un 63 a b t).text).extract 0 4 = B [a, 63, b, 46] := HS.out.ex
  have hsz := HS.out.sz
  have hcv := Lib.run_convert_string_bytes (P := Try.prog) w3 9 98 5 (B [a, 63, b, 46]) Try.underlying9 Try.underlying98 Try.underlying5
  have hh4 := head_new w3 5 [a, 63, b, 46]
  have hb4 := below_step hb1 (below_bytes w3 5 (B [a, 63, b, 46]))
  generalize Lib.bytesWorld w3 5 (B [a, 63, b, 46]) = W4 at hcv hh4 hb4
  rw [B_size] at hcv
  generalize grownCap w3 [a, 63, b, 46].length 0 5 = cap at hcv
  replace hcv : (convert 9 98 (.string (B [a, 63, b, 46]))).run Try.prog w3 = .ok (.slice (some ⟨w3.heap.size, 0, none⟩) 4 cap) W4 := hcv
  replace hsz : (4 : Int) ≤ ((B (Tm.un 63 a b t).text).size : Int) := by have h1 : 4 ≤ (B (Tm.un 63 a b t).text).size := hsz; omega
  have hg : w.heap.size ≤ w3.heap.size := hb1.size
  generalize hgg : w3.heap.size = g at hcv hh4 hg
  clear hb1 hgg
  go_wp2_with fail
  refine (spec_tmBinds.calls 3000 _ _ _ _ HS.out.bi).mono ?_
  rintro e W5 ⟨rfl, hd5⟩
  have HH : Hid (HeadAt W5 g [a, 63, b, 46]) := hh4.below hd5.below
  have HB : Hid (Below w.heap.size w W5) := below_step hb4 hd5.below
  have HG := Lib.hid hg
  clear hh4 hb4 hd5 hg hcv hex e1
  have hex : (B (Tm.un 63 a b t).text).extract 4 (B (Tm.un 63 a b t).text).size = B t.text := HX.out
  go_wp2_with fail
  refine (spec_tmKind.calls 3000 _ _ _ HS.out.kd).mono ?_
  rintro e W6 ⟨rfl, hd6⟩
  have HH6 := Lib.hid (HH.out.below hd6.below)
  have HB6 := Lib.hid (below_step HB.out hd6.below)
  clear hd6 HH HB
  have k1 : (vl (Tm.un 63 a b t).kind == 63) = true := rfl
  have c0 := HH6.out.cell (j := 0) (c := a) rfl
  have f0 := HH6.out.frozen (j := 0) (by simp)
  go_wp2_with fail
  refine (spec_tmSwap.calls _ _ _ _ _ (swap_f a old name)).mono ?_
  rintro e W7 ⟨rfl, hd7⟩
  have HH7 := Lib.hid (HH6.out.below hd7.below)
  have HB7 := Lib.hid (below_step HB6.out hd7.below)
  clear hd7 c0 f0
  have c0 := HH7.out.cell (j := 0) (c := a) rfl
  have f0 := HH7.out.frozen (j := 0) (by simp)
  go_upto_region 16 with fail
  refine name_world ?_
  intro W8 hW8
  have HH6 : Hid (HeadAt W8 g ([a, 63, b, 46].set 0 (swp a old name))) := by rw [hW8]; exact HH7.out.set _ _
  have HB6 : Hid (Below w.heap.size w W8) := by rw [hW8]; exact HB7.out.setCell HG.out _
  clear hW8 c0 f0 HH7 HB7
  have c0 := HH6.out.cell (j := 2) (c := b) rfl
  have f0 := HH6.out.frozen (j := 2) (by simp)
  go_upto_region 18 with fail
  refine name_world ?_
  intro W9 hW9
  have HH9 : Hid (HeadAt W9 g [swp a old name, 63, b, 46]) := by rw [hW9]; exact HH6.out.set 2 _
  have HB9 : Hid (Below w.heap.size w W9) := by rw [hW9]; exact HB6.out.setCell HG.out _
  clear hW9 c0 f0 HH6 HB6
  have hcv : (convert 98 9 (.slice (some ⟨g, 0, none⟩) 4 cap)).run Try.prog W9 = .ok (.string (B [swp a old name, 63, b, 46])) W9 := HH9.out.conv cap
  have hz1 : (B [swp a old name, 63, b, 46]).size = 4 := B_size _
  have hz2 : (B t.text).size = t.text.length := B_size _
  have hb1 : (9223372036854775807 < 4 + t.text.length) = False := eq_false (by have := HT.out; omega)
  go_wp2_with fail
  go_ret
  have hfin : B [swp a old name, 63, b, 46] ++ B t.text = B ([swp a old name, 63, b, 46] ++ t.text) := B_append _ _
  exact ⟨congrArg (fun x => Ending.returned (Value.string x)) hfin, HB9.out⟩
set_option maxHeartbeats 2000000 in
set_option maxRecDepth 100000 in
theorem rn_63_2 (n : Nat) (ih : RnUpto n) (a b : UInt8) (t : Tm) (old name : UInt8) (w : World) (hs : t.size ≤ n) (hn : n ≤ 299) (hw : Wf nameB (.un 63 a b t)) (hl : (Tm.un 63 a b t).text.length ≤ 1000) (ho : nameB old = true) (hnn : nameB name = true) (hE : Enough (.un 63 a b t) old name) (hf : (Tm.un 63 a b t).fr old = true) (hon : ¬ old = name) (hbo : ¬ b = old) (hbn : ¬ b = name) :
    Calls Try.prog 86 #[.string (B (Tm.un 63 a b t).text), .int .u8 (vl old), .int .u8 (vl name)] w (RnPost w (Tm.un 63 (swp a old name) b (renS n t old name)).text) := by
  have HS := Lib.hid (RnS.un (hd := [a, 63, b, 46]) (name := name) rfl rfl (by simp only [Tm.size]; omega) hw hl ho hf hon)
  have HX : Hid ((B (Tm.un 63 a b t).text).extract 4 (B (Tm.un 63 a b t).text).size = B t.text) := by rw [Hid, B_size, B_extract]; simp [Tm.text]
  have htl : t.text.length ≤ 1000 := by simp only [Tm.text, List.length_append] at hl; omega
  have hen := hE.un
  have e3 : (vl b != vl old) = true := by rw [bne, rvf hbo]; rfl
  have hu := (renS_wf freshB_name n t old name hnn hw.2).2.2
  have HI := Lib.hid (fun W => ih t old name W hs hw.2 htl ho hnn hen)
  generalize renS n t old name = u at HI hu ⊢
  have HT : Hid (u.text.length ≤ 1000) := by rw [Hid, hu]; exact htl
  have e2 : (vl b == vl name) = false := rvf hbn
  clear hs hn hw ho hnn hE hen hf hon hl ih hbo htl hbn hu
  go_enter Try.func86, Try.ntmps86
  have e1 := HS.out.e1
  go_wp2_with fail
  refine (spec_tmFree.calls 3000 _ _ _ HS.out.fr).mono ?_
  rintro e w1 ⟨rfl, hb1⟩
  go_wp2_with fail
  refine (spec_tmIn.calls 3000 _ _ _ _ HS.out.is).mono ?_
  rintro e w2 ⟨rfl, hd2⟩
  replace hb1 := below_step hb1 hd2.below
  clear hd2
  go_wp2_with fail
  refine (spec_tmHead.calls 3000 _ _ _ HS.out.he).mono ?_
  rintro e w3 ⟨rfl, hd3⟩
  replace hb1 := below_step hb1 hd3.below
  clear hd3
  have hex : (B (Tm.un 63 a b t).text).extract 0 4 = B [a, 63, b, 46] := HS.out.ex
  have hsz := HS.out.sz
  have hcv := Lib.run_convert_string_bytes (P := Try.prog) w3 9 98 5 (B [a, 63, b, 46]) Try.underlying9 Try.underlying98 Try.underlying5
  have hh4 := head_new w3 5 [a, 63, b, 46]
  have hb4 := below_step hb1 (below_bytes w3 5 (B [a, 63, b, 46]))
  generalize Lib.bytesWorld w3 5 (B [a, 63, b, 46]) = W4 at hcv hh4 hb4
  rw [B_size] at hcv
  generalize grownCap w3 [a, 63, b, 46].length 0 5 = cap at hcv
  replace hcv : (convert 9 98 (.string (B [a, 63, b, 46]))).run Try.prog w3 = .ok (.slice (some ⟨w3.heap.size, 0, none⟩) 4 cap) W4 := hcv
  replace hsz : (4 : Int) ≤ ((B (Tm.un 63 a b t).text).size : Int) := by have h1 : 4 ≤ (B (Tm.un 63 a b t).text).size := hsz; omega
  have hg : w.heap.size ≤ w3.heap.size := hb1.size
  generalize hgg : w3.heap.size = g at hcv hh4 hg
  clear hb1 hgg
  go_wp2_with fail
  refine (spec_tmBinds.calls 3000 _ _ _ _ HS.out.bi).mono ?_
  rintro e W5 ⟨rfl, hd5⟩
  have HH : Hid (HeadAt W5 g [a, 63, b, 46]) := hh4.below hd5.below
  have HB : Hid (Below w.heap.size w W5) := below_step hb4 hd5.below
  have HG := Lib.hid hg
  clear hh4 hb4 hd5 hg hcv hex e1
  have hex : (B (Tm.un 63 a b t).text).extract 4 (B (Tm.un 63 a b t).text).size = B t.text := HX.out
  go_wp2_with fail
  refine (HI.out _).mono ?_
  rintro e W7 ⟨rfl, hb7⟩
  have HH7 := Lib.hid (HH.out.below hb7)
  have HB7 := Lib.hid (below_step HB.out hb7)
  clear hb7 HH HB
  go_wp2_with fail
  refine (spec_tmKind.calls 3000 _ _ _ HS.out.kd).mono ?_
  rintro e W6 ⟨rfl, hd6⟩
  have HH6 := Lib.hid (HH7.out.below hd6.below)
  have HB6 := Lib.hid (below_step HB7.out hd6.below)
  clear hd6 HH7 HB7
  have k1 : (vl (Tm.un 63 a b t).kind == 63) = true := rfl
  have c0 := HH6.out.cell (j := 0) (c := a) rfl
  have f0 := HH6.out.frozen (j := 0) (by simp)
  go_wp2_with fail
  refine (spec_tmSwap.calls _ _ _ _ _ (swap_f a old name)).mono ?_
  rintro e W7 ⟨rfl, hd7⟩
  have HH7 := Lib.hid (HH6.out.below hd7.below)
  have HB7 := Lib.hid (below_step HB6.out hd7.below)
  clear hd7 c0 f0
  have c0 := HH7.out.cell (j := 0) (c := a) rfl
  have f0 := HH7.out.frozen (j := 0) (by simp)
  go_upto_region 16 with fail
  refine name_world ?_
  intro W8 hW8
  have HH6 : Hid (HeadAt W8 g ([a, 63, b, 46].set 0 (swp a old name))) := by rw [hW8]; exact HH7.out.set _ _
  have HB6 : Hid (Below w.heap.size w W8) := by rw [hW8]; exact HB7.out.setCell HG.out _
  clear hW8 c0 f0 HH7 HB7
  have c0 := HH6.out.cell (j := 2) (c := b) rfl
  have f0 := HH6.out.frozen (j := 2) (by simp)
  go_upto_region 18 with fail
  refine name_world ?_
  intro W9 hW9
  have HH9 : Hid (HeadAt W9 g [swp a old name, 63, b, 46]) := by rw [hW9]; exact HH6.out.set 2 _
  have HB9 : Hid (Below w.heap.size w W9) := by rw [hW9]; exact HB6.out.setCell HG.out _
  clear hW9 c0 f0 HH6 HB6
  have hcv : (convert 98 9 (.slice (some ⟨g, 0, none⟩) 4 cap)).run Try.prog W9 = .ok (.string (B [swp a old name, 63, b, 46])) W9 := HH9.out.conv cap
  have hz1 : (B [swp a old name, 63, b, 46]).size = 4 := B_size _
  have hz2 : (B u.text).size = u.text.length := B_size _
  have hb1 : (9223372036854775807 < 4 + u.text.length) = False := eq_false (by have := HT.out; omega)
  go_wp2_with fail
  go_ret
  have hfin : B [swp a old name, 63, b, 46] ++ B u.text = B ([swp a old name, 63, b, 46] ++ u.text) := B_append _ _
  exact ⟨congrArg (fun x => Ending.returned (Value.string x)) hfin, HB9.out⟩
set_option maxHeartbeats 2000000 in
set_option maxRecDepth 100000 in
theorem rn_63_3 (n : Nat) (ih : RnUpto n) (a b : UInt8) (t : Tm) (old name : UInt8) (w : World) (hs : t.size ≤ n) (hn : n ≤ 299) (hw : Wf nameB (.un 63 a b t)) (hl : (Tm.un 63 a b t).text.length ≤ 1000) (ho : nameB old = true) (hnn : nameB name = true) (hE : Enough (.un 63 a b t) old name) (hf : (Tm.un 63 a b t).fr old = true) (hon : ¬ old = name) (hbo : ¬ b = old) (hbn : b = name) (hfo : t.fr old = false) :
    Calls Try.prog 86 #[.string (B (Tm.un 63 a b t).text), .int .u8 (vl old), .int .u8 (vl name)] w (RnPost w (Tm.un 63 (swp a old name) b (renS n t old name)).text) := by
  have HS := Lib.hid (RnS.un (hd := [a, 63, b, 46]) (name := name) rfl rfl (by simp only [Tm.size]; omega) hw hl ho hf hon)
  have HX : Hid ((B (Tm.un 63 a b t).text).extract 4 (B (Tm.un 63 a b t).text).size = B t.text) := by rw [Hid, B_size, B_extract]; simp [Tm.text]
  have htl : t.text.length ≤ 1000 := by simp only [Tm.text, List.length_append] at hl; omega
  have hen := hE.un
  have e3 : (vl b != vl old) = true := by rw [bne, rvf hbo]; rfl
  have hu := (renS_wf freshB_name n t old name hnn hw.2).2.2
  have HI := Lib.hid (fun W => ih t old name W hs hw.2 htl ho hnn hen)
  generalize renS n t old name = u at HI hu ⊢
  have HT : Hid (u.text.length ≤ 1000) := by rw [Hid, hu]; exact htl
  have HFR := Lib.hid (frees_name t 3000 hw.2 (by omega) (by omega))
  have hin := in_name t.fr ho (k := 3000) (by omega)
  rw [hfo] at hin
  have HIN := Lib.hid hin
  have e2 : (vl b == vl name) = true := rvt hbn
  clear hs hn hw ho hnn hE hen hf hon hl ih hbo htl hbn hfo hin hu
  go_enter Try.func86, Try.ntmps86
  have e1 := HS.out.e1
  go_wp2_with fail
  refine (spec_tmFree.calls 3000 _ _ _ HS.out.fr).mono ?_
  rintro e w1 ⟨rfl, hb1⟩
  go_wp2_with fail
  refine (spec_tmIn.calls 3000 _ _ _ _ HS.out.is).mono ?_
  rintro e w2 ⟨rfl, hd2⟩
  replace hb1 := below_step hb1 hd2.below
  clear hd2
  go_wp2_with fail
  refine (spec_tmHead.calls 3000 _ _ _ HS.out.he).mono ?_
  rintro e w3 ⟨rfl, hd3⟩
  replace hb1 := below_step hb1 hd3.below
  clear hd3
  have hex : (B (Tm.un 63 a b t).text).extract 0 4 = B [a, 63, b, 46] := HS.out.ex
  have hsz := HS.out.sz
  have hcv := Lib.run_convert_string_bytes (P := Try.prog) w3 9 98 5 (B [a, 63, b, 46]) Try.underlying9 Try.underlying98 Try.underlying5
  have hh4 := head_new w3 5 [a, 63, b, 46]
  have hb4 := below_step hb1 (below_bytes w3 5 (B [a, 63, b, 46]))
  generalize Lib.bytesWorld w3 5 (B [a, 63, b, 46]) = W4 at hcv hh4 hb4
  rw [B_size] at hcv
  generalize grownCap w3 [a, 63, b, 46].length 0 5 = cap at hcv
  replace hcv : (convert 9 98 (.string (B [a, 63, b, 46]))).run Try.prog w3 = .ok (.slice (some ⟨w3.heap.size, 0, none⟩) 4 cap) W4 := hcv
  replace hsz : (4 : Int) ≤ ((B (Tm.un 63 a b t).text).size : Int) := by have h1 : 4 ≤ (B (Tm.un 63 a b t).text).size := hsz; omega
  have hg : w.heap.size ≤ w3.heap.size := hb1.size
  generalize hgg : w3.heap.size = g at hcv hh4 hg
  clear hb1 hgg
  go_wp2_with fail
  refine (spec_tmBinds.calls 3000 _ _ _ _ HS.out.bi).mono ?_
  rintro e W5 ⟨rfl, hd5⟩
  have HH : Hid (HeadAt W5 g [a, 63, b, 46]) := hh4.below hd5.below
  have HB : Hid (Below w.heap.size w W5) := below_step hb4 hd5.below
  have HG := Lib.hid hg
  clear hh4 hb4 hd5 hg hcv hex e1
  have hex : (B (Tm.un 63 a b t).text).extract 4 (B (Tm.un 63 a b t).text).size = B t.text := HX.out
  go_wp2_with fail
  refine (spec_tmFree.calls 3000 _ _ _ HFR.out).mono ?_
  rintro e W3 ⟨rfl, hb3⟩
  go_wp2_with fail
  refine (spec_tmIn.calls 3000 _ _ _ _ HIN.out).mono ?_
  rintro e W7 ⟨rfl, hd4⟩
  have HH5 := Lib.hid ((HH.out.below hb3).below hd4.below)
  have HB5 := Lib.hid (below_step (below_step HB.out hb3) hd4.below)
  clear hb3 hd4 HH HB
  go_wp2_with fail
  refine (HI.out _).mono ?_
  rintro e W7 ⟨rfl, hb7⟩
  have HH7 := Lib.hid (HH5.out.below hb7)
  have HB7 := Lib.hid (below_step HB5.out hb7)
  clear hb7 HH5 HB5
  go_wp2_with fail
  refine (spec_tmKind.calls 3000 _ _ _ HS.out.kd).mono ?_
  rintro e W6 ⟨rfl, hd6⟩
  have HH6 := Lib.hid (HH7.out.below hd6.below)
  have HB6 := Lib.hid (below_step HB7.out hd6.below)
  clear hd6 HH7 HB7
  have k1 : (vl (Tm.un 63 a b t).kind == 63) = true := rfl
  have c0 := HH6.out.cell (j := 0) (c := a) rfl
  have f0 := HH6.out.frozen (j := 0) (by simp)
  go_wp2_with fail
  refine (spec_tmSwap.calls _ _ _ _ _ (swap_f a old name)).mono ?_
  rintro e W7 ⟨rfl, hd7⟩
  have HH7 := Lib.hid (HH6.out.below hd7.below)
  have HB7 := Lib.hid (below_step HB6.out hd7.below)
  clear hd7 c0 f0
  have c0 := HH7.out.cell (j := 0) (c := a) rfl
  have f0 := HH7.out.frozen (j := 0) (by simp)
  go_upto_region 16 with fail
  refine name_world ?_
  intro W8 hW8
  have HH6 : Hid (HeadAt W8 g ([a, 63, b, 46].set 0 (swp a old name))) := by rw [hW8]; exact HH7.out.set _ _
  have HB6 : Hid (Below w.heap.size w W8) := by rw [hW8]; exact HB7.out.setCell HG.out _
  clear hW8 c0 f0 HH7 HB7
  have c0 := HH6.out.cell (j := 2) (c := b) rfl
  have f0 := HH6.out.frozen (j := 2) (by simp)
  go_upto_region 18 with fail
  refine name_world ?_
  intro W9 hW9
  have HH9 : Hid (HeadAt W9 g [swp a old name, 63, b, 46]) := by rw [hW9]; exact HH6.out.set 2 _
  have HB9 : Hid (Below w.heap.size w W9) := by rw [hW9]; exact HB6.out.setCell HG.out _
  clear hW9 c0 f0 HH6 HB6
  have hcv : (convert 98 9 (.slice (some ⟨g, 0, none⟩) 4 cap)).run Try.prog W9 = .ok (.string (B [swp a old name, 63, b, 46])) W9 := HH9.out.conv cap
  have hz1 : (B [swp a old name, 63, b, 46]).size = 4 := B_size _
  have hz2 : (B u.text).size = u.text.length := B_size _
  have hb1 : (9223372036854775807 < 4 + u.text.length) = False := eq_false (by have := HT.out; omega)
  go_wp2_with fail
  go_ret
  have hfin : B [swp a old name, 63, b, 46] ++ B u.text = B ([swp a old name, 63, b, 46] ++ u.text) := B_append _ _
  exact ⟨congrArg (fun x => Ending.returned (Value.string x)) hfin, HB9.out⟩
set_option maxHeartbeats 2000000 in
set_option maxRecDepth 100000 in
theorem rn_63_4 (n : Nat) (ih : RnUpto n) (a b : UInt8) (t : Tm) (old name : UInt8) (w : World) (hs : t.size ≤ n) (hn : n ≤ 299) (hw : Wf nameB (.un 63 a b t)) (hl : (Tm.un 63 a b t).text.length ≤ 1000) (ho : nameB old = true) (hnn : nameB name = true) (hE : Enough (.un 63 a b t) old name) (hf : (Tm.un 63 a b t).fr old = true) (hon : ¬ old = name) (hbn : b = name) (hfo : t.fr old = true) :
    Calls Try.prog 86 #[.string (B (Tm.un 63 a b t).text), .int .u8 (vl old), .int .u8 (vl name)] w (RnPost w (Tm.un 63 (swp a old name) (freshB (tkS t old name)) (renS n (renS n t name (freshB (tkS t old name))) old name)).text) := by
  have HS := Lib.hid (RnS.un (hd := [a, 63, b, 46]) (name := name) rfl rfl (by simp only [Tm.size]; omega) hw hl ho hf hon)
  have HX : Hid ((B (Tm.un 63 a b t).text).extract 4 (B (Tm.un 63 a b t).text).size = B t.text) := by rw [Hid, B_size, B_extract]; simp [Tm.text]
  have htl : t.text.length ≤ 1000 := by simp only [Tm.text, List.length_append] at hl; omega
  have hen := hE.un
  have HFR := Lib.hid (frees_name t 3000 hw.2 (by omega) (by omega))
  have hin := in_name t.fr ho (k := 3000) (by omega)
  rw [hfo] at hin
  have HIN := Lib.hid hin
  obtain ⟨s, hs1, hs2⟩ := fresh_name t ho hnn (k := 3000) (by omega)
  have HS1 := Lib.hid hs1
  have HS2 := Lib.hid hs2
  obtain ⟨z1, z2, z3⟩ := hE.cap hbn n
  have hyn : nameB (freshB (tkS t old name)) = true := freshB_name _
  generalize freshB (tkS t old name) = y at z1 z2 z3 hyn HS2 hs2 ⊢
  have hyo : ¬ y = old := by rintro rfl; rw [tkS_old] at z1; cases z1
  have hw1 := renS_wf freshB_name n t name y hyn hw.2
  have HI1 : Hid (∀ W, Calls Try.prog 86 #[.string (B t.text), .int .u8 (vl b), .int .u8 (vl y)] W (RnPost W (renS n t name y).text)) := fun W => by rw [hbn]; exact ih t name y W hs hw.2 htl hnn hyn z2
  have HI := Lib.hid (fun W => ih (renS n t name y) old name W (by rw [hw1.1]; exact hs) hw1.2.1 (by rw [hw1.2.2]; exact htl) ho hnn (z3 hw1.1))
  have hu := (renS_wf freshB_name n (renS n t name y) old name hnn hw1.2.1).2.2
  rw [hw1.2.2] at hu
  generalize renS n t name y = t1 at HI1 HI hu z3 hw1 ⊢
  generalize renS n t1 old name = u at HI hu ⊢
  have HT : Hid (u.text.length ≤ 1000) := by rw [Hid, hu]; exact htl
  have e2 : (vl b == vl name) = true := rvt hbn
  have e4 : (vl y != vl old) = true := by rw [bne, rvf hyo]; rfl
  clear hs hn hw ho hnn hE hen hf hon hl ih htl hbn hfo hin hu hs1 hs2 z1 z2 z3 hyn hyo hw1
  go_enter Try.func86, Try.ntmps86
  have e1 := HS.out.e1
  go_wp2_with fail
  refine (spec_tmFree.calls 3000 _ _ _ HS.out.fr).mono ?_
  rintro e w1 ⟨rfl, hb1⟩
  go_wp2_with fail
  refine (spec_tmIn.calls 3000 _ _ _ _ HS.out.is).mono ?_
  rintro e w2 ⟨rfl, hd2⟩
  replace hb1 := below_step hb1 hd2.below
  clear hd2
  go_wp2_with fail
  refine (spec_tmHead.calls 3000 _ _ _ HS.out.he).mono ?_
  rintro e w3 ⟨rfl, hd3⟩
  replace hb1 := below_step hb1 hd3.below
  clear hd3
  have hex : (B (Tm.un 63 a b t).text).extract 0 4 = B [a, 63, b, 46] := HS.out.ex
  have hsz := HS.out.sz
  have hcv := Lib.run_convert_string_bytes (P := Try.prog) w3 9 98 5 (B [a, 63, b, 46]) Try.underlying9 Try.underlying98 Try.underlying5
  have hh4 := head_new w3 5 [a, 63, b, 46]
  have hb4 := below_step hb1 (below_bytes w3 5 (B [a, 63, b, 46]))
  generalize Lib.bytesWorld w3 5 (B [a, 63, b, 46]) = W4 at hcv hh4 hb4
  rw [B_size] at hcv
  generalize grownCap w3 [a, 63, b, 46].length 0 5 = cap at hcv
  replace hcv : (convert 9 98 (.string (B [a, 63, b, 46]))).run Try.prog w3 = .ok (.slice (some ⟨w3.heap.size, 0, none⟩) 4 cap) W4 := hcv
  replace hsz : (4 : Int) ≤ ((B (Tm.un 63 a b t).text).size : Int) := by have h1 : 4 ≤ (B (Tm.un 63 a b t).text).size := hsz; omega
  have hg : w.heap.size ≤ w3.heap.size := hb1.size
  generalize hgg : w3.heap.size = g at hcv hh4 hg
  clear hb1 hgg
  go_wp2_with fail
  refine (spec_tmBinds.calls 3000 _ _ _ _ HS.out.bi).mono ?_
  rintro e W5 ⟨rfl, hd5⟩
  have HH : Hid (HeadAt W5 g [a, 63, b, 46]) := hh4.below hd5.below
  have HB : Hid (Below w.heap.size w W5) := below_step hb4 hd5.below
  have HG := Lib.hid hg
  clear hh4 hb4 hd5 hg hcv hex e1
  have hex : (B (Tm.un 63 a b t).text).extract 4 (B (Tm.un 63 a b t).text).size = B t.text := HX.out
  go_wp2_with fail
  refine (spec_tmFree.calls 3000 _ _ _ HFR.out).mono ?_
  rintro e W3 ⟨rfl, hb3⟩
  go_wp2_with fail
  refine (spec_tmIn.calls 3000 _ _ _ _ HIN.out).mono ?_
  rintro e W7 ⟨rfl, hd4⟩
  have HH5 := Lib.hid ((HH.out.below hb3).below hd4.below)
  have HB5 := Lib.hid (below_step (below_step HB.out hb3) hd4.below)
  clear hb3 hd4 HH HB
  go_wp2_with fail
  have h2c := fun (W : World) (g : Nat) => two_conv W g old name
  go_region_held (fun _ => True) (trivial)
    (first | (go_at_call 46; refine (spec_tmFree.calls 3000 _ _ _ HFR.out).mono ?_; rintro e w1 ⟨rfl, hb1⟩; refine (two_cellsd hb1).elim (fun q0 q1 => ?_)) | (go_at_call 46; refine (spec_tmFree.calls 3000 _ _ _ HFR.out).mono ?_; rintro e w1 ⟨rfl, hb1⟩; refine (two_cells hb1).elim (fun q0 q1 => ?_)) | (go_at_call 46; refine (spec_tmFree.calls 3000 _ _ _ HFR.out).mono ?_; rintro e w1 ⟨rfl, hb1⟩) | (go_at_call 96; refine (spec_tmBoth.calls 3000 _ _ _ _ HS1.out).mono ?_; rintro e w2 ⟨rfl, hb2⟩) | (go_at_call 64; refine (spec_tmFresh.calls 3000 _ _ _ HS2.out).mono ?_; rintro e w3 ⟨rfl, hd3⟩))
  all_goals
    have h1 : Below W7.heap.size W7 w1 := by first | exact ⟨hb1.os, hb1.tape, hb1.output, hb1.size, hb1.block⟩ | exact below_step (below_alloc (Below.refl W7.heap.size W7) (.cells #[.int .u8 (vl old), .int .u8 (vl name)] 5)) ⟨hb1.os, hb1.tape, hb1.output, hb1.size, hb1.block⟩
    have h2 : Below W7.heap.size W7 w2 := by first | exact below_step h1 hb2 | exact below_step (below_step h1 (below_alloc (Below.refl _ _) _)) hb2
    have h3 := below_step h2 hd3.below
    have HH8 := Lib.hid (HH5.out.below h3)
    have HB8 := Lib.hid (below_step HB5.out h3)
    clear h1 h2 h3 hb1 hb2 hd3
    try clear q0 q1
    go_wp2_with fail
    refine (HI1.out _).mono ?_
    rintro e W9 ⟨rfl, hb9⟩
    have HH9 := Lib.hid (HH8.out.below hb9)
    have HB9 := Lib.hid (below_step HB8.out hb9)
    clear hb9 HH8 HB8
    go_wp2_with fail
    refine (HI.out _).mono ?_
    rintro e W7 ⟨rfl, hb7⟩
    have HH7 := Lib.hid (HH9.out.below hb7)
    have HB7 := Lib.hid (below_step HB9.out hb7)
    clear hb7 HH9 HB9
    go_wp2_with fail
    refine (spec_tmKind.calls 3000 _ _ _ HS.out.kd).mono ?_
    rintro e W6 ⟨rfl, hd6⟩
    have HH6 := Lib.hid (HH7.out.below hd6.below)
    have HB6 := Lib.hid (below_step HB7.out hd6.below)
    clear hd6 HH7 HB7
    have k1 : (vl (Tm.un 63 a b t).kind == 63) = true := rfl
    have c0 := HH6.out.cell (j := 0) (c := a) rfl
    have f0 := HH6.out.frozen (j := 0) (by simp)
    go_wp2_with fail
    refine (spec_tmSwap.calls _ _ _ _ _ (swap_f a old name)).mono ?_
    rintro e W7 ⟨rfl, hd7⟩
    have HH7 := Lib.hid (HH6.out.below hd7.below)
    have HB7 := Lib.hid (below_step HB6.out hd7.below)
    clear hd7 c0 f0
    have c0 := HH7.out.cell (j := 0) (c := a) rfl
    have f0 := HH7.out.frozen (j := 0) (by simp)
    go_upto_region 16 with fail
    refine name_world ?_
    intro W8 hW8
    have HH6 : Hid (HeadAt W8 g ([a, 63, b, 46].set 0 (swp a old name))) := by rw [hW8]; exact HH7.out.set _ _
    have HB6 : Hid (Below w.heap.size w W8) := by rw [hW8]; exact HB7.out.setCell HG.out _
    clear hW8 c0 f0 HH7 HB7
    have c0 := HH6.out.cell (j := 2) (c := b) rfl
    have f0 := HH6.out.frozen (j := 2) (by simp)
    go_upto_region 18 with fail
    refine name_world ?_
    intro W9 hW9
    have HH9 : Hid (HeadAt W9 g [swp a old name, 63, y, 46]) := by rw [hW9]; exact HH6.out.set 2 _
    have HB9 : Hid (Below w.heap.size w W9) := by rw [hW9]; exact HB6.out.setCell HG.out _
    clear hW9 c0 f0 HH6 HB6
    have hcv : (convert 98 9 (.slice (some ⟨g, 0, none⟩) 4 cap)).run Try.prog W9 = .ok (.string (B [swp a old name, 63, y, 46])) W9 := HH9.out.conv cap
    have hz1 : (B [swp a old name, 63, y, 46]).size = 4 := B_size _
    have hz2 : (B u.text).size = u.text.length := B_size _
    have hb1 : (9223372036854775807 < 4 + u.text.length) = False := eq_false (by have := HT.out; omega)
    go_wp2_with fail
    go_ret
    have hfin : B [swp a old name, 63, y, 46] ++ B u.text = B ([swp a old name, 63, y, 46] ++ u.text) := B_append _ _
    exact ⟨congrArg (fun x => Ending.returned (Value.string x)) hfin, HB9.out⟩
set_option maxHeartbeats 2000000 in
set_option maxRecDepth 100000 in
theorem rn_35_1 (n : Nat) (ih : RnUpto n) (a b : UInt8) (t : Tm) (old name : UInt8) (w : World) (hs : t.size ≤ n) (hn : n ≤ 299) (hw : Wf nameB (.un 35 a b t)) (hl : (Tm.un 35 a b t).text.length ≤ 1000) (ho : nameB old = true) (hnn : nameB name = true) (hE : Enough (.un 35 a b t) old name) (hf : (Tm.un 35 a b t).fr old = true) (hon : ¬ old = name) (hbo : b = old) :
    Calls Try.prog 86 #[.string (B (Tm.un 35 a b t).text), .int .u8 (vl old), .int .u8 (vl name)] w (RnPost w (Tm.un 35 a b t).text) := by
  have HS := Lib.hid (RnS.un (hd := [35, b, 46]) (name := name) rfl rfl (by simp only [Tm.size]; omega) hw hl ho hf hon)
  have HX : Hid ((B (Tm.un 35 a b t).text).extract 3 (B (Tm.un 35 a b t).text).size = B t.text) := by rw [Hid, B_size, B_extract]; simp [Tm.text]
  have htl : t.text.length ≤ 1000 := by simp only [Tm.text, List.length_append] at hl; omega
  have hen := hE.un
  have HT : Hid (t.text.length ≤ 1000) := htl
  have e2 : (vl b == vl name) = false := rvf (by rw [hbo]; exact hon)
  have e3 : (vl b != vl old) = false := by rw [bne, rvt hbo]; rfl
  clear hs hn hw ho hnn hE hen hf hon hl ih hbo htl
  go_enter Try.func86, Try.ntmps86
  have e1 := HS.out.e1
  go_wp2_with fail
  refine (spec_tmFree.calls 3000 _ _ _ HS.out.fr).mono ?_
  rintro e w1 ⟨rfl, hb1⟩
  go_wp2_with fail
  refine (spec_tmIn.calls 3000 _ _ _ _ HS.out.is).mono ?_
  rintro e w2 ⟨rfl, hd2⟩
  replace hb1 := below_step hb1 hd2.below
  clear hd2
  go_wp2_with fail
  refine (spec_tmHead.calls 3000 _ _ _ HS.out.he).mono ?_
  rintro e w3 ⟨rfl, hd3⟩
  replace hb1 := below_step hb1 hd3.below
  clear hd3
  have hex : (B (Tm.un 35 a b t).text).extract 0 3 = B [35, b, 46] := HS.out.ex
  have hsz := HS.out.sz
  have hcv := Lib.run_convert_string_bytes (P := Try.prog) w3 9 98 5 (B [35, b, 46]) Try.underlying9 Try.underlying98 Try.underlying5
  have hh4 := head_new w3 5 [35, b, 46]
  have hb4 := below_step hb1 (below_bytes w3 5 (B [35, b, 46]))
  generalize Lib.bytesWorld w3 5 (B [35, b, 46]) = W4 at hcv hh4 hb4
  rw [B_size] at hcv
  generalize grownCap w3 [35, b, 46].length 0 5 = cap at hcv
  replace hcv : (convert 9 98 (.string (B [35, b, 46]))).run Try.prog w3 = .ok (.slice (some ⟨w3.heap.size, 0, none⟩) 3 cap) W4 := hcv
  replace hsz : (3 : Int) ≤ ((B (Tm.un 35 a b t).text).size : Int) := by have h1 : 3 ≤ (B (Tm.un 35 a b t).text).size := hsz; omega
  have hg : w.heap.size ≤ w3.heap.size := hb1.size
  generalize hgg : w3.heap.size = g at hcv hh4 hg
  clear hb1 hgg
  go_wp2_with fail
  refine (spec_tmBinds.calls 3000 _ _ _ _ HS.out.bi).mono ?_
  rintro e W5 ⟨rfl, hd5⟩
  have HH : Hid (HeadAt W5 g [35, b, 46]) := hh4.below hd5.below
  have HB : Hid (Below w.heap.size w W5) := below_step hb4 hd5.below
  have HG := Lib.hid hg
  clear hh4 hb4 hd5 hg hcv hex e1
  have hex : (B (Tm.un 35 a b t).text).extract 3 (B (Tm.un 35 a b t).text).size = B t.text := HX.out
  go_wp2_with fail
  refine (spec_tmKind.calls 3000 _ _ _ HS.out.kd).mono ?_
  rintro e W6 ⟨rfl, hd6⟩
  have HH6 := Lib.hid (HH.out.below hd6.below)
  have HB6 := Lib.hid (below_step HB.out hd6.below)
  clear hd6 HH HB
  have k1 : (vl (Tm.un 35 a b t).kind == 63) = false := rvf (c := 35) (d := 63) (by decide)
  have c0 := HH6.out.cell (j := 1) (c := b) rfl
  have f0 := HH6.out.frozen (j := 1) (by simp)
  go_upto_region 18 with fail
  refine name_world ?_
  intro W9 hW9
  have HH9 : Hid (HeadAt W9 g [35, b, 46]) := by rw [hW9]; exact HH6.out.set 1 _
  have HB9 : Hid (Below w.heap.size w W9) := by rw [hW9]; exact HB6.out.setCell HG.out _
  clear hW9 c0 f0 HH6 HB6
  have hcv : (convert 98 9 (.slice (some ⟨g, 0, none⟩) 3 cap)).run Try.prog W9 = .ok (.string (B [35, b, 46])) W9 := HH9.out.conv cap
  have hz1 : (B [35, b, 46]).size = 3 := B_size _
  have hz2 : (B t.text).size = t.text.length := B_size _
  have hb1 : (9223372036854775807 < 3 + t.text.length) = False := eq_false (by have := HT.out; omega)
  go_wp2_with fail
  go_ret
  have hfin : B [35, b, 46] ++ B t.text = B ([35, b, 46] ++ t.text) := B_append _ _
  exact ⟨congrArg (fun x => Ending.returned (Value.string x)) hfin, HB9.out⟩
set_option maxHeartbeats 2000000 in
set_option maxRecDepth 100000 in
theorem rn_35_2 (n : Nat) (ih : RnUpto n) (a b : UInt8) (t : Tm) (old name : UInt8) (w : World) (hs : t.size ≤ n) (hn : n ≤ 299) (hw : Wf nameB (.un 35 a b t)) (hl : (Tm.un 35 a b t).text.length ≤ 1000) (ho : nameB old = true) (hnn : nameB name = true) (hE : Enough (.un 35 a b t) old name) (hf : (Tm.un 35 a b t).fr old = true) (hon : ¬ old = name) (hbo : ¬ b = old) (hbn : ¬ b = name) :
    Calls Try.prog 86 #[.string (B (Tm.un 35 a b t).text), .int .u8 (vl old), .int .u8 (vl name)] w (RnPost w (Tm.un 35 a b (renS n t old name)).text) := by
  have HS := Lib.hid (RnS.un (hd := [35, b, 46]) (name := name) rfl rfl (by simp only [Tm.size]; omega) hw hl ho hf hon)
  have HX : Hid ((B (Tm.un 35 a b t).text).extract 3 (B (Tm.un 35 a b t).text).size = B t.text) := by rw [Hid, B_size, B_extract]; simp [Tm.text]
  have htl : t.text.length ≤ 1000 := by simp only [Tm.text, List.length_append] at hl; omega
  have hen := hE.un
  have e3 : (vl b != vl old) = true := by rw [bne, rvf hbo]; rfl
  have hu := (renS_wf freshB_name n t old name hnn hw.2).2.2
  have HI := Lib.hid (fun W => ih t old name W hs hw.2 htl ho hnn hen)
  generalize renS n t old name = u at HI hu ⊢
  have HT : Hid (u.text.length ≤ 1000) := by rw [Hid, hu]; exact htl
  have e2 : (vl b == vl name) = false := rvf hbn
  clear hs hn hw ho hnn hE hen hf hon hl ih hbo htl hbn hu
  go_enter Try.func86, Try.ntmps86
  have e1 := HS.out.e1
  go_wp2_with fail
  refine (spec_tmFree.calls 3000 _ _ _ HS.out.fr).mono ?_
  rintro e w1 ⟨rfl, hb1⟩
  go_wp2_with fail
  refine (spec_tmIn.calls 3000 _ _ _ _ HS.out.is).mono ?_
  rintro e w2 ⟨rfl, hd2⟩
  replace hb1 := below_step hb1 hd2.below
  clear hd2
  go_wp2_with fail
  refine (spec_tmHead.calls 3000 _ _ _ HS.out.he).mono ?_
  rintro e w3 ⟨rfl, hd3⟩
  replace hb1 := below_step hb1 hd3.below
  clear hd3
  have hex : (B (Tm.un 35 a b t).text).extract 0 3 = B [35, b, 46] := HS.out.ex
  have hsz := HS.out.sz
  have hcv := Lib.run_convert_string_bytes (P := Try.prog) w3 9 98 5 (B [35, b, 46]) Try.underlying9 Try.underlying98 Try.underlying5
  have hh4 := head_new w3 5 [35, b, 46]
  have hb4 := below_step hb1 (below_bytes w3 5 (B [35, b, 46]))
  generalize Lib.bytesWorld w3 5 (B [35, b, 46]) = W4 at hcv hh4 hb4
  rw [B_size] at hcv
  generalize grownCap w3 [35, b, 46].length 0 5 = cap at hcv
  replace hcv : (convert 9 98 (.string (B [35, b, 46]))).run Try.prog w3 = .ok (.slice (some ⟨w3.heap.size, 0, none⟩) 3 cap) W4 := hcv
  replace hsz : (3 : Int) ≤ ((B (Tm.un 35 a b t).text).size : Int) := by have h1 : 3 ≤ (B (Tm.un 35 a b t).text).size := hsz; omega
  have hg : w.heap.size ≤ w3.heap.size := hb1.size
  generalize hgg : w3.heap.size = g at hcv hh4 hg
  clear hb1 hgg
  go_wp2_with fail
  refine (spec_tmBinds.calls 3000 _ _ _ _ HS.out.bi).mono ?_
  rintro e W5 ⟨rfl, hd5⟩
  have HH : Hid (HeadAt W5 g [35, b, 46]) := hh4.below hd5.below
  have HB : Hid (Below w.heap.size w W5) := below_step hb4 hd5.below
  have HG := Lib.hid hg
  clear hh4 hb4 hd5 hg hcv hex e1
  have hex : (B (Tm.un 35 a b t).text).extract 3 (B (Tm.un 35 a b t).text).size = B t.text := HX.out
  go_wp2_with fail
  refine (HI.out _).mono ?_
  rintro e W7 ⟨rfl, hb7⟩
  have HH7 := Lib.hid (HH.out.below hb7)
  have HB7 := Lib.hid (below_step HB.out hb7)
  clear hb7 HH HB
  go_wp2_with fail
  refine (spec_tmKind.calls 3000 _ _ _ HS.out.kd).mono ?_
  rintro e W6 ⟨rfl, hd6⟩
  have HH6 := Lib.hid (HH7.out.below hd6.below)
  have HB6 := Lib.hid (below_step HB7.out hd6.below)
  clear hd6 HH7 HB7
  have k1 : (vl (Tm.un 35 a b t).kind == 63) = false := rvf (c := 35) (d := 63) (by decide)
  have c0 := HH6.out.cell (j := 1) (c := b) rfl
  have f0 := HH6.out.frozen (j := 1) (by simp)
  go_upto_region 18 with fail
  refine name_world ?_
  intro W9 hW9
  have HH9 : Hid (HeadAt W9 g [35, b, 46]) := by rw [hW9]; exact HH6.out.set 1 _
  have HB9 : Hid (Below w.heap.size w W9) := by rw [hW9]; exact HB6.out.setCell HG.out _
  clear hW9 c0 f0 HH6 HB6
  have hcv : (convert 98 9 (.slice (some ⟨g, 0, none⟩) 3 cap)).run Try.prog W9 = .ok (.string (B [35, b, 46])) W9 := HH9.out.conv cap
  have hz1 : (B [35, b, 46]).size = 3 := B_size _
  have hz2 : (B u.text).size = u.text.length := B_size _
  have hb1 : (9223372036854775807 < 3 + u.text.length) = False := eq_false (by have := HT.out; omega)
  go_wp2_with fail
  go_ret
  have hfin : B [35, b, 46] ++ B u.text = B ([35, b, 46] ++ u.text) := B_append _ _
  exact ⟨congrArg (fun x => Ending.returned (Value.string x)) hfin, HB9.out⟩
set_option maxHeartbeats 2000000 in
set_option maxRecDepth 100000 in
theorem rn_35_3 (n : Nat) (ih : RnUpto n) (a b : UInt8) (t : Tm) (old name : UInt8) (w : World) (hs : t.size ≤ n) (hn : n ≤ 299) (hw : Wf nameB (.un 35 a b t)) (hl : (Tm.un 35 a b t).text.length ≤ 1000) (ho : nameB old = true) (hnn : nameB name = true) (hE : Enough (.un 35 a b t) old name) (hf : (Tm.un 35 a b t).fr old = true) (hon : ¬ old = name) (hbo : ¬ b = old) (hbn : b = name) (hfo : t.fr old = false) :
    Calls Try.prog 86 #[.string (B (Tm.un 35 a b t).text), .int .u8 (vl old), .int .u8 (vl name)] w (RnPost w (Tm.un 35 a b (renS n t old name)).text) := by
  have HS := Lib.hid (RnS.un (hd := [35, b, 46]) (name := name) rfl rfl (by simp only [Tm.size]; omega) hw hl ho hf hon)
  have HX : Hid ((B (Tm.un 35 a b t).text).extract 3 (B (Tm.un 35 a b t).text).size = B t.text) := by rw [Hid, B_size, B_extract]; simp [Tm.text]
  have htl : t.text.length ≤ 1000 := by simp only [Tm.text, List.length_append] at hl; omega
  have hen := hE.un
  have e3 : (vl b != vl old) = true := by rw [bne, rvf hbo]; rfl
  have hu := (renS_wf freshB_name n t old name hnn hw.2).2.2
  have HI := Lib.hid (fun W => ih t old name W hs hw.2 htl ho hnn hen)
  generalize renS n t old name = u at HI hu ⊢
  have HT : Hid (u.text.length ≤ 1000) := by rw [Hid, hu]; exact htl
  have HFR := Lib.hid (frees_name t 3000 hw.2 (by omega) (by omega))
  have hin := in_name t.fr ho (k := 3000) (by omega)
  rw [hfo] at hin
  have HIN := Lib.hid hin
  have e2 : (vl b == vl name) = true := rvt hbn
  clear hs hn hw ho hnn hE hen hf hon hl ih hbo htl hbn hfo hin hu
  go_enter Try.func86, Try.ntmps86
  have e1 := HS.out.e1
  go_wp2_with fail
  refine (spec_tmFree.calls 3000 _ _ _ HS.out.fr).mono ?_
  rintro e w1 ⟨rfl, hb1⟩
  go_wp2_with fail
  refine (spec_tmIn.calls 3000 _ _ _ _ HS.out.is).mono ?_
  rintro e w2 ⟨rfl, hd2⟩
  replace hb1 := below_step hb1 hd2.below
  clear hd2
  go_wp2_with fail
  refine (spec_tmHead.calls 3000 _ _ _ HS.out.he).mono ?_
  rintro e w3 ⟨rfl, hd3⟩
  replace hb1 := below_step hb1 hd3.below
  clear hd3
  have hex : (B (Tm.un 35 a b t).text).extract 0 3 = B [35, b, 46] := HS.out.ex
  have hsz := HS.out.sz
  have hcv := Lib.run_convert_string_bytes (P := Try.prog) w3 9 98 5 (B [35, b, 46]) Try.underlying9 Try.underlying98 Try.underlying5
  have hh4 := head_new w3 5 [35, b, 46]
  have hb4 := below_step hb1 (below_bytes w3 5 (B [35, b, 46]))
  generalize Lib.bytesWorld w3 5 (B [35, b, 46]) = W4 at hcv hh4 hb4
  rw [B_size] at hcv
  generalize grownCap w3 [35, b, 46].length 0 5 = cap at hcv
  replace hcv : (convert 9 98 (.string (B [35, b, 46]))).run Try.prog w3 = .ok (.slice (some ⟨w3.heap.size, 0, none⟩) 3 cap) W4 := hcv
  replace hsz : (3 : Int) ≤ ((B (Tm.un 35 a b t).text).size : Int) := by have h1 : 3 ≤ (B (Tm.un 35 a b t).text).size := hsz; omega
  have hg : w.heap.size ≤ w3.heap.size := hb1.size
  generalize hgg : w3.heap.size = g at hcv hh4 hg
  clear hb1 hgg
  go_wp2_with fail
  refine (spec_tmBinds.calls 3000 _ _ _ _ HS.out.bi).mono ?_
  rintro e W5 ⟨rfl, hd5⟩
  have HH : Hid (HeadAt W5 g [35, b, 46]) := hh4.below hd5.below
  have HB : Hid (Below w.heap.size w W5) := below_step hb4 hd5.below
  have HG := Lib.hid hg
  clear hh4 hb4 hd5 hg hcv hex e1
  have hex : (B (Tm.un 35 a b t).text).extract 3 (B (Tm.un 35 a b t).text).size = B t.text := HX.out
  go_wp2_with fail
  refine (spec_tmFree.calls 3000 _ _ _ HFR.out).mono ?_
  rintro e W3 ⟨rfl, hb3⟩
  go_wp2_with fail
  refine (spec_tmIn.calls 3000 _ _ _ _ HIN.out).mono ?_
  rintro e W7 ⟨rfl, hd4⟩
  have HH5 := Lib.hid ((HH.out.below hb3).below hd4.below)
  have HB5 := Lib.hid (below_step (below_step HB.out hb3) hd4.below)
  clear hb3 hd4 HH HB
  go_wp2_with fail
  refine (HI.out _).mono ?_
  rintro e W7 ⟨rfl, hb7⟩
  have HH7 := Lib.hid (HH5.out.below hb7)
  have HB7 := Lib.hid (below_step HB5.out hb7)
  clear hb7 HH5 HB5
  go_wp2_with fail
  refine (spec_tmKind.calls 3000 _ _ _ HS.out.kd).mono ?_
  rintro e W6 ⟨rfl, hd6⟩
  have HH6 := Lib.hid (HH7.out.below hd6.below)
  have HB6 := Lib.hid (below_step HB7.out hd6.below)
  clear hd6 HH7 HB7
  have k1 : (vl (Tm.un 35 a b t).kind == 63) = false := rvf (c := 35) (d := 63) (by decide)
  have c0 := HH6.out.cell (j := 1) (c := b) rfl
  have f0 := HH6.out.frozen (j := 1) (by simp)
  go_upto_region 18 with fail
  refine name_world ?_
  intro W9 hW9
  have HH9 : Hid (HeadAt W9 g [35, b, 46]) := by rw [hW9]; exact HH6.out.set 1 _
  have HB9 : Hid (Below w.heap.size w W9) := by rw [hW9]; exact HB6.out.setCell HG.out _
  clear hW9 c0 f0 HH6 HB6
  have hcv : (convert 98 9 (.slice (some ⟨g, 0, none⟩) 3 cap)).run Try.prog W9 = .ok (.string (B [35, b, 46])) W9 := HH9.out.conv cap
  have hz1 : (B [35, b, 46]).size = 3 := B_size _
  have hz2 : (B u.text).size = u.text.length := B_size _
  have hb1 : (9223372036854775807 < 3 + u.text.length) = False := eq_false (by have := HT.out; omega)
  go_wp2_with fail
  go_ret
  have hfin : B [35, b, 46] ++ B u.text = B ([35, b, 46] ++ u.text) := B_append _ _
  exact ⟨congrArg (fun x => Ending.returned (Value.string x)) hfin, HB9.out⟩
set_option maxHeartbeats 2000000 in
set_option maxRecDepth 100000 in
theorem rn_35_4 (n : Nat) (ih : RnUpto n) (a b : UInt8) (t : Tm) (old name : UInt8) (w : World) (hs : t.size ≤ n) (hn : n ≤ 299) (hw : Wf nameB (.un 35 a b t)) (hl : (Tm.un 35 a b t).text.length ≤ 1000) (ho : nameB old = true) (hnn : nameB name = true) (hE : Enough (.un 35 a b t) old name) (hf : (Tm.un 35 a b t).fr old = true) (hon : ¬ old = name) (hbn : b = name) (hfo : t.fr old = true) :
    Calls Try.prog 86 #[.string (B (Tm.un 35 a b t).text), .int .u8 (vl old), .int .u8 (vl name)] w (RnPost w (Tm.un 35 a (freshB (tkS t old name)) (renS n (renS n t name (freshB (tkS t old name))) old name)).text) := by
  have HS := Lib.hid (RnS.un (hd := [35, b, 46]) (name := name) rfl rfl (by simp only [Tm.size]; omega) hw hl ho hf hon)
  have HX : Hid ((B (Tm.un 35 a b t).text).extract 3 (B (Tm.un 35 a b t).text).size = B t.text) := by rw [Hid, B_size, B_extract]; simp [Tm.text]
  have htl : t.text.length ≤ 1000 := by simp only [Tm.text, List.length_append] at hl; omega
  have hen := hE.un
  have HFR := Lib.hid (frees_name t 3000 hw.2 (by omega) (by omega))
  have hin := in_name t.fr ho (k := 3000) (by omega)
  rw [hfo] at hin
  have HIN := Lib.hid hin
  obtain ⟨s, hs1, hs2⟩ := fresh_name t ho hnn (k := 3000) (by omega)
  have HS1 := Lib.hid hs1
  have HS2 := Lib.hid hs2
  obtain ⟨z1, z2, z3⟩ := hE.cap hbn n
  have hyn : nameB (freshB (tkS t old name)) = true := freshB_name _
  generalize freshB (tkS t old name) = y at z1 z2 z3 hyn HS2 hs2 ⊢
  have hyo : ¬ y = old := by rintro rfl; rw [tkS_old] at z1; cases z1
  have hw1 := renS_wf freshB_name n t name y hyn hw.2
  have HI1 : Hid (∀ W, Calls Try.prog 86 #[.string (B t.text), .int .u8 (vl b), .int .u8 (vl y)] W (RnPost W (renS n t name y).text)) := fun W => by rw [hbn]; exact ih t name y W hs hw.2 htl hnn hyn z2
  have HI := Lib.hid (fun W => ih (renS n t name y) old name W (by rw [hw1.1]; exact hs) hw1.2.1 (by rw [hw1.2.2]; exact htl) ho hnn (z3 hw1.1))
  have hu := (renS_wf freshB_name n (renS n t name y) old name hnn hw1.2.1).2.2
  rw [hw1.2.2] at hu
  generalize renS n t name y = t1 at HI1 HI hu z3 hw1 ⊢
  generalize renS n t1 old name = u at HI hu ⊢
  have HT : Hid (u.text.length ≤ 1000) := by rw [Hid, hu]; exact htl
  have e2 : (vl b == vl name) = true := rvt hbn
  have e4 : (vl y != vl old) = true := by rw [bne, rvf hyo]; rfl
  clear hs hn hw ho hnn hE hen hf hon hl ih htl hbn hfo hin hu hs1 hs2 z1 z2 z3 hyn hyo hw1
  go_enter Try.func86, Try.ntmps86
  have e1 := HS.out.e1
  go_wp2_with fail
  refine (spec_tmFree.calls 3000 _ _ _ HS.out.fr).mono ?_
  rintro e w1 ⟨rfl, hb1⟩
  go_wp2_with fail
  refine (spec_tmIn.calls 3000 _ _ _ _ HS.out.is).mono ?_
  rintro e w2 ⟨rfl, hd2⟩
  replace hb1 := below_step hb1 hd2.below
  clear hd2
  go_wp2_with fail
  refine (spec_tmHead.calls 3000 _ _ _ HS.out.he).mono ?_
  rintro e w3 ⟨rfl, hd3⟩
  replace hb1 := below_step hb1 hd3.below
  clear hd3
  have hex : (B (Tm.un 35 a b t).text).extract 0 3 = B [35, b, 46] := HS.out.ex
  have hsz := HS.out.sz
  have hcv := Lib.run_convert_string_bytes (P := Try.prog) w3 9 98 5 (B [35, b, 46]) Try.underlying9 Try.underlying98 Try.underlying5
  have hh4 := head_new w3 5 [35, b, 46]
  have hb4 := below_step hb1 (below_bytes w3 5 (B [35, b, 46]))
  generalize Lib.bytesWorld w3 5 (B [35, b, 46]) = W4 at hcv hh4 hb4
  rw [B_size] at hcv
  generalize grownCap w3 [35, b, 46].length 0 5 = cap at hcv
  replace hcv : (convert 9 98 (.string (B [35, b, 46]))).run Try.prog w3 = .ok (.slice (some ⟨w3.heap.size, 0, none⟩) 3 cap) W4 := hcv
  replace hsz : (3 : Int) ≤ ((B (Tm.un 35 a b t).text).size : Int) := by have h1 : 3 ≤ (B (Tm.un 35 a b t).text).size := hsz; omega
  have hg : w.heap.size ≤ w3.heap.size := hb1.size
  generalize hgg : w3.heap.size = g at hcv hh4 hg
  clear hb1 hgg
  go_wp2_with fail
  refine (spec_tmBinds.calls 3000 _ _ _ _ HS.out.bi).mono ?_
  rintro e W5 ⟨rfl, hd5⟩
  have HH : Hid (HeadAt W5 g [35, b, 46]) := hh4.below hd5.below
  have HB : Hid (Below w.heap.size w W5) := below_step hb4 hd5.below
  have HG := Lib.hid hg
  clear hh4 hb4 hd5 hg hcv hex e1
  have hex : (B (Tm.un 35 a b t).text).extract 3 (B (Tm.un 35 a b t).text).size = B t.text := HX.out
  go_wp2_with fail
  refine (spec_tmFree.calls 3000 _ _ _ HFR.out).mono ?_
  rintro e W3 ⟨rfl, hb3⟩
  go_wp2_with fail
  refine (spec_tmIn.calls 3000 _ _ _ _ HIN.out).mono ?_
  rintro e W7 ⟨rfl, hd4⟩
  have HH5 := Lib.hid ((HH.out.below hb3).below hd4.below)
  have HB5 := Lib.hid (below_step (below_step HB.out hb3) hd4.below)
  clear hb3 hd4 HH HB
  go_wp2_with fail
  have h2c := fun (W : World) (g : Nat) => two_conv W g old name
  go_region_held (fun _ => True) (trivial)
    (first | (go_at_call 46; refine (spec_tmFree.calls 3000 _ _ _ HFR.out).mono ?_; rintro e w1 ⟨rfl, hb1⟩; refine (two_cellsd hb1).elim (fun q0 q1 => ?_)) | (go_at_call 46; refine (spec_tmFree.calls 3000 _ _ _ HFR.out).mono ?_; rintro e w1 ⟨rfl, hb1⟩; refine (two_cells hb1).elim (fun q0 q1 => ?_)) | (go_at_call 46; refine (spec_tmFree.calls 3000 _ _ _ HFR.out).mono ?_; rintro e w1 ⟨rfl, hb1⟩) | (go_at_call 96; refine (spec_tmBoth.calls 3000 _ _ _ _ HS1.out).mono ?_; rintro e w2 ⟨rfl, hb2⟩) | (go_at_call 64; refine (spec_tmFresh.calls 3000 _ _ _ HS2.out).mono ?_; rintro e w3 ⟨rfl, hd3⟩))
  all_goals
    have h1 : Below W7.heap.size W7 w1 := by first | exact ⟨hb1.os, hb1.tape, hb1.output, hb1.size, hb1.block⟩ | exact below_step (below_alloc (Below.refl W7.heap.size W7) (.cells #[.int .u8 (vl old), .int .u8 (vl name)] 5)) ⟨hb1.os, hb1.tape, hb1.output, hb1.size, hb1.block⟩
    have h2 : Below W7.heap.size W7 w2 := by first | exact below_step h1 hb2 | exact below_step (below_step h1 (below_alloc (Below.refl _ _) _)) hb2
    have h3 := below_step h2 hd3.below
    have HH8 := Lib.hid (HH5.out.below h3)
    have HB8 := Lib.hid (below_step HB5.out h3)
    clear h1 h2 h3 hb1 hb2 hd3
    try clear q0 q1
    go_wp2_with fail
    refine (HI1.out _).mono ?_
    rintro e W9 ⟨rfl, hb9⟩
    have HH9 := Lib.hid (HH8.out.below hb9)
    have HB9 := Lib.hid (below_step HB8.out hb9)
    clear hb9 HH8 HB8
    go_wp2_with fail
    refine (HI.out _).mono ?_
    rintro e W7 ⟨rfl, hb7⟩
    have HH7 := Lib.hid (HH9.out.below hb7)
    have HB7 := Lib.hid (below_step HB9.out hb7)
    clear hb7 HH9 HB9
    go_wp2_with fail
    refine (spec_tmKind.calls 3000 _ _ _ HS.out.kd).mono ?_
    rintro e W6 ⟨rfl, hd6⟩
    have HH6 := Lib.hid (HH7.out.below hd6.below)
    have HB6 := Lib.hid (below_step HB7.out hd6.below)
    clear hd6 HH7 HB7
    have k1 : (vl (Tm.un 35 a b t).kind == 63) = false := rvf (c := 35) (d := 63) (by decide)
    have c0 := HH6.out.cell (j := 1) (c := b) rfl
    have f0 := HH6.out.frozen (j := 1) (by simp)
    go_upto_region 18 with fail
    refine name_world ?_
    intro W9 hW9
    have HH9 : Hid (HeadAt W9 g [35, y, 46]) := by rw [hW9]; exact HH6.out.set 1 _
    have HB9 : Hid (Below w.heap.size w W9) := by rw [hW9]; exact HB6.out.setCell HG.out _
    clear hW9 c0 f0 HH6 HB6
    have hcv : (convert 98 9 (.slice (some ⟨g, 0, none⟩) 3 cap)).run Try.prog W9 = .ok (.string (B [35, y, 46])) W9 := HH9.out.conv cap
    have hz1 : (B [35, y, 46]).size = 3 := B_size _
    have hz2 : (B u.text).size = u.text.length := B_size _
    have hb1 : (9223372036854775807 < 3 + u.text.length) = False := eq_false (by have := HT.out; omega)
    go_wp2_with fail
    go_ret
    have hfin : B [35, y, 46] ++ B u.text = B ([35, y, 46] ++ u.text) := B_append _ _
    exact ⟨congrArg (fun x => Ending.returned (Value.string x)) hfin, HB9.out⟩

end Go.Proofs.Ytfcadppidgkoaaa.PFnExactRenameFree
namespace Go.Proofs.Ytfcadppidgkoaaa.PFnExactRenameFree
open Go.RowKit Go.Proofs.YtfcadppidgkoaaaW.PrintWords Go.Proofs.YtfcadppidgkoaaaW.PrintLast Go.Proofs.YtfcadppidgkoaaaW.PrintMore
set_option linter.unusedVariables false
set_option linter.unusedSimpArgs false

theorem rn_any (n : Nat) : n ≤ 299 → RnUpto n := by
  induction n with
  | zero => intro _ t old name w h; have := t.size_pos; omega
  | succ n ih =>
    intro hn T old name w hs hw hl ho hnn hE
    have ih := ih (by omega)
    have hr : renS (n + 1) T old name = if old = name ∨ T.fr old = false then T else match T with
      | .leaf k a b => .leaf k a b
      | .un k a b t =>
        if k = 33 ∨ k = 61 then .un k (swp a old name) (swp b old name) (renS n t old name)
        else if k = 63 ∨ k = 35 then
          if b = old then .un k (if k = 63 then swp a old name else a) b t
          else if b = name ∧ t.fr old = true then
            .un k (if k = 63 then swp a old name else a) (freshB (tkS t old name)) (renS n (renS n t name (freshB (tkS t old name))) old name)
          else .un k (if k = 63 then swp a old name else a) b (renS n t old name)
        else .un k a b (renS n t old name)
      | .bin k a b t u => .bin k a b (renS n t old name) (renS n u old name) := by cases T <;> rfl
    by_cases h0 : old = name ∨ T.fr old = false
    · rw [hr, if_pos h0]
      exact rn_early T old name w (by omega) hw hl ho h0
    rw [hr, if_neg h0]
    clear hr
    have hon : ¬ old = name := fun q => h0 (.inl q)
    have hf : T.fr old = true := by
      cases h : T.fr old with
      | true => rfl
      | false => exact absurd (.inr h) h0
    clear h0
    cases T with
    | leaf k a b => simp [Tm.fr, noS] at hf
    | un k a b t =>
      simp only [Tm.size] at hs
      simp only
      have hE' := hE.un
      rcases hw.1 with ⟨hk, _, _⟩ | ⟨rfl, _, _⟩ | ⟨hk, _, _⟩
      · rcases hk with rfl | rfl | rfl
        · rw [if_pos (by decide)]
          exact rn_33 n ih a b t old name w (by omega) (by omega) hw hl ho hnn hE' hf hon
        · rw [if_neg (by decide), if_pos (by decide), if_pos rfl]
          by_cases h1 : b = old
          · rw [if_pos h1]; exact rn_63_1 n ih a b t old name w (by omega) (by omega) hw hl ho hnn hE hf hon h1
          rw [if_neg h1]
          by_cases h2 : b = name
          · cases h3 : t.fr old with
            | true => rw [if_pos ⟨h2, rfl⟩]; exact rn_63_4 n ih a b t old name w (by omega) (by omega) hw hl ho hnn hE hf hon h2 h3
            | false => rw [if_neg (by simp)]; exact rn_63_3 n ih a b t old name w (by omega) (by omega) hw hl ho hnn hE hf hon h1 h2 h3
          · rw [if_neg (fun q => h2 q.1)]; exact rn_63_2 n ih a b t old name w (by omega) (by omega) hw hl ho hnn hE hf hon h1 h2
        · rw [if_pos (by decide)]
          exact rn_61 n ih a b t old name w (by omega) (by omega) hw hl ho hnn hE' hf hon
      · rw [if_neg (by decide), if_pos (by decide), if_neg (show ¬ (35 : UInt8) = 63 from by decide)]
        by_cases h1 : b = old
        · rw [if_pos h1]; exact rn_35_1 n ih a b t old name w (by omega) (by omega) hw hl ho hnn hE hf hon h1
        rw [if_neg h1]
        by_cases h2 : b = name
        · cases h3 : t.fr old with
          | true => rw [if_pos ⟨h2, rfl⟩]; exact rn_35_4 n ih a b t old name w (by omega) (by omega) hw hl ho hnn hE hf hon h2 h3
          | false => rw [if_neg (by simp)]; exact rn_35_3 n ih a b t old name w (by omega) (by omega) hw hl ho hnn hE hf hon h1 h2 h3
        · rw [if_neg (fun q => h2 q.1)]; exact rn_35_2 n ih a b t old name w (by omega) (by omega) hw hl ho hnn hE hf hon h1 h2
      · rcases hk with rfl | rfl
        · rw [if_neg (by decide), if_neg (by decide)]
          exact rn_42 n ih a b t old name w (by omega) (by omega) hw hl ho hnn hE' hf hon
        · rw [if_neg (by decide), if_neg (by decide)]
          exact rn_126 n ih a b t old name w (by omega) (by omega) hw hl ho hnn hE' hf hon
    | bin k a b t u =>
      simp only [Tm.size] at hs
      exact rn_bin n ih k a b t u old name w (by omega) (by omega) hw hl ho hnn hE.binl hE.binr hf hon

end Go.Proofs.Ytfcadppidgkoaaa.PFnExactRenameFree
