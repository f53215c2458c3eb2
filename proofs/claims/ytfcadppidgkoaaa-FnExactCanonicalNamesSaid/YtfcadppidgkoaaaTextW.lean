/- The walk of text: a term of signs and letters is written as its text. -/
import Derived.Test.YtfcadppidgkoaaaFreeW
import Derived.Test.YtfcadppidgkoaaaBase
import Derived.Deep.RegionHeld3
import Derived.Deep.QuietTactic
import Derived.BigQuiet
namespace Go.Proofs.Ytfcadppidgkoaaa
open Go.RowKit Go.Proofs.YtfcadppidgkoaaaW.PrintWords
set_option linter.unusedVariables false
set_option linter.unusedSimpArgs false

theorem ret_str {a b : ByteArray} (h : a = b) : Ending.returned (.string a) = .returned (.string b) := by rw [h]
theorem enc_size {c : UInt8} (h : vl c < 128) : (Utf8.encode (vl c)).size = 1 := by rw [enc_small h]; exact B_size _
def TextUpto (n : Nat) : Prop := ∀ (t : Tm) (w : World) (N b : Nat), t.size ≤ n → Wf isLet t → t.text.length ≤ 1000000 → Lies w N t b →
    Calls Try.prog 123 #[.pointer (some ⟨b, 0, none⟩)] w fun e w' => e = .returned (.string (B t.text)) ∧ Below w.heap.size w w'

theorem un_cells {w : World} {N b : Nat} {k a c : UInt8} {t : Tm} (h : Lies w N (.un k a c t) b) : ∃ r x cap, w.cell? ⟨b, 0, none⟩ = some (.int .u8 (vl k)) ∧ w.cell? ⟨b, 1, none⟩ = some (.int .u8 (vl a)) ∧ w.cell? ⟨b, 2, none⟩ = some (.int .u8 (vl c)) ∧
    w.cell? ⟨b, 3, none⟩ = some (.slice (some ⟨r, 0, none⟩) 1 cap) ∧ w.cell? ⟨r, 0, none⟩ = some (.pointer (some ⟨x, 0, none⟩)) ∧ Lies w N t x := by
  obtain ⟨h0, r, cap, x, h1, hn, hk, hl⟩ := h
  exact ⟨r, x, cap, hn.cells.1, hn.cells.2.1, hn.cells.2.2.1, hn.cells.2.2.2, hk.cell, hl⟩

set_option maxHeartbeats 1000000 in
theorem text_star (n : Nat) (ih : TextUpto n) (t : Tm) (w : World) (N b : Nat) (hs : t.size ≤ n) (hw : Wf isLet t) (hlen : (42 :: t.text).length ≤ 1000000) (hl : Lies w N (.un 42 0 0 t) b) :
    Calls Try.prog 123 #[.pointer (some ⟨b, 0, none⟩)] w fun e w' => e = .returned (.string (B (42 :: t.text))) ∧ Below w.heap.size w w' := by
  obtain ⟨r, x, cap, c0, c1, c2, c3, c4, hx⟩ := un_cells hl
  simp only [List.length_cons] at hlen
  have hz : (B t.text).size = t.text.length := B_size _
  have happ : Hid ((⟨#[42]⟩ : ByteArray) ++ B t.text = B (42 :: t.text)) := B_append [42] t.text
  clear hl
  go_enter Try.func123, Try.ntmps123
  go_wp2_with fail
  refine (ih t _ N _ hs hw (by omega) hx).mono ?_
  rintro e w1 ⟨rfl, hb⟩
  go_wp2_with fail
  go_ret
  exact ⟨by rw [← happ.out]; rfl, hb⟩

set_option maxHeartbeats 1000000 in
theorem text_tilde (n : Nat) (ih : TextUpto n) (t : Tm) (w : World) (N b : Nat) (hs : t.size ≤ n) (hw : Wf isLet t) (hlen : (126 :: 46 :: t.text).length ≤ 1000000) (hl : Lies w N (.un 126 0 0 t) b) :
    Calls Try.prog 123 #[.pointer (some ⟨b, 0, none⟩)] w fun e w' => e = .returned (.string (B (126 :: 46 :: t.text))) ∧ Below w.heap.size w w' := by
  obtain ⟨r, x, cap, c0, c1, c2, c3, c4, hx⟩ := un_cells hl
  simp only [List.length_cons] at hlen
  have hz : (B t.text).size = t.text.length := B_size _
  have happ : Hid ((⟨#[126, 46]⟩ : ByteArray) ++ B t.text = B (126 :: 46 :: t.text)) := B_append [126, 46] t.text
  clear hl
  go_enter Try.func123, Try.ntmps123
  go_wp2_with fail
  refine (ih t _ N _ hs hw (by omega) hx).mono ?_
  rintro e w1 ⟨rfl, hb⟩
  go_wp2_with fail
  go_ret
  exact ⟨by rw [← happ.out]; rfl, hb⟩

theorem str35 : (⟨#[35]⟩ : ByteArray) = B [35] := rfl
theorem str40 : (⟨#[40]⟩ : ByteArray) = B [40] := rfl
theorem str41 : (⟨#[41]⟩ : ByteArray) = B [41] := rfl
theorem str46 : (⟨#[46]⟩ : ByteArray) = B [46] := rfl
theorem str61 : (⟨#[61]⟩ : ByteArray) = B [61] := rfl
theorem str91 : (⟨#[91]⟩ : ByteArray) = B [91] := rfl
theorem str93 : (⟨#[93]⟩ : ByteArray) = B [93] := rfl
attribute [local irreducible] Utf8.encode
set_option maxHeartbeats 2000000 in
set_option maxRecDepth 100000 in
theorem text_hash (n : Nat) (ih : TextUpto n) (c : UInt8) (t : Tm) (w : World) (N b : Nat) (hs : t.size ≤ n) (hc : isLet c = true) (hw : Wf isLet t) (hlen : (35 :: c :: 46 :: t.text).length ≤ 1000000) (hl : Lies w N (.un 35 0 c t) b) :
    Calls Try.prog 123 #[.pointer (some ⟨b, 0, none⟩)] w fun e w' => e = .returned (.string (B (35 :: c :: 46 :: t.text))) ∧ Below w.heap.size w w' := by
  obtain ⟨r, x, cap, c0, c1, c2, c3, c4, hx⟩ := un_cells hl
  simp only [List.length_cons] at hlen
  have hz : (B t.text).size = t.text.length := B_size _
  obtain ⟨v0, v1⟩ := vl_range c
  have hbl : b < w.heap.size := World.block_lt_of_cell? w _ c2
  have hrl : r < w.heap.size := World.block_lt_of_cell? w _ c4
  clear hl
  go_enter Try.func123, Try.ntmps123
  go_wp2_with fail
  have hz1 := enc_size (let_lt hc)
  have hwr : IntKind.i32.wrap (vl c) = vl c := by rw [IntKind.wrap_i32]; omega
  have hb1 : (9223372036854775807 < 3 + t.text.length) = False := eq_false (by omega)
  go_region_held3 (fun w' => w'.cell? ⟨b, 2, none⟩ = some (.int .u8 (vl c)) ∧ w'.cell? ⟨b, 3, none⟩ = some (.slice (some ⟨r, 0, none⟩) 1 cap) ∧ w'.cell? ⟨r, 0, none⟩ = some (.pointer (some ⟨x, 0, none⟩))) (first | exact ⟨c2, c3, c4⟩ | exact ⟨(hb.cell hbl).trans c2, (hb.cell hbl).trans c3, (hb.cell hrl).trans c4⟩ | go_keep)
    (first | (go_at_call 123; refine (ih t _ N _ hs hw (by omega) ?_).mono ?_; (exact hx.keep fun _ _ _ => rfl); rintro e w1 ⟨rfl, hb⟩))
  all_goals
    go_wp2_with fail
    go_ret
    refine ⟨ret_str ?_, ⟨hb.os, hb.tape, hb.output, hb.size, hb.block⟩⟩
    show ((⟨#[35]⟩ : ByteArray) ++ Utf8.encode (vl c)) ++ (⟨#[46]⟩ : ByteArray) ++ B t.text = _
    rw [enc_small (let_lt hc), str35, str46, B_append, B_append, B_append]
    rfl

set_option maxHeartbeats 2000000 in
set_option maxRecDepth 100000 in
theorem text_match (n : Nat) (ih : TextUpto n) (a c : UInt8) (t : Tm) (w : World) (N b : Nat) (hs : t.size ≤ n) (ha : isLet a = true) (hc : isLet c = true) (hw : Wf isLet t) (hlen : (91 :: a :: 61 :: c :: 93 :: t.text).length ≤ 1000000) (hl : Lies w N (.un 61 a c t) b) :
    Calls Try.prog 123 #[.pointer (some ⟨b, 0, none⟩)] w fun e w' => e = .returned (.string (B (91 :: a :: 61 :: c :: 93 :: t.text))) ∧ Below w.heap.size w w' := by
  obtain ⟨r, x, cap, c0, c1, c2, c3, c4, hx⟩ := un_cells hl
  simp only [List.length_cons] at hlen
  have hz : (B t.text).size = t.text.length := B_size _
  obtain ⟨v0, v1⟩ := vl_range c
  obtain ⟨u0, u1⟩ := vl_range a
  have hbl : b < w.heap.size := World.block_lt_of_cell? w _ c2
  have hrl : r < w.heap.size := World.block_lt_of_cell? w _ c4
  clear hl
  go_enter Try.func123, Try.ntmps123
  go_wp2_with fail
  have hz1 := enc_size (let_lt hc)
  have hz2 := enc_size (let_lt ha)
  have hwr : IntKind.i32.wrap (vl c) = vl c := by rw [IntKind.wrap_i32]; omega
  have hwr2 : IntKind.i32.wrap (vl a) = vl a := by rw [IntKind.wrap_i32]; omega
  have hb1 : (9223372036854775807 < 5 + t.text.length) = False := eq_false (by omega)
  go_region_held3 (fun w' => w'.cell? ⟨b, 1, none⟩ = some (.int .u8 (vl a)) ∧ w'.cell? ⟨b, 2, none⟩ = some (.int .u8 (vl c)) ∧ w'.cell? ⟨b, 3, none⟩ = some (.slice (some ⟨r, 0, none⟩) 1 cap) ∧ w'.cell? ⟨r, 0, none⟩ = some (.pointer (some ⟨x, 0, none⟩))) (first | exact ⟨c1, c2, c3, c4⟩ | exact ⟨(hb.cell hbl).trans c1, (hb.cell hbl).trans c2, (hb.cell hbl).trans c3, (hb.cell hrl).trans c4⟩ | go_keep)
    (first | (go_at_call 123; refine (ih t _ N _ hs hw (by omega) ?_).mono ?_; (exact hx.keep fun _ _ _ => rfl); rintro e w1 ⟨rfl, hb⟩))
  all_goals
    go_wp2_with fail
    go_ret
    refine ⟨ret_str ?_, ⟨hb.os, hb.tape, hb.output, hb.size, hb.block⟩⟩
    show (((((⟨#[91]⟩ : ByteArray) ++ Utf8.encode (vl a)) ++ (⟨#[61]⟩ : ByteArray)) ++ Utf8.encode (vl c)) ++ (⟨#[93]⟩ : ByteArray)) ++ B t.text = _
    rw [enc_small (let_lt hc), enc_small (let_lt ha), str91, str61, str93, B_append, B_append, B_append, B_append, B_append]
    rfl

set_option maxHeartbeats 4000000 in
set_option maxRecDepth 100000 in
theorem text_bin (n : Nat) (ih : TextUpto n) (k : UInt8) (t u : Tm) (w : World) (N b : Nat) (hs : t.size ≤ n) (hs2 : u.size ≤ n) (hk : k = 43 ∨ k = 38) (hw : Wf isLet t) (hw2 : Wf isLet u) (hlen : (Tm.bin k 0 0 t u).text.length ≤ 1000000) (hl : Lies w N (.bin k 0 0 t u) b) :
    Calls Try.prog 123 #[.pointer (some ⟨b, 0, none⟩)] w fun e w' => e = .returned (.string (B (Tm.bin k 0 0 t u).text)) ∧ Below w.heap.size w w' := by
  obtain ⟨h0, r, cap, x, y, h1, hn, hk1, hk2, hx, hy⟩ := hl
  obtain ⟨c0, c1, c2, c3⟩ := hn.cells
  have c4 := hk1.cell
  have c5 := hk2.cell
  simp only [Tm.text, List.length_cons, List.length_append, List.length_nil] at hlen
  have hz : (B t.text).size = t.text.length := B_size _
  have hz' : (B u.text).size = u.text.length := B_size _
  have hbl : b < w.heap.size := World.block_lt_of_cell? w _ c2
  have hrl : r < w.heap.size := World.block_lt_of_cell? w _ c4
  obtain ⟨v0, v1⟩ := vl_range k
  clear h0 h1 hn hk1 hk2
  have hklt : vl k < 128 := by rcases hk with rfl | rfl <;> decide
  have q1 : (vl k == 48) = false := by rcases hk with rfl | rfl <;> decide
  have q2 : (vl k == 43 || vl k == 38) = true := by rcases hk with rfl | rfl <;> decide
  have q3 : vl k = 43 ∨ vl k = 38 := by rcases hk with rfl | rfl <;> decide
  clear hk
  have hpart : (vl k == 43) = true ∨ (vl k == 43) = false ∧ (vl k == 38) = true := by
    rcases q3 with h | h
    · left; rw [h]; rfl
    · right; rw [h]; exact ⟨rfl, rfl⟩
  clear q2 q3
  rcases hpart with q2 | ⟨q2, q3⟩
  all_goals
    go_enter Try.func123, Try.ntmps123
    go_wp2_with fail
    have hz1 := enc_size hklt
    have hwr : IntKind.i32.wrap (vl k) = vl k := by rw [IntKind.wrap_i32]; omega
    have hb1 : (9223372036854775807 < 1 + t.text.length) = False := eq_false (by omega)
    have hb2 : (9223372036854775807 < 1 + t.text.length + 1) = False := eq_false (by omega)
    have hb3 : (9223372036854775807 < 1 + t.text.length + 1 + u.text.length) = False := eq_false (by omega)
    have hb4 : (9223372036854775807 < 1 + t.text.length + 1 + u.text.length + 1) = False := eq_false (by omega)
    go_region_held3 (fun w' => w'.cell? ⟨b, 0, none⟩ = some (.int .u8 (vl k)) ∧ w'.cell? ⟨b, 3, none⟩ = some (.slice (some ⟨r, 0, none⟩) 2 cap) ∧ w'.cell? ⟨r, 0, none⟩ = some (.pointer (some ⟨x, 0, none⟩)) ∧ w'.cell? ⟨r, 1, none⟩ = some (.pointer (some ⟨y, 0, none⟩)))
      (first | exact ⟨c0, c3, c4, c5⟩ | exact ⟨(hb2'.cell (Nat.lt_of_lt_of_le hbl hb.size)).trans ((hb.cell hbl).trans c0), (hb2'.cell (Nat.lt_of_lt_of_le hbl hb.size)).trans ((hb.cell hbl).trans c3), (hb2'.cell (Nat.lt_of_lt_of_le hrl hb.size)).trans ((hb.cell hrl).trans c4), (hb2'.cell (Nat.lt_of_lt_of_le hrl hb.size)).trans ((hb.cell hrl).trans c5)⟩ | exact ⟨(hb.cell hbl).trans c0, (hb.cell hbl).trans c3, (hb.cell hrl).trans c4, (hb.cell hrl).trans c5⟩ | go_keep)
      (first | (go_at_call 123; refine (ih t _ N _ hs hw (by omega) ?_).mono ?_; (exact hx.keep fun _ _ _ => rfl); rintro e w1 ⟨rfl, hb0⟩; have hb : Below w.heap.size w w1 := ⟨hb0.os, hb0.tape, hb0.output, hb0.size, hb0.block⟩) | (go_at_call 123; refine (ih u _ N _ hs2 hw2 (by omega) ?_).mono ?_; (exact hy.below hb); rintro e w2 ⟨rfl, hb2'⟩))
    all_goals
      go_wp2_with fail
      go_ret
      refine ⟨ret_str ?_, below_then hb hb.size ⟨hb2'.os, hb2'.tape, hb2'.output, hb2'.size, hb2'.block⟩⟩
      show ((((⟨#[40]⟩ : ByteArray) ++ B t.text) ++ Utf8.encode (vl k)) ++ B u.text) ++ (⟨#[41]⟩ : ByteArray) = _
      rw [enc_small hklt, str40, str41, B_append, B_append, B_append, B_append]
      simp [Tm.text]

theorem conv_head (a k c : UInt8) : ∀ (W : World) (g : Nat), W.cell? ⟨g, 0, none⟩ = some (.int .u8 (vl a)) → W.cell? ⟨g, 1, none⟩ = some (.int .u8 (vl k)) → W.cell? ⟨g, 2, none⟩ = some (.int .u8 (vl c)) → W.cell? ⟨g, 3, none⟩ = some (.int .u8 46) →
    (convert 98 9 (.slice (some ⟨g, 0, none⟩) 4 4)).run Try.prog W = .ok (.string (B [a, k, c, 46])) W := by
  intro W g h0 h1 h2 h3
  have h := string_of_reads (w := W) (c := 4) (P := Try.prog) (src := 98) (dst := 9) (e := 5) (A := some ⟨g, 0, none⟩) (n := 4) (xs := [vl a, vl k, vl c, 46]) Try.underlying98 Try.underlying5 Try.underlying9
    ⟨rfl, by omega, fun _ => ⟨_, rfl, fun j hj => by
      rw [add_plain]
      rcases (by omega : j = 0 ∨ j = 1 ∨ j = 2 ∨ j = 3) with rfl | rfl | rfl | rfl
      · exact h0
      · exact h1
      · exact h2
      · exact h3⟩⟩
  rw [h]
  simp [strOfNums, B, vl]
theorem below_ad (w : World) (o : Obj) : Below w.heap.size w (w.alloc o).drew := by
  have h := below_alloc (Below.refl w.heap.size w) o
  exact ⟨h.os, h.tape, h.output, h.size, h.block⟩
theorem below_d (w : World) : Below w.heap.size w w.drew := ⟨rfl, rfl, rfl, Nat.le_refl _, fun _ _ => rfl⟩
theorem below_from {w W0 w1 : World} (h0 : Below w.heap.size w W0) (h : Below W0.heap.size W0 w1) : Below w.heap.size w w1 := below_then h0 h0.size h

theorem four_cells {w w1 : World} {x0 x1 x2 x3 : Value} {e : TypeId} (hb : Below ((w.alloc (.cells #[x0, x1, x2, x3] e)).drew).heap.size (w.alloc (.cells #[x0, x1, x2, x3] e)).drew w1) :
    w1.cell? ⟨w.heap.size, 0, none⟩ = some x0 ∧ w1.cell? ⟨w.heap.size, 1, none⟩ = some x1 ∧ w1.cell? ⟨w.heap.size, 2, none⟩ = some x2 ∧ w1.cell? ⟨w.heap.size, 3, none⟩ = some x3 := by
  have h : w1.heap[w.heap.size]? = some (.cells #[x0, x1, x2, x3] e (0, 0)) := (hb.block w.heap.size (by simp)).trans (heap_alloc_new w _)
  exact ⟨blk_cell h 0, blk_cell h 1, blk_cell h 2, blk_cell h 3⟩
theorem text_leaf (w : World) (N b : Nat) (hl : Lies w N (.leaf 48 0 0) b) :
    Calls Try.prog 123 #[.pointer (some ⟨b, 0, none⟩)] w fun e w' => e = .returned (.string (B [48])) ∧ Below w.heap.size w w' := by
  obtain ⟨_, o, cap, hn⟩ := hl
  have c0 := hn.cells.1
  clear hn
  go_enter Try.func123, Try.ntmps123
  go_wp2_with fail
  go_ret
  exact ⟨rfl, Below.refl _ _⟩
set_option maxHeartbeats 4000000 in
set_option maxRecDepth 100000 in
theorem text_name (n : Nat) (ih : TextUpto n) (k a c : UInt8) (t : Tm) (w : World) (N b : Nat) (hs : t.size ≤ n) (hk : k = 33 ∨ k = 63) (hw : Wf isLet t) (hlen : (a :: k :: c :: 46 :: t.text).length ≤ 1000000) (hl : Lies w N (.un k a c t) b) :
    Calls Try.prog 123 #[.pointer (some ⟨b, 0, none⟩)] w fun e w' => e = .returned (.string (B (a :: k :: c :: 46 :: t.text))) ∧ Below w.heap.size w w' := by
  obtain ⟨r, x, cap, c0, c1, c2, c3, c4, hx⟩ := un_cells hl
  simp only [List.length_cons] at hlen
  have hz : (B t.text).size = t.text.length := B_size _
  have hbl : b < w.heap.size := World.block_lt_of_cell? w _ c2
  have hrl : r < w.heap.size := World.block_lt_of_cell? w _ c4
  have q1 : (vl k == 48) = false := by rcases hk with rfl | rfl <;> decide
  have q2 : (vl k == 43) = false := by rcases hk with rfl | rfl <;> decide
  have q3 : (vl k == 38) = false := by rcases hk with rfl | rfl <;> decide
  have q4 : (vl k == 35) = false := by rcases hk with rfl | rfl <;> decide
  have q5 : (vl k == 61) = false := by rcases hk with rfl | rfl <;> decide
  have q6 : (vl k == 42) = false := by rcases hk with rfl | rfl <;> decide
  have q7 : (vl k == 126) = false := by rcases hk with rfl | rfl <;> decide
  clear hl hk
  go_enter Try.func123, Try.ntmps123
  go_wp2_with fail
  have hb1 : (9223372036854775807 < 4 + t.text.length) = False := eq_false (by omega)
  have hcv := conv_head a k c
  have hz4 : (B [a, k, c, 46]).size = 4 := B_size _
  go_region_held (fun w' => w'.cell? ⟨b, 0, none⟩ = some (.int .u8 (vl k)) ∧ w'.cell? ⟨b, 1, none⟩ = some (.int .u8 (vl a)) ∧ w'.cell? ⟨b, 2, none⟩ = some (.int .u8 (vl c)) ∧ w'.cell? ⟨b, 3, none⟩ = some (.slice (some ⟨r, 0, none⟩) 1 cap) ∧ w'.cell? ⟨r, 0, none⟩ = some (.pointer (some ⟨x, 0, none⟩)))
    (first | exact ⟨c0, c1, c2, c3, c4⟩ | exact ⟨(hb.cell hbl).trans c0, (hb.cell hbl).trans c1, (hb.cell hbl).trans c2, (hb.cell hbl).trans c3, (hb.cell hrl).trans c4⟩ | go_keep)
    (first
      | (go_at_call 123; refine (ih t _ N _ hs hw (by omega) ?_).mono ?_; (exact hx.below (below_d _)); rintro e w1 ⟨rfl, hb0⟩; have hb := below_from (below_d _) hb0)
      | (go_at_call 123; refine (ih t _ N _ hs hw (by omega) ?_).mono ?_; (exact hx.below (below_ad _ _)); rintro e w1 ⟨rfl, hb0⟩; have hb := below_from (below_ad _ _) hb0; obtain ⟨e0, e1, e2, e3⟩ := four_cells hb0))
  all_goals
    go_wp2_with fail
    go_ret
    refine ⟨ret_str ?_, by first | exact hb | exact below_alloc hb _⟩
    show B [a, k, c, 46] ++ B t.text = _
    rw [B_append]
    rfl

theorem text_any (n : Nat) : TextUpto n := by
  induction n with
  | zero => intro t w N b h; have := t.size_pos; omega
  | succ n ih =>
    intro t w N b hs hw hlen hl
    cases t with
    | leaf k a c =>
      obtain ⟨rfl, rfl, rfl⟩ := hw
      exact text_leaf w N b hl
    | un k a c t =>
      simp only [Tm.size] at hs
      rcases hw.1 with ⟨hk, ha, hc⟩ | ⟨rfl, rfl, hc⟩ | ⟨hk, rfl, rfl⟩
      · rcases hk with rfl | rfl | rfl
        · exact text_name n ih 33 a c t w N b (by omega) (.inl rfl) hw.2 hlen hl
        · exact text_name n ih 63 a c t w N b (by omega) (.inr rfl) hw.2 hlen hl
        · exact text_match n ih a c t w N b (by omega) ha hc hw.2 hlen hl
      · exact text_hash n ih c t w N b (by omega) hc hw.2 hlen hl
      · rcases hk with rfl | rfl
        · exact text_star n ih t w N b (by omega) hw.2 hlen hl
        · exact text_tilde n ih t w N b (by omega) hw.2 hlen hl
    | bin k a c t u =>
      obtain ⟨hk, rfl, rfl, hw1, hw2⟩ := hw
      simp only [Tm.size] at hs
      exact text_bin n ih k t u w N b (by omega) (by omega) hk hw1 hw2 hlen hl

end Go.Proofs.Ytfcadppidgkoaaa
