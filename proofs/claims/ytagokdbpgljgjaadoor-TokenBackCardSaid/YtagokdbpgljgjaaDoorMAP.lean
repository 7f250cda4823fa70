/-
The library's variables that this seat's rows list: a world that holds them, and what the rows' condition gives.
-/
import Derived.Test.YtagokdbpgljgjaaDoorCards
import Derived.Test.YtagokdbpgljgjaaDoorTie
import Derived.Deep.DeepHandedRow
import Derived.Lib.LaidTab
import Derived.Test.YtagokdbpgljgjaaDoorMAD
import Derived.Test.YtagokdbpgljgjaaDoorMAO
import Derived.Test.YtagokdbpgljgjaaDoorMAM
set_option linter.unusedSimpArgs false
set_option linter.unusedVariables false
namespace Go.Proofs.YtagokdbpgljgjaaDoor.Tables
open Go.ChangeShapes Go.WideShapes Go.ChangeAt Go.RowKit Go.Proofs.YtagokdbpgljgjaaDoorW.PrintWords Go.Proofs.YtagokdbpgljgjaaDoorW.PrintLast Go.Proofs.YtagokdbpgljgjaaDoorW.PrintMore Go.Proofs.YtagokdbpgljgjaaDoor.Op Go.Proofs.YtagokdbpgljgjaaDoor.Fr Go.Proofs.YtagokdbpgljgjaaDoor.PGramFirsts
def laidList : List (String × DataW Unit) := [("math/bits.deBruijn32tab", Rows.laid_math_bits_deBruijn32tab), ("math/bits.deBruijn64tab", Rows.laid_math_bits_deBruijn64tab), ("internal/strconv.uint64pow10", Rows.laid_internal_strconv_uint64pow10), ("unicode/utf8.acceptRanges", Rows.laid_unicode_utf8_acceptRanges), ("strconv.ErrRange", Rows.laid_strconv_ErrRange), ("strconv.ErrSyntax", Rows.laid_strconv_ErrSyntax), ("unicode/utf8.first", Rows.laid_unicode_utf8_first)]
def litOf : DataW Unit → Value
  | .lit (.int k z) => .int k z
  | _ => .bool false
/-- The cells that a datum of integers names. -/
def cellsIn : DataW Unit → Array Value
  | .agg ds => (ds.flatMap fun
    | .agg es => es.map litOf
    | d => [litOf d]).toArray
  | _ => #[]
def lay (d : DataW Unit) : Obj → Obj
  | .cells _ t frozen => .cells (cellsIn d) t frozen
  | o => o
def layV (v : Value) : Obj → Obj
  | .cells _ t frozen => .cells #[v] t frozen
  | o => o
noncomputable def bare (os : Os) : World := World.holding Tryd.prog os ⟨#[], #[], []⟩
/-- A world whose variables are laid. -/
noncomputable def world (os : Os) : World :=
  { bare os with heap := ((((((((((bare os).heap.modify 3 (lay Rows.laid_internal_strconv_uint64pow10)).modify 6 (lay Rows.laid_math_bits_deBruijn32tab)).modify 7 (lay Rows.laid_math_bits_deBruijn64tab)).modify 5 (lay Rows.laid_unicode_utf8_acceptRanges)).modify 4 (lay Rows.laid_unicode_utf8_first)).modify 2 (layV (.iface 149 (.pointer (some ⟨(bare os).heap.size, 0, none⟩))))).modify 1 (layV (.iface 149 (.pointer (some ⟨(bare os).heap.size + 1, 0, none⟩))))).push (.cells #[.string ⟨#[118, 97, 108, 117, 101, 32, 111, 117, 116, 32, 111, 102, 32, 114, 97, 110, 103, 101]⟩] 151)).push (.cells #[.string ⟨#[105, 110, 118, 97, 108, 105, 100, 32, 115, 121, 110, 116, 97, 120]⟩] 151)) }
end Go.Proofs.YtagokdbpgljgjaaDoor.Tables
/-
What the rows' functions compute: the kinds of all, the tokens of some kinds, the same rows.
-/
set_option linter.unusedSimpArgs false
set_option linter.unusedVariables false
namespace Go.Proofs.YtagokdbpgljgjaaDoor.Tok
open Go.RowKit Go.Proofs.YtagokdbpgljgjaaDoorW.PrintWords Go.Proofs.YtagokdbpgljgjaaDoorW.PrintLast Go.Proofs.YtagokdbpgljgjaaDoorW.PrintMore Go.Proofs.YtagokdbpgljgjaaDoor.PGramFirsts
/-- A function of fuel answers r, from some fuel on. -/
def Fin {α : Type} (f : Nat → Option α) (r : α) : Prop := ∃ K, ∀ k, K ≤ k → f k = some r
theorem Fin.get {α : Type} {f : Nat → Option α} {r : α} (h : Fin f r) : ∃ k, f k = some r := by
  obtain ⟨K, hK⟩ := h
  exact ⟨K, hK K (Nat.le_refl _)⟩
theorem Fin.step {α : Type} {f g : Nat → Option α} {r : α} (h : Fin g r) (hs : ∀ k, f (k + 1) = g k) : Fin f r := by
  obtain ⟨K, hK⟩ := h
  refine ⟨K + 1, fun k hk => ?_⟩
  obtain ⟨k', rfl⟩ : ∃ k', k = k' + 1 := ⟨k - 1, by omega⟩
  rw [hs]
  exact hK k' (by omega)
theorem Fin.one {α : Type} {f : Nat → Option α} {r : α} (hs : ∀ k, f (k + 1) = some r) : Fin f r := by
  refine ⟨1, fun k hk => ?_⟩
  obtain ⟨k', rfl⟩ : ∃ k', k = k' + 1 := ⟨k - 1, by omega⟩
  exact hs k'
theorem wrapN (n : Nat) (h : n < 9223372036854775807) : wrap64 ((n : Int) + 1) = ((n + 1 : Nat) : Int) := by simp only [wrap64]; omega
theorem same_fin (l : List S55) (hl : l.length ≤ 9223372036854775806) : ∀ (n i : Nat), i + n = l.length → Fin (fun k => quoinref07_Same.l0 k l l i) true
  | 0, i, h => Fin.one (fun k => by
    show quoinref07_Same.l0 (k + 1) _ _ _ = _
    rw [quoinref07_Same.l0, if_neg (by omega)])
  | n + 1, i, h => by
    have ih := same_fin l hl n (i + 1) (by omega)
    refine ih.step (fun k => ?_)
    show quoinref07_Same.l0 (k + 1) _ _ _ = _
    rw [quoinref07_Same.l0, if_pos (by omega), if_pos (by omega), if_pos (by omega), if_neg (by simp), wrapN _ (by omega)]
theorem same_some (l : List S55) (hl : l.length ≤ 9223372036854775806) : ∃ k, quoinref07_Same.f k l l = some true := by
  obtain ⟨k, hk⟩ := (same_fin l hl l.length 0 (by omega)).get
  exact ⟨k, by unfold quoinref07_Same.f; rw [if_pos rfl]; exact hk⟩
def put (ks : List Int) (t : S55) (out : List S55) : List S55 := if t.f0 ∈ ks then out ++ [t] else out
end Go.Proofs.YtagokdbpgljgjaaDoor.Tok
/-
What came in, opened: a row of tokens, and how many they are.
-/
set_option linter.unusedSimpArgs false
set_option linter.unusedVariables false
namespace Go.Proofs.YtagokdbpgljgjaaDoor.Tables
open Go.ChangeShapes Go.WideShapes Go.ChangeAt Go.RowKit Go.Proofs.YtagokdbpgljgjaaDoorW.PrintWords Go.Proofs.YtagokdbpgljgjaaDoorW.PrintLast Go.Proofs.YtagokdbpgljgjaaDoorW.PrintMore Go.Proofs.YtagokdbpgljgjaaDoor.Op Go.Proofs.YtagokdbpgljgjaaDoor.Fr Go.Proofs.YtagokdbpgljgjaaDoor.PGramFirsts Go.Proofs.YtagokdbpgljgjaaDoor.Tok
instance : Inhabited S55 := ⟨z55⟩
theorem opens_tok : Opens Tryd.prog k55 55 (fun _ => True) :=
  (opens_fields3 (a := Kd.int .i64) (b := Kd.int .i64) (c := Kd.int .i64) Tryd.underlying55 (by kernel_rfl) rfl (by kernel_rfl) rfl (by kernel_rfl) rfl (by kernel_rfl) (opens_int Tryd.underlying3) (opens_int Tryd.underlying3) (opens_int Tryd.underlying3)).iso (fun x => ⟨x.1, x.2.1, x.2.2⟩) (fun _ => rfl) (fun _ _ => trivial)
theorem mx {W : World} (h : W.ShapedOpen Tryd.prog) : Tok.Mx W := Tryd.laysM145.s1_3 W h
end Go.Proofs.YtagokdbpgljgjaaDoor.Tables
/-
What came in, opened: kinds, a text, and a row over it.
-/
set_option linter.unusedSimpArgs false
set_option linter.unusedVariables false
namespace Go.Proofs.YtagokdbpgljgjaaDoor.Tables
open Go.ChangeShapes Go.WideShapes Go.ChangeAt Go.RowKit Go.Proofs.YtagokdbpgljgjaaDoorW.PrintWords Go.Proofs.YtagokdbpgljgjaaDoorW.PrintLast Go.Proofs.YtagokdbpgljgjaaDoorW.PrintMore Go.Proofs.YtagokdbpgljgjaaDoor.Op Go.Proofs.YtagokdbpgljgjaaDoor.Fr Go.Proofs.YtagokdbpgljgjaaDoor.PGramFirsts Go.Proofs.YtagokdbpgljgjaaDoor.Tok
theorem some_of {α : Type} {n : Nat} {xs : List α} (h : xs.length = n) {i : Nat} (hi : i < n) : ∃ y, xs[i]? = some y := ⟨xs[i]'(by omega), List.getElem?_eq_getElem (by omega)⟩
set_option maxRecDepth 100000 in
/-- Kinds, a text, and a row that came in. -/
theorem row_arg {H : Type} {enc : TypeId × Value → H} {W : World} {base b0 : Nat} {sp : Nat → Bool} {hd : Bool} {r : Reach} {v : Value} {x : DataW H} {ps : List MemPlace} (hv : Value.okWide Tryd.prog W r b0 25 v) (hx : DataW.Trod enc Tryd.prog W base sp hd 25 v x ps) :
    ∃ (ns : List ByteArray) (src : ByteArray) (l : List S55) (A0 A2 : Option Addr) (c0 c2 : Nat), v = .agg #[.slice A0 ns.length c0, .string src, .slice A2 l.length c2] ∧ ns.length ≤ c0 ∧ (∀ s, s ∈ ns → s.size ≤ maxLen) ∧ src.size ≤ maxLen ∧ l.length ≤ c2 ∧ Kd.string.C W A0 ns.length ns ∧ Kd.C k55 W A2 l.length l := by
  obtain ⟨cs, rfl, _⟩ := okWide_struct Tryd.underlying25 hv
  obtain ⟨fuel, hf⟩ := hx
  have hf : DataW.trod enc Tryd.prog W base sp hd fuel 25 cs.toList = some (x, ps) := hf
  obtain ⟨xs, n, rfl, _, hl, hxs, hf⟩ := DataW.trod_struct Tryd.underlying25 hf
  have hl5 : cs.toList.length = 3 := hl.trans (by kernel_rfl)
  have hx5 : xs.length = 3 := hxs
  obtain ⟨l, hl⟩ : ∃ l, l = cs.toList := ⟨_, rfl⟩
  rw [← hl] at hf hl5
  match l, hl5 with
  | [v0, v1, v2], _ =>
    obtain ⟨y0, e0⟩ := some_of hx5 (i := 0) (by omega)
    obtain ⟨y1, e1⟩ := some_of hx5 (i := 1) (by omega)
    obtain ⟨y2, e2⟩ := some_of hx5 (i := 2) (by omega)
    have h0 : DataW.trod enc Tryd.prog W base sp hd n 22 [v0] = some y0 := (hf 0 _ rfl).trans e0
    have h1 : DataW.trod enc Tryd.prog W base sp hd n 9 [v1] = some y1 := (hf 1 _ rfl).trans e1
    have h2 : DataW.trod enc Tryd.prog W base sp hd n 23 [v2] = some y2 := (hf 2 _ rfl).trans e2
    obtain ⟨g0, ⟨_, o0⟩, A0, c0, q0, l0, C0⟩ := opens_slice (d := Kd.string) 9 Tryd.underlying22 (by kernel_rfl) (opens_string Tryd.underlying9) _ _ _ _ _ _ _ _ _ h0
    obtain ⟨src, q1, _, hsrc⟩ := DataW.trod_string Tryd.underlying9 h1
    obtain ⟨g2, ⟨_, _⟩, A2, c2, q2, l2, C2⟩ := opens_slice (d := k55) 55 Tryd.underlying23 (by kernel_rfl) opens_tok _ _ _ _ _ _ _ _ _ h2
    injection q0 with q0
    injection q1 with q1
    injection q2 with q2
    subst q0 q1 q2
    refine ⟨g0, src, g2, A0, A2, c0, c2, ?_, l0, o0, hsrc, l2, C0, C2⟩
    congr 1
    apply Array.toList_inj.1
    rw [← hl]
end Go.Proofs.YtagokdbpgljgjaaDoor.Tables
/-
A row's lines in general: token.Lines, walked; a token may have no line.
-/
set_option linter.unusedSimpArgs false
set_option linter.unusedVariables false
namespace Go.Proofs.YtagokdbpgljgjaaDoor.Tok
open Go.RowKit Go.Proofs.YtagokdbpgljgjaaDoorW.PrintWords Go.Proofs.YtagokdbpgljgjaaDoorW.PrintLast Go.Proofs.YtagokdbpgljgjaaDoorW.PrintMore Go.Proofs.YtagokdbpgljgjaaDoor.Fr Go.Proofs.YtagokdbpgljgjaaDoor.PGramFirsts Go.Proofs.YtagokdbpgljgjaaDoor.TextSet Go.Proofs.YtagokdbpgljgjaaDoor.Bld
def LinesAns (L : S55 → ByteArray) (fit : S55 → Bool) (l : List S55) (e : Ending) : Prop :=
  ((∀ j : Nat, j < l.length → fit (rd_T55 l j) = true) ∧ e = .returned (.tuple #[.string ⟨(linesB L l).toArray⟩, .int .i64 0])) ∨
  ((∃ j : Nat, j < l.length ∧ fit (rd_T55 l j) = false) ∧ e = .returned (.tuple #[.string ⟨#[]⟩, .int .i64 3]))
set_option maxHeartbeats 4000000 in
set_option maxRecDepth 100000 in
theorem lines_any (w : World) (ns : List ByteArray) (A : Option Addr) (cp : Nat) (hA : Kd.string.C w A ns.length ns) (hs : ∀ s, s ∈ ns → s.size ≤ maxLen) (src : ByteArray) (l : List S55) (A2 : Option Addr) (c2 : Nat) (hC : Kd.C k55 w A2 l.length l)
    (hk : KindsOk ns) (hle : l.length ≤ 65536) (hchk : checkF ns.length src.size 0 0 l = (0, 0)) (L : S55 → ByteArray) (fit : S55 → Bool) (hLs : ∀ i : Nat, i < l.length → (L (rd_T55 l i)).size ≤ 100000)
    (hL : ∀ i : Nat, i < l.length → ∀ W, Fr (fun q => w.heap.size ≤ q) w W → Calls Tryd.prog 36 #[.slice A ns.length cp, .string src, .agg #[.int .i64 (rd_T55 l i).f0, .int .i64 (rd_T55 l i).f1, .int .i64 (rd_T55 l i).f2]] W fun e w' => e = .returned (.tuple #[.string (L (rd_T55 l i)), .bool (fit (rd_T55 l i))]) ∧ Fr (fun _ => False) W w') :
    Calls Tryd.prog 18 #[.slice A ns.length cp, .string src, .slice A2 l.length c2] w fun e w' => LinesAns L fit l e ∧ Fr (fun _ => False) w w' := by
  go_enter Tryd.func18, Tryd.ntmps18
  have HA := Aside0.mk hA
  have HC := Aside0.mk hC
  have HS := Aside0.mk hs
  have HK := Aside0.mk hk
  have HL := Aside0.mk hL
  have HLS := Aside0.mk hLs
  have HCH := Aside0.mk hchk
  clear hA hC hs hk hL hLs hchk
  go_wp2_with (fail)
  refine (check_calls w ns A cp HA.out HS.out src l A2 c2 HC.out).mono ?_
  rintro e W1 ⟨⟨a, b, rfl, hr, _, _⟩, hF⟩
  obtain ⟨rfl, rfl⟩ : a = 0 ∧ b = 0 := by
    have := (hr HK.out hle).trans HCH.out
    simpa using this
  have HF0 := Aside0.mk (hF.mono (T := fun q => w.heap.size ≤ q) (fun _ h => h.elim))
  clear hF hr
  go_wp2_with (fail)
  have HB0 := Aside0.mk (show Bd (W1.alloc (.cells #[.pointer none, .slice none 0 0] 79)) w.heap.size W1.heap.size (.pointer none) (.slice none 0 0) [] from ⟨blk_new _ _, Kd.R_nil _ _ _ _ _, .inl rfl⟩)
  have HF1 := Aside0.mk (HF0.out.alloc (.cells #[.pointer none, .slice none 0 0] 79))
  have hsz := HF0.out.size
  obtain ⟨bb, hbb⟩ : ∃ bb, W1.heap.size = bb := ⟨_, rfl⟩
  rw [hbb] at hsz HB0
  simp only [hbb]
  clear hbb HF0
  go_loopw [27] (fun a W => ∃ (i : Nat) (p v : Value), a = .int .i64 i ∧ i ≤ l.length ∧ Aside0 (∀ j : Nat, j < i → fit (rd_T55 l j) = true) ∧ Aside0 (Bd W w.heap.size bb p v (bytesI (linesB L (l.take i)))) ∧ Aside0 (Fr (fun q => w.heap.size ≤ q) w W)) (fun a _ => l.length - (intOf a).toNat)
  case atStart => exact ⟨0, _, _, rfl, Nat.zero_le _, ⟨fun j hj => by omega⟩, HB0, HF1⟩
  case round =>
    clear HB0 HF1
    obtain ⟨i, p, v, rfl, hi, HFT, HB, HF⟩ := hrel
    by_cases hlt : i < l.length
    · obtain ⟨ad, rfl, hx0, hx1, hx2⟩ := at_T55 HC.out (i : Int) (by omega) (by omega)
      have hb0 := World.block_lt_of_cell? w _ hx0
      have hb1 := World.block_lt_of_cell? w _ hx1
      have hb2 := World.block_lt_of_cell? w _ hx2
      replace hx0 := HF.out.cell hx0 (by omega)
      replace hx1 := HF.out.cell hx1 (by omega)
      replace hx2 := HF.out.cell hx2 (by omega)
      clear hb0 hb1 hb2
      simp only [Int.toNat_natCast] at hx0 hx1 hx2
      have HT := Aside0.mk (linesB_take L l i hlt)
      have hl1 := linesB_size L l HLS.out i hi
      have hl2 := HLS.out i hlt
      have HC1 := Aside0.mk (HL.out i hlt)
      have HFI := Aside0.mk (show fit (rd_T55 l i) = true → ∀ j : Nat, j < i + 1 → fit (rd_T55 l j) = true from fun h j hj => by
        by_cases e : j = i
        · subst e
          exact h
        · exact HFT.out j (by omega))
      have HFN := Aside0.mk (show fit (rd_T55 l i) = false → ∃ j : Nat, j < l.length ∧ fit (rd_T55 l j) = false from fun h => ⟨i, hlt, h⟩)
      generalize fit (rd_T55 l i) = fb at HFI HFN HC1
      generalize rd_T55 l i = t at hx0 hx1 hx2 HT HC1 hl2
      obtain ⟨k, f, u⟩ := t
      go_wp2_with (fail)
      have HF1 := Aside0.mk (HF.out.alloc (.cells #[.int .i64 k, .int .i64 f, .int .i64 u] 55))
      have HB1 := Aside0.mk (show Bd (wr.alloc (.cells #[.int .i64 k, .int .i64 f, .int .i64 u] 55)) w.heap.size bb p v (bytesI (linesB L (l.take i))) from ⟨blk_alloc HB.out.blk _, Kd.R_alloc HB.out.row _, HB.out.addr⟩)
      refine (HC1.out _ HF1.out).mono ?_
      rintro e W2 ⟨rfl, hF2⟩
      have HB2 := Aside0.mk (show Bd W2 w.heap.size bb p v (bytesI (linesB L (l.take i))) from ⟨hF2.blk HB1.out.blk id, hF2.R HB1.out.row (fun _ _ => id), HB1.out.addr⟩)
      have HF2 := Aside0.mk (HF1.out.trans hF2 (fun _ _ h => h.elim))
      have hs2 := HF2.out.size
      clear hF2 HB1 HF1 HB HF
      cases fb with
      | false =>
        have HE := Aside0.mk (HFN.out rfl)
        have HFE := Aside0.mk (show Fr (fun _ => False) w W2 from ⟨HF2.out.os, HF2.out.tape, HF2.out.output, HF2.out.size, fun k hk _ => HF2.out.block k hk (by omega)⟩)
        go_wp2_with (fail)
        go_ret2
        exact ⟨.inr ⟨HE.out, rfl⟩, HFE.out⟩
      | true =>
      have HF9 := Aside0.mk (HFI.out rfl)
      go_wp2_with (fail)
      refine (writeString_calls W2 w.heap.size bb _ v _ _ HB2.out hs2 hsz (by omega)).mono ?_
      rintro e W3 ⟨⟨r, rfl⟩, v3, hB3, hF3⟩
      have HB3 := Aside0.mk (show Bd W3 w.heap.size bb _ v3 (bytesI (linesB L (l.take (i + 1)))) by
        rw [← HT.out]; exact hB3)
      have HF3 := Aside0.mk (HF2.out.trans hF3 (fun _ _ h => h))
      clear hB3 hF3 HB2 HF2 HT
      go_wp2_with (fail)
      exact ⟨⟨i + 1, _, v3, by go_num, by omega, HF9, HB3, HF3⟩, by simp [intOf]; omega⟩
    · obtain rfl : i = l.length := by omega
      have HBL := Aside0.mk (is_builder (l := linesB L l) hsz (by have h := HB.out; rw [List.take_length] at h; exact h))
      go_wp2_with (fail)
      refine (Tryd.Builder_String_any w.heap.size bb _ wr HBL.out HF.out.size).mono ?_
      rintro e W3 ⟨rfl, hb⟩
      have HF3 := Aside0.mk ((HF.out.below (Nat.le_refl _) (fun k h1 h2 => by omega)).trans hb)
      clear hb
      go_wp2_with (fail)
      go_ret2
      exact ⟨.inl ⟨HFT.out, rfl⟩, Fr.of_below HF3.out⟩
end Go.Proofs.YtagokdbpgljgjaaDoor.Tok
