/-
How lines are read: a token's line, its pieces, and that it is no other token's. Plain.
-/
import Derived.Lib.AtoiAllCases
import Derived.Lib.Split
import Derived.Test.YtagokdbpgljgjaaDoorMAW
import Derived.Shelf.Strings.Builder1
import Derived.Shelf.Strings.BuilderF
import Derived.Shelf.Strings.BuilderK
import Derived.Shelf.Strconv.Atoi
import Derived.Shelf.Strconv.Itoa0
import Derived.Shelf.Strconv.Itoa1
import Derived.Shelf.LaysM
import Derived.Shelf.Strconv.Itoa2
import Derived.Shelf.Strconv.Itoa3
import Derived.Shelf.Strconv.AtoiErrFast
import Derived.Shelf.Strconv.ParseIntEmpty
import Derived.Shelf.Strconv.AtoiFail
import Derived.Shelf.Strconv.Clone
import Derived.Shelf.Strconv.SyntaxError
import Derived.Shelf.LaysC
import Derived.Shelf.Strconv.ToError
import Derived.Shelf.Strconv.AtoiErr
import Derived.Shelf.Strconv.ErrVar
import Derived.Shelf.Strconv.Lower
import Derived.Shelf.Strconv.ParseUint10
import Derived.Shelf.Strconv.ParseUint10Empty
import Derived.Shelf.Strconv.ParseUint10Any
import Derived.Shelf.Strconv.ParseInt10
import Derived.Shelf.Strconv.AtoiLong
import Derived.Shelf.Strconv.AtoiInnerAll
import Derived.Shelf.Strconv.RangeError
import Derived.Shelf.Strconv.ToErrorRange
import Derived.Shelf.Strconv.AtoiAll
import Derived.Shelf.Strconv.ErrVarAll
import Derived.Shelf.Strings.Search1
import Derived.Shelf.Strings.Search2
import Derived.Shelf.Strings.Search3
import Derived.Shelf.Strings.Cut
import Derived.Shelf.Strings.Count
import Derived.Shelf.Strings.Shaped
import Derived.Shelf.Strings.Prefix
import Derived.Shelf.Strings.Split
import Derived.Shelf.Unicode.DecodeSlow
import Derived.Shelf.Strings.BuilderCap
import Derived.Test.YtagokdbpgljgjaaDoorProg
set_option linter.unusedSimpArgs false
set_option linter.unusedVariables false
namespace Go.Proofs.YtagokdbpgljgjaaDoor.Tok
open Go.RowKit Go.Proofs.YtagokdbpgljgjaaDoorW.PrintWords Go.Proofs.YtagokdbpgljgjaaDoorW.PrintLast Go.Proofs.YtagokdbpgljgjaaDoorW.PrintMore Go.Proofs.YtagokdbpgljgjaaDoor.Fr Go.Proofs.YtagokdbpgljgjaaDoor.PGramFirsts Go.Proofs.YtagokdbpgljgjaaDoor.TextSet Go.Proofs.YtagokdbpgljgjaaDoor.Bld Go.Proofs.YtagokdbpgljgjaaDoor.Utf
theorem index_at {b : UInt8} {y : List UInt8} : ∀ {x : List UInt8}, b ∉ x → Lib.index (x ++ b :: y) [b] = x.length
  | [], _ => by simp [Lib.index]
  | a :: x, h => by
    have ha : ¬ b = a := fun e => h (by rw [e]; exact List.mem_cons_self ..)
    have ih := index_at (y := y) (x := x) (fun e => h (List.mem_cons_of_mem _ e))
    have hc : (((x.length : Nat) : Int) == -1) = false := by rw [beq_eq_false_iff_ne]; omega
    rw [List.cons_append, Lib.index, if_neg (by simp [List.isPrefixOf, ha]), ih, hc]
    simp
theorem index_no {b : UInt8} : ∀ {x : List UInt8}, b ∉ x → Lib.index x [b] = -1
  | [], _ => by simp [Lib.index]
  | a :: x, h => by
    have ha : ¬ b = a := fun e => h (by rw [e]; exact List.mem_cons_self ..)
    have ih := index_no (x := x) (fun e => h (List.mem_cons_of_mem _ e))
    rw [Lib.index, if_neg (by simp [List.isPrefixOf, ha]), ih]
    rfl
theorem cut_at {b : UInt8} {x y : List UInt8} (h : b ∉ x) : Lib.cut (x ++ b :: y) [b] = (x, y, true) := by
  unfold Lib.cut
  rw [index_at h, if_pos (by omega)]
  simp
theorem cut_no {b : UInt8} {x : List UInt8} (h : b ∉ x) : Lib.cut x [b] = (x, [], false) := by
  unfold Lib.cut
  rw [index_no h, if_neg (by omega)]
/-- A text, up to its first newline and behind. -/
theorem line_split (l : List UInt8) : (10 ∉ l) ∨ ∃ x y, l = x ++ 10 :: y ∧ 10 ∉ x := by
  induction l with
  | nil => exact .inl (by simp)
  | cons a l ih =>
    by_cases ha : a = 10
    · exact .inr ⟨[], l, by rw [ha]; rfl, by simp⟩
    · rcases ih with ih | ⟨x, y, rfl, hx⟩
      · exact .inl (by simp [ih]; exact fun e => ha e.symm)
      · exact .inr ⟨a :: x, y, rfl, by simp [hx]; exact fun e => ha e.symm⟩
theorem digs_all (u : Nat) : ∀ b, b ∈ Lib.decDigits u → 48 ≤ b.toNat ∧ b.toNat ≤ 57 := by
  induction u using Nat.strongRecOn with
  | _ u ih =>
    intro b hb
    have one : ∀ k, k < 10 → b = UInt8.ofNat (48 + k) → 48 ≤ b.toNat ∧ b.toNat ≤ 57 := by
      intro k hk e
      have e2 : b.toNat = 48 + k := by rw [e, UInt8.toNat_ofNat']; omega
      omega
    rw [Lib.decDigits] at hb
    split at hb
    · rename_i h
      exact one u h (List.mem_singleton.1 hb)
    · rename_i h
      rcases List.mem_append.1 hb with hb | hb
      · exact ih (u / 10) (by omega) b hb
      · exact one (u % 10) (by omega) (List.mem_singleton.1 hb)
theorem digs_ne (u : Nat) : Lib.decDigits u ≠ [] := by
  rw [Lib.decDigits]
  split <;> simp
theorem parse_app : ∀ (l : List UInt8) (acc a : Nat) (r : List UInt8), Lib.parseUint10 acc l = .ok a → Lib.parseUint10 acc (l ++ r) = Lib.parseUint10 a r
  | [], acc, a, r, h => by
    simp only [Lib.parseUint10] at h
    injection h with h
    rw [h]
    rfl
  | c :: l, acc, a, r, h => by
    rw [List.cons_append]
    rw [Lib.parseUint10] at h ⊢
    split at h
    · rename_i hc
      rw [if_pos hc]
      split at h
      · cases h
      · rename_i h1
        rw [if_neg h1]
        split at h
        · cases h
        · rename_i h2
          rw [if_neg h2]
          exact parse_app l _ a r h
    · cases h
theorem parse_digs (u : Nat) (h : u < 9223372036854775808) : Lib.parseUint10 0 (Lib.decDigits u) = .ok u := by
  induction u using Nat.strongRecOn with
  | _ u ih =>
    have one : ∀ k acc, k < 10 → acc * 10 + k < 9223372036854775808 → Lib.parseUint10 acc [UInt8.ofNat (48 + k)] = .ok (acc * 10 + k) := by
      intro k acc hk hb
      have e2 : (UInt8.ofNat (48 + k)).toNat = 48 + k := by rw [UInt8.toNat_ofNat']; omega
      rw [Lib.parseUint10, e2, if_pos (by omega), if_neg (by omega), if_neg (by omega), Lib.parseUint10]
      congr 1
      omega
    rw [Lib.decDigits]
    split
    · rename_i hu
      have := one u 0 hu (by omega)
      simpa using this
    · rename_i hu
      rw [parse_app _ _ _ _ (ih (u / 10) (by omega) (by omega)), one (u % 10) (u / 10) (by omega) (by omega)]
      congr 1
      omega
theorem itB_data (n : Nat) : (itB n).data.toList = Lib.decDigits n := by
  show ((Lib.itoa (n : Int)).toArray).toList = _
  unfold Lib.itoa
  rw [if_neg (by omega)]
  simp
theorem atoi_itB (n : Nat) (h : n ≤ 9223372036854775807) : Lib.atoiAll (itB n).data.toList = .ok (n : Int) := by
  rw [itB_data]
  have hp := parse_digs n (by omega)
  have hd := digs_all n
  cases hl : Lib.decDigits n with
  | nil => exact absurd hl (digs_ne n)
  | cons c r =>
    rw [hl] at hp hd
    have := hd c (List.mem_cons_self ..)
    rw [Lib.atoiAll_plain c r (by omega) (by omega)]
    unfold Lib.parseMag
    rw [if_neg (by simp), hp]
    show (if 9223372036854775808 ≤ n then _ else _) = _
    rw [if_neg (by omega)]
theorem no_digit {n : Nat} {b : UInt8} (h : b.toNat < 48) : b ∉ (itB n).data.toList := by
  rw [itB_data]
  intro hb
  have := digs_all n b hb
  omega
/-- A token's line but for its newline. -/
def bodyG (nm : ByteArray) (f t : Nat) (q : ByteArray) : ByteArray := nm ++ ⟨#[32]⟩ ++ itB f ++ ⟨#[32]⟩ ++ itB t ++ ⟨#[32]⟩ ++ q
theorem data_append (a b : ByteArray) : (a ++ b).data.toList = a.data.toList ++ b.data.toList := by simp
theorem body_data (nm : ByteArray) (f t : Nat) (q : ByteArray) : (bodyG nm f t q).data.toList = nm.data.toList ++ 32 :: ((itB f).data.toList ++ 32 :: ((itB t).data.toList ++ 32 :: q.data.toList)) := by
  unfold bodyG
  simp only [data_append]
  simp
theorem splitK_hit {sep : UInt8} {k : Nat} {x y : List UInt8} (h : sep ∉ x) : Lib.splitK [sep] 0 (k + 1) (x ++ sep :: y) = x :: Lib.splitK [sep] 0 k y := by
  have hc : (((x.length : Nat) : Int) == -1) = false := by rw [beq_eq_false_iff_ne]; omega
  rw [Lib.splitK, index_at h, hc]
  simp
theorem data_inj {a b : ByteArray} (h : a.data.toList = b.data.toList) : a = b := by
  obtain ⟨⟨a⟩⟩ := a
  obtain ⟨⟨b⟩⟩ := b
  simp only at h
  rw [h]
theorem map_data_inj : ∀ {l m : List ByteArray}, l.map (·.data.toList) = m.map (·.data.toList) → l = m
  | [], [], _ => rfl
  | [], _ :: _, h => by simp at h
  | _ :: _, [], h => by simp at h
  | a :: l, b :: m, h => by
    rw [List.map_cons, List.map_cons] at h
    injection h with h1 h2
    rw [data_inj h1, map_data_inj h2]
theorem split_body (nm : ByteArray) (f t : Nat) (q : ByteArray) (h : (32 : UInt8) ∉ nm.data.toList) : Lib.splitB ⟨#[32]⟩ 0 3 (bodyG nm f t q) = [nm, itB f, itB t, q] := by
  refine map_data_inj ?_
  rw [Lib.splitB_data, body_data]
  show Lib.splitK [32] 0 3 _ = _
  rw [splitK_hit h, splitK_hit (no_digit (by decide)), splitK_hit (no_digit (by decide))]
  rfl
theorem okc_byte {s : ByteArray} {i : Nat} (h : okc (bt s i) i = true) : bt s i ≠ 10 ∧ bt s i ≠ 32 := by
  unfold okc at h
  have h := of_decide_eq_true h
  omega
theorem named_l0 (s : ByteArray) (hs : s.size ≤ maxLen) : ∀ (n i : Nat), i + n = s.size → token_named.l0 (n + 1) s i = some true → ∀ k : Nat, i ≤ k → k < s.size → bt s k ≠ 10 ∧ bt s k ≠ 32
  | 0, i, h, _, k, h1, h2 => absurd h2 (by omega)
  | n + 1, i, h, hf, k, h1, h2 => by
    have hm : maxLen = 9223372036854775807 := rfl
    rw [named_step (n + 1) s i (by omega)] at hf
    split at hf
    · rename_i ho
      by_cases e : k = i
      · rw [e]
        exact okc_byte ho
      · rw [show wrap64 ((i : Int) + 1) = ((i + 1 : Nat) : Int) by simp only [wrap64]; omega] at hf
        exact named_l0 s hs n (i + 1) (by omega) hf k (by omega) h2
    · simp at hf
theorem get_bt {s : ByteArray} {k : Nat} (hk : k < s.size) : bt s k = ((s.data.toList[k]'(by simpa using hk)).toNat : Int) := by
  unfold bt
  simp [hk, ByteArray.getElem_eq_getElem_data]
theorem named_bytes {s : ByteArray} (hs : s.size ≤ maxLen) (h : named s = true) : (10 : UInt8) ∉ s.data.toList ∧ (32 : UInt8) ∉ s.data.toList := by
  have hf := named_some s hs
  rw [h] at hf
  unfold token_named.f at hf
  have hb := named_l0 s hs s.size 0 (by omega) hf
  constructor
  · intro hm
    obtain ⟨k, hk, e⟩ := List.getElem_of_mem hm
    have hk' : k < s.size := by simpa using hk
    have := (hb k (by omega) hk').1
    rw [get_bt hk', e] at this
    exact this rfl
  · intro hm
    obtain ⟨k, hk, e⟩ := List.getElem_of_mem hm
    have hk' : k < s.size := by simpa using hk
    have := (hb k (by omega) hk').2
    rw [get_bt hk', e] at this
    exact this rfl
theorem raw_mem {s : ByteArray} {i j : Nat} {b : UInt8} (h : b ∈ rawL s i j) : ∃ k, i ≤ k ∧ k < j ∧ k < s.size ∧ b = s.get! k := by
  unfold rawL at h
  rw [Lib.extract_data] at h
  obtain ⟨k, hk, e⟩ := List.getElem_of_mem h
  simp only [List.length_take, List.length_drop] at hk
  have hz : s.data.toList.length = s.size := by simp
  refine ⟨i + k, by omega, by omega, by omega, ?_⟩
  rw [Utf.get_at (show i + k < s.size by omega), ByteArray.getElem_eq_getElem_data, ← e]
  simp
theorem hexD_nl {n : Nat} (h : n < 16) : (10 : UInt8) ≠ hexD n := by
  have h1 : (List.range 16).all (fun k => hexD k != 10) = true := by decide +kernel
  have := List.all_eq_true.1 h1 n (List.mem_range.2 h)
  intro e
  rw [← e] at this
  simp at this
theorem piece_nl (s : ByteArray) (i : Nat) (h : i < s.size) : (10 : UInt8) ∉ pieceI (nextF s i).1 (nextF s i).2.2 (s.get! i).toNat (rawL s i (i + (nextF s i).2.1)) := by
  have hb : (s.get! i).toNat < 256 := (s.get! i).toNat_lt
  unfold pieceI
  split
  · decide
  split
  · decide
  split
  · decide
  split
  · rename_i hr
    rcases hr with hr | hr <;> rw [hr] <;> decide
  split
  · have h1 := hexD_nl (n := (s.get! i).toNat / 16) (by omega)
    have h2 := hexD_nl (n := (s.get! i).toNat % 16) (by omega)
    simp [h1, h2]
  · rename_i n10 _ _ _ hbad
    intro hm
    obtain ⟨k, hk1, hk2, hk3, e⟩ := raw_mem hm
    have e2 : (s.get! k).toNat = 10 := by rw [← e]; rfl
    rcases next_shape s i h with ⟨b0, h0, h1, e3⟩ | ⟨b0, b1, h0, h1, h2, h3, h4, h5, e3⟩ | ⟨b0, b1, b2, h0, h1, h2, h3, h4, h5, h6, h7, h8, e3⟩ | ⟨b0, b1, b2, b3, h0, h1, h2, h3, h4, h5, h6, h7, h8, h9, h10, e3⟩ | e3
    · rw [e3] at hk2 n10
      simp only at hk2 n10
      obtain rfl : k = i := by omega
      omega
    · rw [e3] at hk2
      simp only at hk2
      rcases (by omega : k = i ∨ k = i + 1) with rfl | rfl <;> omega
    · rw [e3] at hk2
      simp only at hk2
      rcases (by omega : k = i ∨ k = i + 1 ∨ k = i + 2) with rfl | rfl | rfl <;> omega
    · rw [e3] at hk2
      simp only at hk2
      rcases (by omega : k = i ∨ k = i + 1 ∨ k = i + 2 ∨ k = i + 3) with rfl | rfl | rfl | rfl <;> omega
    · exact hbad (.inl (by rw [e3]))
theorem qL_nl (s : ByteArray) : ∀ (n i : Nat), s.size - i ≤ n → (10 : UInt8) ∉ qL (rawL s) s i
  | 0, i, h => by rw [qL_out (by omega)]; simp
  | n + 1, i, h => by
    by_cases c : i < s.size
    · rw [qL_in c]
      obtain ⟨h1, h2, h3⟩ := next_size s i c
      have h4 := qL_nl s n (i + (nextF s i).2.1) (by omega)
      have h5 := piece_nl s i c
      simp only [List.mem_append, not_or]
      exact ⟨h5, h4⟩
    · rw [qL_out c]; simp
theorem quote_nl (s : ByteArray) : (10 : UInt8) ∉ (quoteF s).1.data.toList := by
  unfold quoteF
  split
  · have := qL_nl s (s.size - 0) 0 (Nat.le_refl _)
    show (10 : UInt8) ∉ quoteL s
    unfold quoteL
    simp [this]
  · simp
end Go.Proofs.YtagokdbpgljgjaaDoor.Tok
/-
What lines are read as: a relation, that answers once. Plain.
-/
set_option linter.unusedSimpArgs false
set_option linter.unusedVariables false
namespace Go.Proofs.YtagokdbpgljgjaaDoor.Tok
open Go.RowKit Go.Proofs.YtagokdbpgljgjaaDoorW.PrintWords Go.Proofs.YtagokdbpgljgjaaDoorW.PrintLast Go.Proofs.YtagokdbpgljgjaaDoorW.PrintMore Go.Proofs.YtagokdbpgljgjaaDoor.Fr Go.Proofs.YtagokdbpgljgjaaDoor.PGramFirsts Go.Proofs.YtagokdbpgljgjaaDoor.TextSet Go.Proofs.YtagokdbpgljgjaaDoor.Bld Go.Proofs.YtagokdbpgljgjaaDoor.Utf
/-- A token that may stand in a row, from a place on, and that fits a line. -/
def Good (ns : List ByteArray) (src : ByteArray) (a : Int) (t : S55) : Prop := 2 ≤ t.f0 ∧ t.f0 < ns.length ∧ a ≤ t.f1 ∧ t.f1 ≤ t.f2 ∧ t.f2 ≤ src.size ∧ fitT t = true
/-- A token's line, but for its newline. -/
def bodyS (ns : List ByteArray) (src : ByteArray) (t : S55) : ByteArray := bodyG (rdOf ByteArray.empty ns t.f0) t.f1.toNat t.f2.toNat (quoteF (src.extract t.f1.toNat t.f2.toNat)).1
theorem lineS_body (ns : List ByteArray) (src : ByteArray) (t : S55) : lineS ns src t = bodyS ns src t ++ ⟨#[10]⟩ := rfl
theorem name_bytes {ns : List ByteArray} (hk : KindsOk ns) (hs : ∀ s, s ∈ ns → s.size ≤ maxLen) (x : Int) : (10 : UInt8) ∉ (rdOf ByteArray.empty ns x).data.toList ∧ (32 : UInt8) ∉ (rdOf ByteArray.empty ns x).data.toList := by
  by_cases h : x.toNat < ns.length
  · have h1 : rdOf ByteArray.empty ns x ∈ ns := by
      unfold rdOf
      rw [List.getD_eq_getElem?_getD, List.getElem?_eq_getElem h]
      exact List.getElem_mem h
    exact named_bytes (hs _ h1) (hk.all _ h1)
  · have : rdOf ByteArray.empty ns x = ByteArray.empty := by
      unfold rdOf
      rw [List.getD_eq_getElem?_getD, List.getElem?_eq_none (by omega)]
      rfl
    rw [this]
    exact ⟨by simp, by simp⟩
theorem body_nl {ns : List ByteArray} (hk : KindsOk ns) (hs : ∀ s, s ∈ ns → s.size ≤ maxLen) (src : ByteArray) (t : S55) : (10 : UInt8) ∉ (bodyS ns src t).data.toList := by
  unfold bodyS
  rw [body_data]
  have h1 := (name_bytes hk hs t.f0).1
  have h2 := no_digit (n := t.f1.toNat) (b := 10) (by decide)
  have h3 := no_digit (n := t.f2.toNat) (b := 10) (by decide)
  have h4 := quote_nl (src.extract t.f1.toNat t.f2.toNat)
  simp [h1, h2, h3, h4]
theorem body_split {ns : List ByteArray} (hk : KindsOk ns) (hs : ∀ s, s ∈ ns → s.size ≤ maxLen) (src : ByteArray) (t : S55) : Lib.splitB ⟨#[32]⟩ 0 3 (bodyS ns src t) = [rdOf ByteArray.empty ns t.f0, itB t.f1.toNat, itB t.f2.toNat, (quoteF (src.extract t.f1.toNat t.f2.toNat)).1] := split_body _ _ _ _ (name_bytes hk hs t.f0).2
theorem itB_inj {m n : Nat} (hm : m ≤ 9223372036854775807) (hn : n ≤ 9223372036854775807) (h : itB m = itB n) : m = n := by
  have h1 := atoi_itB m hm
  rw [h, atoi_itB n hn] at h1
  injection h1 with h1
  omega
theorem name_inj {ns : List ByteArray} (hk : KindsOk ns) {i j : Nat} (hi : i < ns.length) (hj : j < ns.length) (h : rdS ns i = rdS ns j) : i = j := by
  have hu := ok_upto hk
  rcases Nat.lt_trichotomy i j with c | c | c
  · exact absurd h ((hu j hj).2 i c)
  · exact c
  · exact absurd h.symm ((hu i hi).2 j c)
theorem good_one {ns : List ByteArray} (hk : KindsOk ns) (hs : ∀ s, s ∈ ns → s.size ≤ maxLen) {src : ByteArray} (hsr : src.size ≤ 9223372036854775807) {a b : Int} (ha : 0 ≤ a) (hb : 0 ≤ b) {t u : S55} (h1 : Good ns src a t) (h2 : Good ns src b u) (e : bodyS ns src t = bodyS ns src u) : t = u := by
  have s1 := body_split hk hs src t
  have s2 := body_split hk hs src u
  rw [e, s2] at s1
  simp only [List.cons.injEq, and_true] at s1
  obtain ⟨e0, e1, e2, _⟩ := s1
  obtain ⟨t1, t2, t3, t4, t5, _⟩ := h1
  obtain ⟨u1, u2, u3, u4, u5, _⟩ := h2
  have i1 := itB_inj (by omega) (by omega) e1
  have i2 := itB_inj (by omega) (by omega) e2
  have i0 : u.f0.toNat = t.f0.toNat := name_inj hk (by omega) (by omega) e0
  obtain ⟨x0, x1, x2⟩ := t
  obtain ⟨y0, y1, y2⟩ := u
  simp only at *
  congr 1 <;> omega
/-- What is read: a row, or the number of the first wrong line. -/
inductive Rd (ns : List ByteArray) (src : ByteArray) : Nat → Int → List UInt8 → List S55 → Option Nat → Prop
  | done {n : Nat} {a : Int} : Rd ns src n a [] [] none
  | open_ {n : Nat} {a : Int} (l : List UInt8) (h : l ≠ []) (h10 : (10 : UInt8) ∉ l) : Rd ns src n a l [] (some n)
  | bad {n : Nat} {a : Int} (x y : List UInt8) (h10 : (10 : UInt8) ∉ x) (h : 65536 ≤ n ∨ ¬ ∃ t, Good ns src a t ∧ (bodyS ns src t).data.toList = x) : Rd ns src n a (x ++ 10 :: y) [] (some n)
  | tok {n : Nat} {a : Int} (x y : List UInt8) (t : S55) (l : List S55) (r : Option Nat) (h10 : (10 : UInt8) ∉ x) (hn : n < 65536) (hg : Good ns src a t) (hb : (bodyS ns src t).data.toList = x) (hr : Rd ns src (n + 1) t.f2 y l r) : Rd ns src n a (x ++ 10 :: y) (t :: l) r
theorem split_one {x y x' y' : List UInt8} (h : (10 : UInt8) ∉ x) (h' : (10 : UInt8) ∉ x') (e : x ++ 10 :: y = x' ++ 10 :: y') : x = x' ∧ y = y' := by
  have h1 := cut_at (y := y) h
  rw [e, cut_at h'] at h1
  injection h1 with a b
  injection b with b c
  exact ⟨a.symm, b.symm⟩
/-- Two readings say alike: the row counts only where no line is wrong. -/
def Alike (l : List S55) (r : Option Nat) (l' : List S55) (r' : Option Nat) : Prop := r = r' ∧ (r = none → l = l')
theorem Rd.one {ns : List ByteArray} (hk : KindsOk ns) (hs : ∀ s, s ∈ ns → s.size ≤ maxLen) {src : ByteArray} (hsr : src.size ≤ 9223372036854775807) : ∀ {n : Nat} {a : Int} {x : List UInt8} {l : List S55} {r : Option Nat}, Rd ns src n a x l r → 0 ≤ a → ∀ {l' : List S55} {r' : Option Nat}, Rd ns src n a x l' r' → Alike l r l' r' := by
  intro n a x l r h
  induction h with
  | done =>
    intro ha l' r' h'
    generalize hz : ([] : List UInt8) = z at h'
    cases h' with
    | done => exact ⟨rfl, fun _ => rfl⟩
    | open_ _ h _ => exact absurd hz.symm h
    | bad x y => simp at hz
    | tok x y => simp at hz
  | open_ l h h10 =>
    intro ha l' r' h'
    cases h' with
    | done => exact absurd rfl h
    | open_ => exact ⟨rfl, fun h => by cases h⟩
    | bad x y => simp at h10
    | tok x y => simp at h10
  | bad x y h10 h =>
    intro ha l' r' h'
    generalize hz : x ++ 10 :: y = z at h'
    cases h' with
    | done => simp at hz
    | open_ _ _ hn => rw [← hz] at hn; simp at hn
    | bad x' y' => exact ⟨rfl, fun h => by cases h⟩
    | tok x' y' t l r g10 hn hg hb hr =>
      obtain ⟨rfl, rfl⟩ := split_one h10 g10 hz
      rcases h with h | h
      · omega
      · exact absurd ⟨t, hg, hb⟩ h
  | tok x y t l r h10 hn hg hb hr ih =>
    intro ha l' r' h'
    generalize hz : x ++ 10 :: y = z at h'
    cases h' with
    | done => simp at hz
    | open_ _ _ hn => rw [← hz] at hn; simp at hn
    | bad x' y' g10 h =>
      obtain ⟨rfl, rfl⟩ := split_one h10 g10 hz
      rcases h with h | h
      · omega
      · exact absurd ⟨t, hg, hb⟩ h
    | tok x' y' t' l' r' g10 hn' hg' hb' hr' =>
      obtain ⟨rfl, rfl⟩ := split_one h10 g10 hz
      have et : t = t' := good_one hk hs hsr ha ha hg hg' (data_inj (hb.trans hb'.symm))
      subst et
      have := ih (by have := hg.2.2.1; have := hg.2.2.2.1; omega) hr'
      exact ⟨this.1, fun e => by rw [this.2 e]⟩
/-- A row that may be is read back. -/
theorem Rd.back {ns : List ByteArray} (hk : KindsOk ns) (hs : ∀ s, s ∈ ns → s.size ≤ maxLen) {src : ByteArray} : ∀ (l : List S55) (n : Nat) (a i : Int), n + l.length ≤ 65536 → checkF ns.length src.size a i l = (0, 0) → (∀ t, t ∈ l → fitT t = true) → Rd ns src n a (linesB (lineS ns src) l) l none
  | [], n, a, i, _, _, _ => Rd.done
  | t :: l, n, a, i, hn, hc, hf => by
    by_cases hr : 2 ≤ t.f0 ∧ t.f0 < ns.length ∧ a ≤ t.f1 ∧ t.f1 ≤ t.f2 ∧ t.f2 ≤ src.size
    · rw [checkF_yes hr] at hc
      have ih := Rd.back hk hs l (n + 1) t.f2 (i + 1) (by simp only [List.length_cons] at hn; omega) hc (fun u hu => hf u (List.mem_cons_of_mem _ hu))
      have e : linesB (lineS ns src) (t :: l) = (bodyS ns src t).data.toList ++ 10 :: linesB (lineS ns src) l := by
        show (lineS ns src t).data.toList ++ linesB (lineS ns src) l = _
        rw [lineS_body, data_append, List.append_assoc]
        rfl
      rw [e]
      exact Rd.tok _ _ t l none (body_nl hk hs src t) (by simp only [List.length_cons] at hn; omega) ⟨hr.1, hr.2.1, hr.2.2.1, hr.2.2.2.1, hr.2.2.2.2, hf t (List.mem_cons_self ..)⟩ rfl ih
    · rw [checkF_no hr] at hc
      simp at hc
/-- What is read without a fault is a row that may be, and its lines are the lines. -/
theorem Rd.lines {ns : List ByteArray} {src : ByteArray} {n : Nat} {a : Int} {x : List UInt8} {l : List S55} {r : Option Nat} (h : Rd ns src n a x l r) : r = none → x = linesB (lineS ns src) l ∧ (n ≤ 65536 → n + l.length ≤ 65536) ∧ (∀ i : Int, checkF ns.length src.size a i l = (0, 0)) ∧ ∀ t, t ∈ l → fitT t = true := by
  induction h with
  | done => exact fun _ => ⟨rfl, fun h => by simpa using h, fun i => rfl, fun t ht => by cases ht⟩
  | open_ => intro h; cases h
  | bad => intro h; cases h
  | tok x y t l r h10 hn hg hb hr ih =>
    intro he
    obtain ⟨h1, h2, h3, h4⟩ := ih he
    refine ⟨?_, fun _ => ?_, fun i => ?_, ?_⟩
    · show _ = (lineS ns src t).data.toList ++ linesB (lineS ns src) l
      rw [lineS_body, data_append, hb, ← h1, List.append_assoc]
      rfl
    · have := h2 (by omega)
      simp only [List.length_cons]
      omega
    · rw [checkF_yes ⟨hg.1, hg.2.1, hg.2.2.1, hg.2.2.2.1, hg.2.2.2.2.1⟩]
      exact h3 _
    · intro u hu
      rcases List.mem_cons.1 hu with rfl | hu
      · exact hg.2.2.2.2.2
      · exact h4 u hu
end Go.Proofs.YtagokdbpgljgjaaDoor.Tok
/- Of the shelf's contracts laid over this program (the kit's lay-shelf): those that are used. -/
set_option linter.unusedSimpArgs false
set_option linter.unusedVariables false
namespace Go.Proofs
open Go.Shelf
def Tryd.laysC172_ren_a : Go.Shelf.Ren := ⟨fun | 172 => 51 | 244 => 62 | 245 => 63 | 247 => 75 | 279 => 76 | 280 => 77 | 281 => 78 | 282 => 79 | 287 => 88 | 316 => 89 | 171 => 46 | 205 => 90 | 321 => 96 | 322 => 97 | 243 => 55 | 246 => 65 | 283 => 81 | 284 => 82 | 285 => 83 | 286 => 84 | 129 => 92 | 317 => 91 | 318 => 93 | 319 => 94 | 320 => 95 | 337 => 98 | 338 => 99 | n => n, fun | 9 => 9 | 3 => 3 | 75 => 83 | 76 => 84 | 4 => 4 | 5 => 5 | 167 => 120 | 37 => 77 | 0 => 0 | 85 => 121 | 2 => 2 | 168 => 123 | 53 => 127 | 175 => 134 | 46 => 104 | 210 => 138 | 127 => 96 | 145 => 151 | 143 => 149 | 21 => 21 | 171 => 126 | 173 => 130 | 212 => 141 | 51 => 112 | 20 => 20 | 213 => 142 | 232 => 153 | 233 => 154 | 80 => 86 | n => n, fun | 15 => 1 | 16 => 2 | 17 => 3 | 18 => 6 | 19 => 7 | n => n⟩
theorem Tryd.laysC172_a : Go.Proofs.LaysC.n172 Tryd.prog Tryd.laysC172_ren_a := {
  mixed := by kernel_rfl
  f129 := Tryd.func92.trans (congrArg some (by kernel_rfl))
  f171 := Tryd.func46.trans (congrArg some (by kernel_rfl))
  f172 := Tryd.func51.trans (congrArg some (by kernel_rfl))
  f205 := Tryd.func90.trans (congrArg some (by kernel_rfl))
  f243 := Tryd.func55.trans (congrArg some (by kernel_rfl))
  f244 := Tryd.func62.trans (congrArg some (by kernel_rfl))
  f245 := Tryd.func63.trans (congrArg some (by kernel_rfl))
  f246 := Tryd.func65.trans (congrArg some (by kernel_rfl))
  f247 := Tryd.func75.trans (congrArg some (by kernel_rfl))
  f279 := Tryd.func76.trans (congrArg some (by kernel_rfl))
  f280 := Tryd.func77.trans (congrArg some (by kernel_rfl))
  f281 := Tryd.func78.trans (congrArg some (by kernel_rfl))
  f282 := Tryd.func79.trans (congrArg some (by kernel_rfl))
  f283 := Tryd.func81.trans (congrArg some (by kernel_rfl))
  f284 := Tryd.func82.trans (congrArg some (by kernel_rfl))
  f285 := Tryd.func83.trans (congrArg some (by kernel_rfl))
  f286 := Tryd.func84.trans (congrArg some (by kernel_rfl))
  f287 := Tryd.func88.trans (congrArg some (by kernel_rfl))
  f316 := Tryd.func89.trans (congrArg some (by kernel_rfl))
  f317 := Tryd.func91.trans (congrArg some (by kernel_rfl))
  f318 := Tryd.func93.trans (congrArg some (by kernel_rfl))
  f319 := Tryd.func94.trans (congrArg some (by kernel_rfl))
  f320 := Tryd.func95.trans (congrArg some (by kernel_rfl))
  f321 := Tryd.func96.trans (congrArg some (by kernel_rfl))
  f322 := Tryd.func97.trans (congrArg some (by kernel_rfl))
  f337 := Tryd.func98.trans (congrArg some (by kernel_rfl))
  f338 := Tryd.func99.trans (congrArg some (by kernel_rfl))
  t0 := Tryd.underlying0
  a0 := Tryd.isAgg0
  z0 := Tryd.sizeOf0
  v0 := Tryd.zeroValue0
  t2 := Tryd.underlying2
  a2 := Tryd.isAgg2
  z2 := Tryd.sizeOf2
  v2 := Tryd.zeroValue2
  t3 := Tryd.underlying3
  a3 := Tryd.isAgg3
  z3 := Tryd.sizeOf3
  v3 := Tryd.zeroValue3
  t4 := Tryd.underlying4
  a4 := Tryd.isAgg4
  z4 := Tryd.sizeOf4
  v4 := Tryd.zeroValue4
  t5 := Tryd.underlying5
  a5 := Tryd.isAgg5
  z5 := Tryd.sizeOf5
  v5 := Tryd.zeroValue5
  t9 := Tryd.underlying9
  a9 := Tryd.isAgg9
  z9 := Tryd.sizeOf9
  v9 := Tryd.zeroValue9
  t20 := Tryd.underlying20
  a20 := Tryd.isAgg20
  z20 := Tryd.sizeOf20
  v20 := Tryd.zeroValue20
  t21 := Tryd.underlying21
  a21 := Tryd.isAgg21
  z21 := Tryd.sizeOf21
  v21 := Tryd.zeroValue21
  t37 := Tryd.underlying77
  a37 := Tryd.isAgg77
  z37 := Tryd.sizeOf77
  v37 := Tryd.zeroValue77
  t46 := Tryd.underlying104
  a46 := Tryd.isAgg104
  z46 := Tryd.sizeOf104
  v46 := Tryd.zeroValue104
  t51 := Tryd.underlying112
  a51 := Tryd.isAgg112
  z51 := Tryd.sizeOf112
  v51 := Tryd.zeroValue112
  t53 := Tryd.underlying127
  a53 := Tryd.isAgg127
  z53 := Tryd.sizeOf127
  v53 := Tryd.zeroValue127
  t75 := Tryd.underlying83
  a75 := Tryd.isAgg83
  z75 := Tryd.sizeOf83
  v75 := Tryd.zeroValue83
  t76 := Tryd.underlying84
  a76 := Tryd.isAgg84
  z76 := Tryd.sizeOf84
  v76 := Tryd.zeroValue84
  t85 := Tryd.underlying121
  a85 := Tryd.isAgg121
  z85 := Tryd.sizeOf121
  v85 := Tryd.zeroValue121
  t127 := Tryd.underlying96
  a127 := Tryd.isAgg96
  z127 := Tryd.sizeOf96
  v127 := Tryd.zeroValue96
  t143 := Tryd.underlying149
  a143 := Tryd.isAgg149
  z143 := Tryd.sizeOf149
  v143 := Tryd.zeroValue149
  t145 := Tryd.underlying151
  a145 := Tryd.isAgg151
  z145 := Tryd.sizeOf151
  v145 := Tryd.zeroValue151
  t167 := Tryd.underlying120
  a167 := Tryd.isAgg120
  z167 := Tryd.sizeOf120
  v167 := Tryd.zeroValue120
  t168 := Tryd.underlying123
  a168 := Tryd.isAgg123
  z168 := Tryd.sizeOf123
  v168 := Tryd.zeroValue123
  t171 := Tryd.underlying126
  a171 := Tryd.isAgg126
  z171 := Tryd.sizeOf126
  v171 := Tryd.zeroValue126
  t173 := Tryd.underlying130
  a173 := Tryd.isAgg130
  z173 := Tryd.sizeOf130
  v173 := Tryd.zeroValue130
  t175 := Tryd.underlying134
  a175 := Tryd.isAgg134
  z175 := Tryd.sizeOf134
  v175 := Tryd.zeroValue134
  t210 := Tryd.underlying138
  a210 := Tryd.isAgg138
  z210 := Tryd.sizeOf138
  v210 := Tryd.zeroValue138
  t212 := Tryd.underlying141
  a212 := Tryd.isAgg141
  z212 := Tryd.sizeOf141
  v212 := Tryd.zeroValue141
  t213 := Tryd.underlying142
  a213 := Tryd.isAgg142
  z213 := Tryd.sizeOf142
  t232 := Tryd.underlying153
  a232 := Tryd.isAgg153
  z232 := Tryd.sizeOf153
  v232 := Tryd.zeroValue153
  t233 := Tryd.underlying154
  a233 := Tryd.isAgg154
  z233 := Tryd.sizeOf154
  v233 := Tryd.zeroValue154
  g15 := by kernel_rfl
  g16 := by kernel_rfl
  g17 := by kernel_rfl
  g18 := by kernel_rfl
  g19 := by kernel_rfl
  t80 := Tryd.underlying86
  a80 := Tryd.isAgg86
  z80 := Tryd.sizeOf86
  v80 := Tryd.zeroValue86
  i0 := by kernel_rfl
  i2 := by kernel_rfl
  i3 := by kernel_rfl
  i4 := by kernel_rfl
  i5 := by kernel_rfl
  i9 := by kernel_rfl
  i20 := by kernel_rfl
  i21 := by kernel_rfl
  i37 := by kernel_rfl
  i46 := by kernel_rfl
  i51 := by kernel_rfl
  i53 := by kernel_rfl
  i75 := by kernel_rfl
  i76 := by kernel_rfl
  i80 := by kernel_rfl
  i85 := by kernel_rfl
  i127 := by kernel_rfl
  i143 := by kernel_rfl
  i145 := by kernel_rfl
  i167 := by kernel_rfl
  i168 := by kernel_rfl
  i171 := by kernel_rfl
  i173 := by kernel_rfl
  i175 := by kernel_rfl
  i210 := by kernel_rfl
  i212 := by kernel_rfl
  i232 := by kernel_rfl
  i233 := by kernel_rfl
  m15 := by kernel_rfl
  m16 := by kernel_rfl
  m17 := by kernel_rfl
  m18 := by kernel_rfl
  m19 := by kernel_rfl
  c0 := by kernel_rfl
  c2 := by kernel_rfl
  c3 := by kernel_rfl
  c4 := by kernel_rfl
  c5 := by kernel_rfl
  c9 := by kernel_rfl
  c20 := by kernel_rfl
  c21 := by kernel_rfl
  c37 := by kernel_rfl
  c46 := by kernel_rfl
  c51 := by kernel_rfl
  c53 := by kernel_rfl
  c75 := by kernel_rfl
  c76 := by kernel_rfl
  c80 := by kernel_rfl
  c85 := by kernel_rfl
  c127 := by kernel_rfl
  c143 := by kernel_rfl
  c145 := by kernel_rfl
  c167 := by kernel_rfl
  c168 := by kernel_rfl
  c171 := by kernel_rfl
  c173 := by kernel_rfl
  c175 := by kernel_rfl
  c210 := by kernel_rfl
  c212 := by kernel_rfl
  c213 := by kernel_rfl
  c232 := by kernel_rfl
  c233 := by kernel_rfl }
open Go.RowKit in
theorem Tryd.strconv_Atoi_ok_a (s : ByteArray) (hmax : s.size ≤ 9223372036854775806) (v : Int) (h : Lib.atoiAll s.data.toList = .ok v) (w : World) :
    Calls Tryd.prog 51 #[.string s] w fun e w' => e = .returned (.tuple #[.int .i64 v, .nilIface]) ∧ (w' = w ∨ ∃ t, w' = Lib.bytesWorld w 5 t) := Any.strconv_Atoi_ok Tryd.laysC172_a s hmax v h w
open Go.RowKit in
theorem Tryd.strconv_Atoi_syntax_a (s : ByteArray) (hlim : s.size ≤ 281474976710656) (h : Lib.atoiAll s.data.toList = Lib.atoiAll []) (ev : Value) (w : World) (hv : w.cell? ⟨1, 0, none⟩ = some ev) (hev : ev = .nilIface ∨ ∃ te pe, ev = .iface te pe) :
    Calls Tryd.prog 51 #[.string s] w fun e w' => ∃ N, e = .returned (.tuple #[.int .i64 (0), .iface 123 (.pointer (some ⟨N, 0, none⟩))]) ∧ w.heap.size ≤ N ∧ w'.heap[N]? = some (.cells #[.string ⟨#[65, 116, 111, 105]⟩, .string s, ev] 138 (0, 0)) ∧ Below w.heap.size w w' := Any.strconv_Atoi_syntax Tryd.laysC172_a s hlim h ev w hv hev
open Go.RowKit in
theorem Tryd.strconv_Atoi_range_a (s : ByteArray) (hlim : s.size ≤ 281474976710656) (h : Lib.atoiAll s.data.toList = .range) (ev : Value) (w : World) (hv : w.cell? ⟨2, 0, none⟩ = some ev) (hev : ev = .nilIface ∨ ∃ te pe, ev = .iface te pe) :
    Calls Tryd.prog 51 #[.string s] w fun e w' => ∃ N, e = .returned (.tuple #[.int .i64 (Lib.atoiSat s.data.toList), .iface 123 (.pointer (some ⟨N, 0, none⟩))]) ∧ w.heap.size ≤ N ∧ w'.heap[N]? = some (.cells #[.string ⟨#[65, 116, 111, 105]⟩, .string s, ev] 138 (0, 0)) ∧ Below w.heap.size w w' := Any.strconv_Atoi_range Tryd.laysC172_a s hlim h ev w hv hev
end Go.Proofs
/-
A number in its one form, of any text: token.number and the document's, walked.
-/
set_option linter.unusedSimpArgs false
set_option linter.unusedVariables false
namespace Go.Proofs.YtagokdbpgljgjaaDoor.Tok
open Go.RowKit Go.Proofs.YtagokdbpgljgjaaDoorW.PrintWords Go.Proofs.YtagokdbpgljgjaaDoorW.PrintLast Go.Proofs.YtagokdbpgljgjaaDoorW.PrintMore Go.Proofs.YtagokdbpgljgjaaDoor.Fr Go.Proofs.YtagokdbpgljgjaaDoor.PGramFirsts Go.Proofs.YtagokdbpgljgjaaDoor.TextSet Go.Proofs.YtagokdbpgljgjaaDoor.Bld Go.Proofs.YtagokdbpgljgjaaDoor.Utf
/-- The library's two errors stand. -/
def Errs (w : World) : Prop := ∃ e1 e2, w.cell? ⟨1, 0, none⟩ = some e1 ∧ (e1 = .nilIface ∨ ∃ te pe, e1 = .iface te pe) ∧ w.cell? ⟨2, 0, none⟩ = some e2 ∧ (e2 = .nilIface ∨ ∃ te pe, e2 = .iface te pe)
theorem Errs.go {w W : World} (h : Errs w) (hF : Fr (fun _ => False) w W) : Errs W := by
  obtain ⟨e1, e2, h1, k1, h2, k2⟩ := h
  exact ⟨e1, e2, hF.cell h1 id, k1, hF.cell h2 id, k2⟩
/-- What strconv.Atoi answers of any text. -/
theorem atoi_any (w : World) (s : ByteArray) (hs : s.size ≤ 281474976710656) (hE : Errs w) :
    Calls Tryd.prog 51 #[.string s] w fun e w' => (∃ n v, e = .returned (.tuple #[.int .i64 n, v]) ∧ ((v = .nilIface ∧ Lib.atoiAll s.data.toList = .ok n ∧ -9223372036854775808 ≤ n ∧ n ≤ 9223372036854775807) ∨ ((∃ t p, v = .iface t p) ∧ ∀ m, Lib.atoiAll s.data.toList ≠ .ok m))) ∧ Fr (fun _ => False) w w' := by
  obtain ⟨e1, e2, h1, k1, h2, k2⟩ := hE
  rcases h : Lib.atoiAll s.data.toList with v | _ | _
  · refine (Tryd.strconv_Atoi_ok_a s (by omega) v h w).mono ?_
    rintro e w' ⟨rfl, hw⟩
    refine ⟨⟨v, _, rfl, .inl ⟨rfl, rfl, Lib.atoiAll_bounds h⟩⟩, ?_⟩
    rcases hw with rfl | ⟨t, rfl⟩
    · exact Fr.refl _ _
    · exact Fr.of_below (Lib.bytesWorld_below w _ t)
  · refine (Tryd.strconv_Atoi_syntax_a s hs h e1 w h1 k1).mono ?_
    rintro e w' ⟨N, rfl, _, _, hb⟩
    exact ⟨⟨_, _, rfl, .inr ⟨⟨_, _, rfl⟩, fun m hm => by cases hm⟩⟩, Fr.of_below hb⟩
  · refine (Tryd.strconv_Atoi_range_a s hs h e2 w h2 k2).mono ?_
    rintro e w' ⟨N, rfl, _, _, hb⟩
    exact ⟨⟨_, _, rfl, .inr ⟨⟨_, _, rfl⟩, fun m hm => by cases hm⟩⟩, Fr.of_below hb⟩
/-- What token.number answers. -/
def NumIs (s : ByteArray) (n : Int) (b : Bool) : Prop := (b = true → ∃ m : Nat, m ≤ 9223372036854775807 ∧ n = m ∧ s = itB m) ∧ ∀ m : Nat, m ≤ 9223372036854775807 → s = itB m → n = m ∧ b = true
set_option maxRecDepth 100000 in
theorem number_any (w : World) (s : ByteArray) (hs : s.size ≤ 281474976710656) (hE : Errs w) (hP : Pow w) :
    Calls Tryd.prog 42 #[.string s] w fun e w' => (∃ n b, e = .returned (.tuple #[.int .i64 n, .bool b]) ∧ NumIs s n b) ∧ Fr (fun _ => False) w w' := by
  have HA := Aside0.mk (atoi_any w s hs hE)
  have HI := Aside0.mk (itc_of hP)
  have HO := Aside0.mk (fun m (hm : m ≤ 9223372036854775807) (e : s = itB m) => show Lib.atoiAll s.data.toList = .ok (m : Int) from by rw [e]; exact atoi_itB m hm)
  clear hE hP
  go_enter Tryd.func42, Tryd.ntmps42
  go_wp2_with (fail)
  refine HA.out.mono ?_
  rintro e W1 ⟨⟨n, v, rfl, hc⟩, hF⟩
  have HF := Aside0.mk hF
  clear hF HA
  rcases hc with ⟨rfl, ha, hn1, hn2⟩ | ⟨⟨t, p, rfl⟩, hno⟩
  · by_cases h0 : 0 ≤ n
    · obtain ⟨m, rfl⟩ : ∃ m : Nat, n = m := ⟨n.toNat, by omega⟩
      have HA := Aside0.mk ha
      clear ha
      have hd : decide ((0 : Int) ≤ (m : Int)) = true := decide_eq_true h0
      go_wp2_with (fail)
      refine (HI.out W1 HF.out m (by omega)).mono ?_
      rintro e W2 ⟨rfl, hF⟩
      have HF2 := Aside0.mk (HF.out.trans hF (fun _ _ h => h))
      clear hF
      by_cases he : itB m = s
      · have HX := Aside0.mk he
        have hq : ((itB m).toList == s.toList) = true := by rw [he]; simp
        clear he
        go_wp2_with (fail)
        go_ret2
        exact ⟨⟨_, _, rfl, fun _ => ⟨m, by omega, rfl, HX.out.symm⟩, fun k hk e => ⟨(by have := HO.out k hk e; rw [HA.out] at this; injection this), rfl⟩⟩, HF2.out⟩
      · have hq : ((itB m).toList == s.toList) = false := by
          rw [beq_eq_false_iff_ne]
          exact fun e => he (toList_inj e)
        have HX := Aside0.mk he
        clear he
        go_wp2_with (fail)
        go_ret2
        exact ⟨⟨_, _, rfl, fun h => (by cases h), fun k hk e => by
          have := HO.out k hk e
          rw [HA.out] at this
          injection this with this
          exact absurd (by rw [show m = k by omega]; exact e.symm) HX.out⟩, HF2.out⟩
    · have HA := Aside0.mk ha
      clear ha
      have hd : decide ((0 : Int) ≤ n) = false := decide_eq_false h0
      go_wp2_with (fail)
      go_ret2
      exact ⟨⟨_, _, rfl, fun h => (by cases h), fun k hk e => by
        have := HO.out k hk e
        rw [HA.out] at this
        injection this with this
        omega⟩, HF.out⟩
  · have HN := Aside0.mk hno
    clear hno
    go_wp2_with (fail)
    go_ret2
    exact ⟨⟨_, _, rfl, fun h => (by cases h), fun k hk e => absurd (HO.out k hk e) (HN.out _)⟩, HF.out⟩
/-- What a row of digits spells. -/
def spell : List UInt8 → Nat → Nat
  | [], a => a
  | b :: l, a => spell l (10 * a + (b.toNat - 48))
theorem spell_app : ∀ (l : List UInt8) (b : UInt8) (a : Nat), spell (l ++ [b]) a = 10 * spell l a + (b.toNat - 48)
  | [], b, a => rfl
  | c :: l, b, a => by rw [List.cons_append, spell, spell, spell_app l]
theorem digs_take (m : Nat) : ∀ j, j ≤ (Lib.decDigits m).length → spell ((Lib.decDigits m).take j) 0 = m / 10 ^ ((Lib.decDigits m).length - j) := by
  induction m using Nat.strongRecOn with
  | _ m ih =>
    intro j hj
    have one : ∀ k, k < 10 → (UInt8.ofNat (48 + k)).toNat - 48 = k := by
      intro k hk
      rw [UInt8.toNat_ofNat']
      omega
    rw [Lib.decDigits] at hj ⊢
    split at hj
    · rename_i hm
      rw [dif_pos hm]
      simp only [List.length_singleton] at hj ⊢
      rcases (by omega : j = 0 ∨ j = 1) with rfl | rfl
      · simp [spell]; omega
      · rw [List.take_of_length_le (by simp)]
        show 10 * 0 + (_ - 48) = _
        rw [one m hm]
        simp
    · rename_i hm
      rw [dif_neg hm]
      simp only [List.length_append, List.length_singleton] at hj ⊢
      have ihq := ih (m / 10) (by omega)
      generalize Lib.decDigits (m / 10) = D at hj ihq ⊢
      by_cases c : j ≤ D.length
      · rw [List.take_append_of_le_length c, ihq j c, Nat.div_div_eq_div_mul]
        congr 1
        rw [show D.length + 1 - j = (D.length - j) + 1 by omega, Nat.pow_succ, Nat.mul_comm]
      · obtain rfl : j = D.length + 1 := by omega
        have h1 := ihq D.length (Nat.le_refl _)
        rw [List.take_length, Nat.sub_self, Nat.pow_zero, Nat.div_one] at h1
        rw [List.take_of_length_le (by simp), spell_app, h1, one _ (by omega), Nat.sub_self, Nat.pow_zero, Nat.div_one]
        omega
/-- How far the document's number has read. -/
def Nm (l : List UInt8) (at_ i n : Nat) : Prop := at_ ≤ i ∧ i ≤ l.length ∧ n = spell ((l.drop at_).take (i - at_)) 0 ∧ n < 10995116277760 ∧ ∀ b, b ∈ (l.drop at_).take (i - at_) → 48 ≤ b.toNat ∧ b.toNat ≤ 57
theorem Nm.next {l : List UInt8} {at_ i n : Nat} (h : Nm l at_ i n) (hn : n < 1099511627776) (b : UInt8) (hb : l[i]? = some b) (hd : 48 ≤ b.toNat ∧ b.toNat ≤ 57) : Nm l at_ (i + 1) (10 * n + (b.toNat - 48)) := by
  obtain ⟨h1, h2, h3, h4, h5⟩ := h
  have hi := (List.getElem?_eq_some_iff.1 hb).1
  have e : (l.drop at_).take (i + 1 - at_) = (l.drop at_).take (i - at_) ++ [b] := by
    rw [show i + 1 - at_ = (i - at_) + 1 by omega, List.take_add_one]
    congr 1
    rw [List.getElem?_drop, show at_ + (i - at_) = i by omega, hb]
    rfl
  refine ⟨by omega, by omega, ?_, by omega, ?_⟩
  · rw [e, spell_app, ← h3]
  · intro x hx
    rw [e] at hx
    rcases List.mem_append.1 hx with hx | hx
    · exact h5 x hx
    · rw [List.mem_singleton.1 hx]; exact hd
theorem Nm.stop {l pre post : List UInt8} {c : UInt8} {at_ i n m : Nat} (h : Nm l at_ i n) (hs : i < l.length → n < 1099511627776 → ∀ b, l[i]? = some b → ¬ (48 ≤ b.toNat ∧ b.toNat ≤ 57)) (hl : l = pre ++ (Lib.decDigits m ++ c :: post)) (hp : pre.length = at_) (hc : c.toNat < 48) (hm : m < 10995116277760) : n = m ∧ i = at_ + (Lib.decDigits m).length := by
  obtain ⟨h1, h2, h3, h4, h5⟩ := h
  have hdr : l.drop at_ = Lib.decDigits m ++ c :: post := by rw [hl, ← hp, List.drop_left]
  have hlen : l.length = at_ + ((Lib.decDigits m).length + (post.length + 1)) := by rw [hl]; simp; omega
  obtain ⟨j, rfl⟩ : ∃ j, i = at_ + j := ⟨i - at_, by omega⟩
  rw [hdr, show at_ + j - at_ = j by omega] at h3 h5
  rcases Nat.lt_trichotomy j (Lib.decDigits m).length with hj | hj | hj
  · exfalso
    have e1 : l[at_ + j]? = some ((Lib.decDigits m)[j]'hj) := by
      rw [← List.getElem?_drop, hdr, List.getElem?_append_left hj, List.getElem?_eq_getElem hj]
    rw [List.take_append_of_le_length (by omega), digs_take m j (by omega)] at h3
    refine hs (by omega) ?_ _ e1 (digs_all m _ (List.getElem_mem hj))
    obtain ⟨k, hk⟩ : ∃ k, (Lib.decDigits m).length - j = k + 1 := ⟨(Lib.decDigits m).length - j - 1, by omega⟩
    rw [hk, Nat.pow_succ, Nat.mul_comm, ← Nat.div_div_eq_div_mul] at h3
    have : m / 10 / 10 ^ k ≤ m / 10 := Nat.div_le_self _ _
    omega
  · subst hj
    rw [List.take_left, ← List.take_length (l := Lib.decDigits m), digs_take m _ (Nat.le_refl _), Nat.sub_self, Nat.pow_zero, Nat.div_one] at h3
    exact ⟨h3, rfl⟩
  · exfalso
    have hm2 : c ∈ (Lib.decDigits m ++ c :: post).take j := by
      rw [List.take_append]
      refine List.mem_append_right _ ?_
      obtain ⟨k, hk⟩ : ∃ k, j - (Lib.decDigits m).length = k + 1 := ⟨j - (Lib.decDigits m).length - 1, by omega⟩
      rw [hk, List.take_succ_cons]
      exact List.mem_cons_self ..
    have := h5 c hm2
    omega
/-- What the document's number answers. -/
def RnIs (s : ByteArray) (at_ : Nat) (v i : Int) : Prop := (v = -1 ∨ (0 ≤ v ∧ v < 10995116277760 ∧ at_ < i ∧ i ≤ s.size)) ∧ ∀ (m : Nat) (pre post : List UInt8) (c : UInt8), s.data.toList = pre ++ (Lib.decDigits m ++ c :: post) → pre.length = at_ → c.toNat < 48 → m < 10995116277760 → v = m ∧ i = at_ + (Lib.decDigits m).length
set_option maxHeartbeats 4000000 in
set_option maxRecDepth 100000 in
theorem rnumber_any (w : World) (s : ByteArray) (at_ : Nat) (ha : at_ ≤ s.size) (hs : s.size ≤ 1099511627776) (hP : Pow w) :
    Calls Tryd.prog 52 #[.string s, .int .i64 at_] w fun e w' => (∃ v i, e = .returned (.tuple #[.int .i64 v, .int .i64 i]) ∧ RnIs s at_ v i) ∧ Fr (fun _ => False) w w' := by
  have HI := Aside0.mk (itc_of hP)
  clear hP
  have hz : s.data.toList.length = s.size := by simp
  have HZ := Aside0.mk hz
  have HN0 := Aside0.mk (show Nm s.data.toList at_ at_ 0 from ⟨Nat.le_refl _, by omega, by simp [spell], by omega, by simp⟩)
  clear hz
  go_enter Tryd.func52, Tryd.ntmps52
  go_wp2_with (fail)
  have HF0 := Aside0.mk (Fr.refl (fun _ => False) w)
  go_loopw [6, 7] (fun a b W => ∃ n i : Nat, a = .int .i64 n ∧ b = .int .i64 i ∧ at_ ≤ i ∧ i ≤ s.size ∧ n < 10995116277760 ∧ Aside0 (Nm s.data.toList at_ i n) ∧ W = w) (fun _ b _ => s.size - (intOf b).toNat)
  case atStart => exact ⟨0, at_, rfl, rfl, Nat.le_refl _, ha, by omega, HN0, rfl⟩
  case round =>
    clear HN0
    obtain ⟨n, i, rfl, rfl, h1, h2, h3, HN, rfl⟩ := hrel
    by_cases hg : ∃ hi : i < s.size, (48 ≤ (s[i]'hi).toNat ∧ (s[i]'hi).toNat ≤ 57) ∧ n < 1099511627776
    · obtain ⟨hi, ⟨g1, g2⟩, g3⟩ := hg
      have hd1 : decide ((i : Int) < (s.size : Int)) = true := decide_eq_true (by omega)
      obtain ⟨b, hbe⟩ : ∃ b, s[i]'hi = b := ⟨_, rfl⟩
      rw [hbe] at g1 g2
      have HB := Aside0.mk (show s.data.toList[i]? = some b from by
        rw [← hbe, ByteArray.getElem_eq_getElem_data]
        simp)
      have hb256 := b.toNat_lt
      have d2 : decide ((48 : Int) ≤ (b.toNat : Int)) = true := decide_eq_true (by omega)
      have d3 : decide ((b.toNat : Int) ≤ 57) = true := decide_eq_true (by omega)
      have d4 : decide ((n : Int) < 1099511627776) = true := decide_eq_true (by omega)
      have HN1 := Aside0.mk (HN.out.next g3 b HB.out ⟨g1, g2⟩)
      clear HN HB
      go_wp2_with (fail)
      have en : (10 * (n : Int) + ((b.toNat : Int) - 48)) = ((10 * n + (b.toNat - 48) : Nat) : Int) := by omega
      exact ⟨⟨10 * n + (b.toNat - 48), i + 1, (by rw [en]), (by go_num), by omega, by omega, by omega, HN1, trivial⟩, by simp [intOf]; omega⟩
    · have HS := Aside0.mk (show i < s.data.toList.length → n < 1099511627776 → ∀ b, s.data.toList[i]? = some b → ¬ (48 ≤ b.toNat ∧ b.toNat ≤ 57) from by
        intro a1 a2 b a3 a4
        rw [HZ.out] at a1
        refine hg ⟨a1, ?_, a2⟩
        have : s[i]'a1 = b := by
          rw [ByteArray.getElem_eq_getElem_data]
          have := (List.getElem?_eq_some_iff.1 a3).2
          simpa using this
        rw [this]
        exact a4)
      have HST := Aside0.mk (fun (m : Nat) (pre post : List UInt8) (c : UInt8) (e1 : s.data.toList = pre ++ (Lib.decDigits m ++ c :: post)) (e2 : pre.length = at_) (e3 : c.toNat < 48) (e4 : m < 10995116277760) => HN.out.stop HS.out e1 e2 e3 e4)
      have hcase : ¬ i < s.size ∨ ∃ (hi : i < s.size) (b : UInt8), s[i]'hi = b ∧ (b.toNat < 48 ∨ 57 < b.toNat ∨ (48 ≤ b.toNat ∧ b.toNat ≤ 57 ∧ 1099511627776 ≤ n)) := by
        by_cases hi : i < s.size
        · right
          refine ⟨hi, _, rfl, ?_⟩
          by_cases q1 : (s[i]'hi).toNat < 48
          · exact .inl q1
          by_cases q2 : 57 < (s[i]'hi).toNat
          · exact .inr (.inl q2)
          · refine .inr (.inr ⟨by omega, by omega, ?_⟩)
            have : ¬ n < 1099511627776 := fun q => hg ⟨hi, ⟨by omega, by omega⟩, q⟩
            omega
        · exact .inl hi
      clear HS HN hg
      have HDL := Aside0.mk (fun m => List.length_pos_iff.2 (digs_ne m))
      rcases hcase with hi | ⟨hi, b, hbe, hb | hb | ⟨hb1, hb2, hb3⟩⟩
      · have hd1 : decide ((i : Int) < (s.size : Int)) = false := decide_eq_false (by omega)
        go_wp2_with (fail)
        by_cases hat : i = at_
        · subst hat
          refine wp_region_last_drew (S := fun _ => True) (ds := []) (by kernel_rfl) trivial (fun hHeld => ?_)
          refine tk 0 ?_
          refine tk 1 ?_
          refine tk (v := .bool true) 2 ?_
          refine tk 3 ?_
          refine un 4 ?_
          refine un 6 ?_
          refine un 7 ?_
          refine un 8 ?_
          refine un 9 ?_
          refine on 5 (fun K hK => ?_)
          go_simp
          refine hK.out _ _ trivial (fun hHeld => ?_)
          clear hK K
          try simp only [Act.put, List.setIfInBounds_toArray, List.set_cons_zero, List.set_cons_succ]
          refine un 10 ?_
          refine tk 11 ?_
          refine dn ?_
          go_wp2_with (fail)
          go_ret2
          exact ⟨⟨_, _, rfl, .inl rfl, fun m pre post c e1 e2 e3 e4 => (by have := (HST.out m pre post c e1 e2 e3 e4).2; have := HDL.out m; omega)⟩, (Fr.refl (fun _ => False) wr).drew⟩
        · have HAT := Aside0.mk hat
          have hne : ¬ (i : Int) = (at_ : Int) := by omega
          have hb1 : n ≤ 9223372036854775807 := by omega
          refine wp_region_last_drew (S := fun _ => True) (ds := []) (by kernel_rfl) trivial (fun hHeld => ?_)
          refine tk 0 ?_
          refine tk 1 ?_
          refine tk (v := .bool false) 2 ?_
          refine tk 3 ?_
          refine tk 4 ?_
          refine tk 6 ?_
          refine tk 7 ?_
          refine tk 8 ?_
          refine tk 9 ?_
          refine on 5 (fun K hK => ?_)
          go_simp
          refine (HI.out _ ((Fr.refl (fun _ => False) wr).drew) n hb1).mono ?_
          rintro e W2 ⟨rfl, hF⟩
          have HF2 := Aside0.mk (((Fr.refl (fun _ => False) wr).drew).trans hF (fun _ _ h => h))
          clear hF
          dsimp only
          refine hK.out _ _ trivial (fun hHeld => ?_)
          clear hK K
          try simp only [Act.put, List.setIfInBounds_toArray, List.set_cons_zero, List.set_cons_succ]
          have HSX := Aside0.mk (show (s.extract at_ i).data.toList = (s.data.toList.drop at_).take (i - at_) from by rw [Lib.extract_data])
          generalize s.extract at_ i = u at HSX ⊢
          by_cases he : itB n = u
          · have HX := Aside0.mk he
            have hq : ((itB n).toList == u.toList) = true := by rw [he]; simp
            clear he
            refine tk (v := .bool false) 10 ?_
            refine tk 11 ?_
            refine dn ?_
            go_wp2_with (fail)
            go_ret2
            exact ⟨⟨_, _, rfl, .inr ⟨by omega, by omega, by have := HAT.out; omega, by omega⟩, fun m pre post c e1 e2 e3 e4 => (by obtain ⟨a1, a2⟩ := HST.out m pre post c e1 e2 e3 e4; exact ⟨by omega, by omega⟩)⟩, HF2.out⟩
          · have HX := Aside0.mk he
            have hq : ((itB n).toList == u.toList) = false := by
              rw [beq_eq_false_iff_ne]
              exact fun e => he (toList_inj e)
            clear he
            refine tk (v := .bool true) 10 ?_
            refine tk 11 ?_
            refine dn ?_
            go_wp2_with (fail)
            go_ret2
            exact ⟨⟨_, _, rfl, .inl rfl, fun m pre post c e1 e2 e3 e4 => (by
              obtain ⟨a1, a2⟩ := HST.out m pre post c e1 e2 e3 e4
              refine absurd (data_inj ?_) HX.out
              rw [HSX.out, itB_data, a1, a2, e1, ← e2, List.drop_left, show pre.length + (Lib.decDigits m).length - pre.length = (Lib.decDigits m).length by omega, List.take_left])⟩, HF2.out⟩
      · have hd1 : decide ((i : Int) < (s.size : Int)) = true := decide_eq_true (by omega)
        have d2 : decide ((48 : Int) ≤ (b.toNat : Int)) = false := decide_eq_false (by omega)
        go_wp2_with (fail)
        by_cases hat : i = at_
        · subst hat
          refine wp_region_last_drew (S := fun _ => True) (ds := []) (by kernel_rfl) trivial (fun hHeld => ?_)
          refine tk 0 ?_
          refine tk 1 ?_
          refine tk (v := .bool true) 2 ?_
          refine tk 3 ?_
          refine un 4 ?_
          refine un 6 ?_
          refine un 7 ?_
          refine un 8 ?_
          refine un 9 ?_
          refine on 5 (fun K hK => ?_)
          go_simp
          refine hK.out _ _ trivial (fun hHeld => ?_)
          clear hK K
          try simp only [Act.put, List.setIfInBounds_toArray, List.set_cons_zero, List.set_cons_succ]
          refine un 10 ?_
          refine tk 11 ?_
          refine dn ?_
          go_wp2_with (fail)
          go_ret2
          exact ⟨⟨_, _, rfl, .inl rfl, fun m pre post c e1 e2 e3 e4 => (by have := (HST.out m pre post c e1 e2 e3 e4).2; have := HDL.out m; omega)⟩, (Fr.refl (fun _ => False) wr).drew⟩
        · have HAT := Aside0.mk hat
          have hne : ¬ (i : Int) = (at_ : Int) := by omega
          have hb1 : n ≤ 9223372036854775807 := by omega
          refine wp_region_last_drew (S := fun _ => True) (ds := []) (by kernel_rfl) trivial (fun hHeld => ?_)
          refine tk 0 ?_
          refine tk 1 ?_
          refine tk (v := .bool false) 2 ?_
          refine tk 3 ?_
          refine tk 4 ?_
          refine tk 6 ?_
          refine tk 7 ?_
          refine tk 8 ?_
          refine tk 9 ?_
          refine on 5 (fun K hK => ?_)
          go_simp
          refine (HI.out _ ((Fr.refl (fun _ => False) wr).drew) n hb1).mono ?_
          rintro e W2 ⟨rfl, hF⟩
          have HF2 := Aside0.mk (((Fr.refl (fun _ => False) wr).drew).trans hF (fun _ _ h => h))
          clear hF
          dsimp only
          refine hK.out _ _ trivial (fun hHeld => ?_)
          clear hK K
          try simp only [Act.put, List.setIfInBounds_toArray, List.set_cons_zero, List.set_cons_succ]
          have HSX := Aside0.mk (show (s.extract at_ i).data.toList = (s.data.toList.drop at_).take (i - at_) from by rw [Lib.extract_data])
          generalize s.extract at_ i = u at HSX ⊢
          by_cases he : itB n = u
          · have HX := Aside0.mk he
            have hq : ((itB n).toList == u.toList) = true := by rw [he]; simp
            clear he
            refine tk (v := .bool false) 10 ?_
            refine tk 11 ?_
            refine dn ?_
            go_wp2_with (fail)
            go_ret2
            exact ⟨⟨_, _, rfl, .inr ⟨by omega, by omega, by have := HAT.out; omega, by omega⟩, fun m pre post c e1 e2 e3 e4 => (by obtain ⟨a1, a2⟩ := HST.out m pre post c e1 e2 e3 e4; exact ⟨by omega, by omega⟩)⟩, HF2.out⟩
          · have HX := Aside0.mk he
            have hq : ((itB n).toList == u.toList) = false := by
              rw [beq_eq_false_iff_ne]
              exact fun e => he (toList_inj e)
            clear he
            refine tk (v := .bool true) 10 ?_
            refine tk 11 ?_
            refine dn ?_
            go_wp2_with (fail)
            go_ret2
            exact ⟨⟨_, _, rfl, .inl rfl, fun m pre post c e1 e2 e3 e4 => (by
              obtain ⟨a1, a2⟩ := HST.out m pre post c e1 e2 e3 e4
              refine absurd (data_inj ?_) HX.out
              rw [HSX.out, itB_data, a1, a2, e1, ← e2, List.drop_left, show pre.length + (Lib.decDigits m).length - pre.length = (Lib.decDigits m).length by omega, List.take_left])⟩, HF2.out⟩
      · have hd1 : decide ((i : Int) < (s.size : Int)) = true := decide_eq_true (by omega)
        have d2 : decide ((48 : Int) ≤ (b.toNat : Int)) = true := decide_eq_true (by omega)
        have d3 : decide ((b.toNat : Int) ≤ 57) = false := decide_eq_false (by omega)
        go_wp2_with (fail)
        by_cases hat : i = at_
        · subst hat
          refine wp_region_last_drew (S := fun _ => True) (ds := []) (by kernel_rfl) trivial (fun hHeld => ?_)
          refine tk 0 ?_
          refine tk 1 ?_
          refine tk (v := .bool true) 2 ?_
          refine tk 3 ?_
          refine un 4 ?_
          refine un 6 ?_
          refine un 7 ?_
          refine un 8 ?_
          refine un 9 ?_
          refine on 5 (fun K hK => ?_)
          go_simp
          refine hK.out _ _ trivial (fun hHeld => ?_)
          clear hK K
          try simp only [Act.put, List.setIfInBounds_toArray, List.set_cons_zero, List.set_cons_succ]
          refine un 10 ?_
          refine tk 11 ?_
          refine dn ?_
          go_wp2_with (fail)
          go_ret2
          exact ⟨⟨_, _, rfl, .inl rfl, fun m pre post c e1 e2 e3 e4 => (by have := (HST.out m pre post c e1 e2 e3 e4).2; have := HDL.out m; omega)⟩, (Fr.refl (fun _ => False) wr).drew⟩
        · have HAT := Aside0.mk hat
          have hne : ¬ (i : Int) = (at_ : Int) := by omega
          have hb1 : n ≤ 9223372036854775807 := by omega
          refine wp_region_last_drew (S := fun _ => True) (ds := []) (by kernel_rfl) trivial (fun hHeld => ?_)
          refine tk 0 ?_
          refine tk 1 ?_
          refine tk (v := .bool false) 2 ?_
          refine tk 3 ?_
          refine tk 4 ?_
          refine tk 6 ?_
          refine tk 7 ?_
          refine tk 8 ?_
          refine tk 9 ?_
          refine on 5 (fun K hK => ?_)
          go_simp
          refine (HI.out _ ((Fr.refl (fun _ => False) wr).drew) n hb1).mono ?_
          rintro e W2 ⟨rfl, hF⟩
          have HF2 := Aside0.mk (((Fr.refl (fun _ => False) wr).drew).trans hF (fun _ _ h => h))
          clear hF
          dsimp only
          refine hK.out _ _ trivial (fun hHeld => ?_)
          clear hK K
          try simp only [Act.put, List.setIfInBounds_toArray, List.set_cons_zero, List.set_cons_succ]
          have HSX := Aside0.mk (show (s.extract at_ i).data.toList = (s.data.toList.drop at_).take (i - at_) from by rw [Lib.extract_data])
          generalize s.extract at_ i = u at HSX ⊢
          by_cases he : itB n = u
          · have HX := Aside0.mk he
            have hq : ((itB n).toList == u.toList) = true := by rw [he]; simp
            clear he
            refine tk (v := .bool false) 10 ?_
            refine tk 11 ?_
            refine dn ?_
            go_wp2_with (fail)
            go_ret2
            exact ⟨⟨_, _, rfl, .inr ⟨by omega, by omega, by have := HAT.out; omega, by omega⟩, fun m pre post c e1 e2 e3 e4 => (by obtain ⟨a1, a2⟩ := HST.out m pre post c e1 e2 e3 e4; exact ⟨by omega, by omega⟩)⟩, HF2.out⟩
          · have HX := Aside0.mk he
            have hq : ((itB n).toList == u.toList) = false := by
              rw [beq_eq_false_iff_ne]
              exact fun e => he (toList_inj e)
            clear he
            refine tk (v := .bool true) 10 ?_
            refine tk 11 ?_
            refine dn ?_
            go_wp2_with (fail)
            go_ret2
            exact ⟨⟨_, _, rfl, .inl rfl, fun m pre post c e1 e2 e3 e4 => (by
              obtain ⟨a1, a2⟩ := HST.out m pre post c e1 e2 e3 e4
              refine absurd (data_inj ?_) HX.out
              rw [HSX.out, itB_data, a1, a2, e1, ← e2, List.drop_left, show pre.length + (Lib.decDigits m).length - pre.length = (Lib.decDigits m).length by omega, List.take_left])⟩, HF2.out⟩
      · have hd1 : decide ((i : Int) < (s.size : Int)) = true := decide_eq_true (by omega)
        have d2 : decide ((48 : Int) ≤ (b.toNat : Int)) = true := decide_eq_true (by omega)
        have d3 : decide ((b.toNat : Int) ≤ 57) = true := decide_eq_true (by omega)
        have d4 : decide ((n : Int) < 1099511627776) = false := decide_eq_false (by omega)
        go_wp2_with (fail)
        by_cases hat : i = at_
        · subst hat
          refine wp_region_last_drew (S := fun _ => True) (ds := []) (by kernel_rfl) trivial (fun hHeld => ?_)
          refine tk 0 ?_
          refine tk 1 ?_
          refine tk (v := .bool true) 2 ?_
          refine tk 3 ?_
          refine un 4 ?_
          refine un 6 ?_
          refine un 7 ?_
          refine un 8 ?_
          refine un 9 ?_
          refine on 5 (fun K hK => ?_)
          go_simp
          refine hK.out _ _ trivial (fun hHeld => ?_)
          clear hK K
          try simp only [Act.put, List.setIfInBounds_toArray, List.set_cons_zero, List.set_cons_succ]
          refine un 10 ?_
          refine tk 11 ?_
          refine dn ?_
          go_wp2_with (fail)
          go_ret2
          exact ⟨⟨_, _, rfl, .inl rfl, fun m pre post c e1 e2 e3 e4 => (by have := (HST.out m pre post c e1 e2 e3 e4).2; have := HDL.out m; omega)⟩, (Fr.refl (fun _ => False) wr).drew⟩
        · have HAT := Aside0.mk hat
          have hne : ¬ (i : Int) = (at_ : Int) := by omega
          have hb1 : n ≤ 9223372036854775807 := by omega
          refine wp_region_last_drew (S := fun _ => True) (ds := []) (by kernel_rfl) trivial (fun hHeld => ?_)
          refine tk 0 ?_
          refine tk 1 ?_
          refine tk (v := .bool false) 2 ?_
          refine tk 3 ?_
          refine tk 4 ?_
          refine tk 6 ?_
          refine tk 7 ?_
          refine tk 8 ?_
          refine tk 9 ?_
          refine on 5 (fun K hK => ?_)
          go_simp
          refine (HI.out _ ((Fr.refl (fun _ => False) wr).drew) n hb1).mono ?_
          rintro e W2 ⟨rfl, hF⟩
          have HF2 := Aside0.mk (((Fr.refl (fun _ => False) wr).drew).trans hF (fun _ _ h => h))
          clear hF
          dsimp only
          refine hK.out _ _ trivial (fun hHeld => ?_)
          clear hK K
          try simp only [Act.put, List.setIfInBounds_toArray, List.set_cons_zero, List.set_cons_succ]
          have HSX := Aside0.mk (show (s.extract at_ i).data.toList = (s.data.toList.drop at_).take (i - at_) from by rw [Lib.extract_data])
          generalize s.extract at_ i = u at HSX ⊢
          by_cases he : itB n = u
          · have HX := Aside0.mk he
            have hq : ((itB n).toList == u.toList) = true := by rw [he]; simp
            clear he
            refine tk (v := .bool false) 10 ?_
            refine tk 11 ?_
            refine dn ?_
            go_wp2_with (fail)
            go_ret2
            exact ⟨⟨_, _, rfl, .inr ⟨by omega, by omega, by have := HAT.out; omega, by omega⟩, fun m pre post c e1 e2 e3 e4 => (by obtain ⟨a1, a2⟩ := HST.out m pre post c e1 e2 e3 e4; exact ⟨by omega, by omega⟩)⟩, HF2.out⟩
          · have HX := Aside0.mk he
            have hq : ((itB n).toList == u.toList) = false := by
              rw [beq_eq_false_iff_ne]
              exact fun e => he (toList_inj e)
            clear he
            refine tk (v := .bool true) 10 ?_
            refine tk 11 ?_
            refine dn ?_
            go_wp2_with (fail)
            go_ret2
            exact ⟨⟨_, _, rfl, .inl rfl, fun m pre post c e1 e2 e3 e4 => (by
              obtain ⟨a1, a2⟩ := HST.out m pre post c e1 e2 e3 e4
              refine absurd (data_inj ?_) HX.out
              rw [HSX.out, itB_data, a1, a2, e1, ← e2, List.drop_left, show pre.length + (Lib.decDigits m).length - pre.length = (Lib.decDigits m).length by omega, List.take_left])⟩, HF2.out⟩
end Go.Proofs.YtagokdbpgljgjaaDoor.Tok
