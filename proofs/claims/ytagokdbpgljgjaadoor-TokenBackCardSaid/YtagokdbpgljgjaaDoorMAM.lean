/-
A plain text's quoted form: text.Quote, walked at a text of plain ASCII bytes.
-/
import Derived.Test.YtagokdbpgljgjaaDoorMAK
import Derived.Test.YtagokdbpgljgjaaDoorMAL
import Derived.Deep.QuietTactic
import Derived.BigQuiet
set_option linter.unusedSimpArgs false
set_option linter.unusedVariables false
namespace Go.Proofs.YtagokdbpgljgjaaDoor.Tok
open Go.RowKit Go.Proofs.YtagokdbpgljgjaaDoorW.PrintWords Go.Proofs.YtagokdbpgljgjaaDoorW.PrintLast Go.Proofs.YtagokdbpgljgjaaDoorW.PrintMore Go.Proofs.YtagokdbpgljgjaaDoor.Fr Go.Proofs.YtagokdbpgljgjaaDoor.PGramFirsts Go.Proofs.YtagokdbpgljgjaaDoor.TextSet Go.Proofs.YtagokdbpgljgjaaDoor.Bld
/-- A byte that a quoted text holds as it is. -/
def Plain (c : UInt8) : Prop := 32 ≤ c.toNat ∧ c.toNat < 127 ∧ c.toNat ≠ 34 ∧ c.toNat ≠ 92
def bytesI (l : List UInt8) : List Int := l.map fun b => (b.toNat : Int)
theorem bytesI_append (a b : List UInt8) : bytesI (a ++ b) = bytesI a ++ bytesI b := by simp [bytesI]
theorem bytesOf_data (s : ByteArray) : bytesOf s = bytesI s.data.toList := by simp [bytesOf, bytesI]
theorem take_one (s : ByteArray) (i : Nat) (h : i < s.size) : bytesI (s.data.toList.take i) ++ bytesOf (s.extract i (i + 1)) = bytesI (s.data.toList.take (i + 1)) := by
  rw [bytesOf_data, Lib.extract_data, ← bytesI_append, show i + 1 - i = 1 by omega]
  congr 1
  exact (List.take_add ..).symm
theorem is_builder {w : World} {B b : Nat} {p v : Value} {l : List UInt8} (hB : B ≤ b) (h : Bd w B b p v (bytesI l)) : Lib.IsBuilder 79 5 B b (Lib.byteCells l) w := by
  have hR := Kd.own_of_R h.row
  have e : (bytesI l).map (fun n => Value.int .u8 n) = Lib.byteCells l := by simp [bytesI, Lib.byteCells]
  have hR2 : w.ownsRow B 5 1 v (Lib.byteCells l).length (Lib.byteCells l) := by
    rw [← e]; simpa [encs] using hR
  have hne : v.ownBlock ≠ some b := fun e2 => h.ne e2.symm
  rcases h.addr with rfl | rfl
  · exact .inl ⟨hB, v, h.blk, hR2, hne⟩
  · exact .inr ⟨hB, v, h.blk, hR2, hne⟩
set_option maxHeartbeats 2000000 in
set_option maxRecDepth 100000 in
theorem quote_plain (w : World) (s : ByteArray) (hs : s.size ≤ 4096) (hp : ∀ i (h : i < s.size), Plain (s[i]'h)) :
    Calls Tryd.prog 45 #[.string s] w fun e w' => e = .returned (.tuple #[.string ⟨(34 :: (s.data.toList ++ [34])).toArray⟩, .int .i64 0]) ∧ Fr (fun _ => False) w w' := by
  go_enter Tryd.func45, Tryd.ntmps45
  have HP := Aside0.mk hp
  clear hp
  go_wp2_with (fail)
  have HB0 := Aside0.mk (show Bd (w.alloc (.cells #[.pointer none, .slice none 0 0] 79)) w.heap.size w.heap.size (.pointer none) (.slice none 0 0) [] from ⟨blk_new _ _, Kd.R_nil _ _ _ _ _, .inl rfl⟩)
  have HF0 := Aside0.mk ((Fr.refl (fun k => w.heap.size ≤ k) w).alloc (.cells #[.pointer none, .slice none 0 0] 79))
  refine (writeByte_calls _ w.heap.size w.heap.size _ _ _ 34 HB0.out HF0.out.size (Nat.le_refl _) (by simp)).mono ?_
  rintro e W1 ⟨rfl, v1, hB1, hF1⟩
  have HB1 := Aside0.mk hB1
  have HF1 := Aside0.mk (HF0.out.trans hF1 (fun _ _ h => h))
  clear HB0 HF0 hB1 hF1
  go_wp2_with (fail)
  go_loopw [5] (fun a W => ∃ (i : Nat) (v : Value), a = .int .i64 i ∧ i ≤ s.size ∧ Aside0 (Bd W w.heap.size w.heap.size (.pointer (some ⟨w.heap.size, 0, none⟩)) v (34 :: bytesI (s.data.toList.take i))) ∧ Aside0 (Fr (fun q => w.heap.size ≤ q) w W)) (fun a _ => s.size - (intOf a).toNat)
  case atStart => exact ⟨0, v1, rfl, Nat.zero_le _, HB1, HF1⟩
  case round =>
    clear HB1 HF1
    obtain ⟨i, v, rfl, hi, HB, HF⟩ := hrel
    by_cases hlt : i < s.size
    · have HPI := HP.out i hlt
      have HT := Aside0.mk (take_one s i hlt)
      have HNA := Aside0.mk (next_ascii wr s i hlt (by have := HPI.2.1; omega) (by have : maxLen = 9223372036854775807 := by decide
                                                                                   omega))
      obtain ⟨c, hst⟩ : ∃ c, s[i]'hlt = c := ⟨_, rfl⟩
      rw [hst] at HPI HNA
      clear hst
      obtain ⟨p1, p2, p3, p4⟩ := HPI
      go_wp2_with (fail)
      refine HNA.out.mono ?_
      rintro e W2 ⟨rfl, hF2⟩
      have HB2 := Aside0.mk (show Bd W2 w.heap.size w.heap.size _ v _ from ⟨hF2.blk HB.out.blk id, hF2.R HB.out.row (fun _ _ => id), HB.out.addr⟩)
      have HF2 := Aside0.mk (HF.out.trans hF2 (fun _ _ h => h.elim))
      have hsz := HF2.out.size
      clear hF2 HB HF HNA
      have q1 : (((c.toNat : Nat) : Int) == 34) = false := beq_eq_false_iff_ne.2 (by omega)
      have q2 : (((c.toNat : Nat) : Int) == 92) = false := beq_eq_false_iff_ne.2 (by omega)
      have q3 : (((c.toNat : Nat) : Int) == 127) = false := beq_eq_false_iff_ne.2 (by omega)
      have q4 : decide (((c.toNat : Nat) : Int) < 32) = false := decide_eq_false (by omega)
      go_wp2_with (fail)
      refine (writeString_calls W2 w.heap.size w.heap.size _ v _ _ HB2.out hsz (Nat.le_refl _) (by simp [bytesI]; omega)).mono ?_
      rintro e W3 ⟨⟨r, rfl⟩, v3, hB3, hF3⟩
      have HB3 := Aside0.mk (show Bd W3 w.heap.size w.heap.size _ v3 (34 :: bytesI (s.data.toList.take (i + 1))) by
        rw [← HT.out]; exact hB3)
      have HF3 := Aside0.mk (HF2.out.trans hF3 (fun _ _ h => h))
      clear hB3 hF3 HB2 HF2 HT
      go_wp2_with (fail)
      exact ⟨⟨i + 1, v3, by go_num, by omega, HB3, HF3⟩, by simp [intOf]; omega⟩
    · obtain rfl : i = s.size := by omega
      go_wp2_with (fail)
      refine (writeByte_calls wr w.heap.size w.heap.size _ v _ 34 HB.out HF.out.size (Nat.le_refl _) (by simp [bytesI]; omega)).mono ?_
      rintro e W2 ⟨rfl, v2, hB2, hF2⟩
      have HBL := Aside0.mk (is_builder (l := 34 :: (s.data.toList ++ [34])) (Nat.le_refl _) (show Bd W2 w.heap.size w.heap.size _ v2 (bytesI (34 :: (s.data.toList ++ [34]))) by
        have e : bytesI (34 :: (s.data.toList ++ [34])) = 34 :: bytesI (s.data.toList.take s.size) ++ [34] := by
          rw [List.take_of_length_le (by simp)]; simp [bytesI]
        rw [e]; exact hB2))
      have HF2 := Aside0.mk (HF.out.trans hF2 (fun _ _ h => h))
      clear hB2 hF2
      go_wp2_with (fail)
      refine (Tryd.Builder_String_any w.heap.size w.heap.size _ W2 HBL.out HF2.out.size).mono ?_
      rintro e W3 ⟨rfl, hb⟩
      have HF3 := Aside0.mk ((HF2.out.below (Nat.le_refl _) (fun k h1 h2 => by omega)).trans hb)
      clear hb
      go_wp2_with (fail)
      go_ret2
      exact ⟨rfl, Fr.of_below HF3.out⟩
end Go.Proofs.YtagokdbpgljgjaaDoor.Tok
/-
A token's line: token.line, walked at small numbers and a plain text.
-/
set_option linter.unusedSimpArgs false
set_option linter.unusedVariables false
namespace Go.Proofs.YtagokdbpgljgjaaDoor.Tok
open Go.RowKit Go.Proofs.YtagokdbpgljgjaaDoorW.PrintWords Go.Proofs.YtagokdbpgljgjaaDoorW.PrintLast Go.Proofs.YtagokdbpgljgjaaDoorW.PrintMore Go.Proofs.YtagokdbpgljgjaaDoor.Fr Go.Proofs.YtagokdbpgljgjaaDoor.PGramFirsts Go.Proofs.YtagokdbpgljgjaaDoor.TextSet Go.Proofs.YtagokdbpgljgjaaDoor.Bld
/-- The quoted form of a plain text. -/
def quoted (s : ByteArray) : ByteArray := ⟨(34 :: (s.data.toList ++ [34])).toArray⟩
def dec (n : Nat) : ByteArray := ⟨(Lib.decDigits n).toArray⟩
/-- The line of a token. -/
def lineB (nm : ByteArray) (f t : Nat) (s : ByteArray) : ByteArray := nm ++ ⟨#[32]⟩ ++ dec f ++ ⟨#[32]⟩ ++ dec t ++ ⟨#[32]⟩ ++ quoted s ++ ⟨#[10]⟩
theorem dec_size (n : Nat) (h : n < 100) : (dec n).size ≤ 2 := by
  have : ∀ k : Fin 100, (dec k.val).size ≤ 2 := by decide +kernel
  exact this ⟨n, h⟩
theorem quoted_size (s : ByteArray) : (quoted s).size = s.size + 2 := by
  show ((34 :: (s.data.toList ++ [34])).toArray).size = s.size + 2
  simp
set_option maxHeartbeats 2000000 in
set_option maxRecDepth 100000 in
theorem line_calls (w : World) (ns : List ByteArray) (A : Option Addr) (cp : Nat) (hA : Kd.string.C w A ns.length ns) (src : ByteArray) (k f t : Nat) (hk : k < ns.length) (hn : (rdOf ByteArray.empty ns k).size ≤ 4096) (hft : f ≤ t) (ht : t ≤ src.size) (h100 : t < 100)
    (hp : ∀ i (h : i < (src.extract f t).size), Plain ((src.extract f t)[i]'h)) :
    Calls Tryd.prog 36 #[.slice A ns.length cp, .string src, .agg #[.int .i64 k, .int .i64 f, .int .i64 t]] w fun e w' => e = .returned (.tuple #[.string (lineB (rdOf ByteArray.empty ns k) f t (src.extract f t)), .bool true]) ∧ Fr (fun _ => False) w w' := by
  have hm := Kd.C_max hA
  have hsz : (src.extract f t).size = t - f := by simp; omega
  go_enter Tryd.func36, Tryd.ntmps36
  have HA := Aside0.mk hA
  have HP := Aside0.mk hp
  clear hA hp
  obtain ⟨u, hu⟩ : ∃ u, src.extract f t = u := ⟨_, rfl⟩
  rw [hu] at hsz HP
  go_wp2_with (fail)
  have HF0 := Aside0.mk ((Fr.refl (fun _ => False) w).alloc (.cells #[.int .i64 k, .int .i64 f, .int .i64 t] 55))
  have HK0 := Aside0.mk (blk_new w (.cells #[.int .i64 k, .int .i64 f, .int .i64 t] 55))
  refine (quote_plain _ u (by omega) HP.out).mono ?_
  rintro e W1 ⟨rfl, hF1⟩
  have HF1 := Aside0.mk (HF0.out.trans hF1 (fun _ _ h => h))
  have HK1 := Aside0.mk (hF1.blk HK0.out id)
  clear hF1 HF0 HK0
  have hc0 : W1.cell? ⟨w.heap.size, 0, none⟩ = some (.int .i64 k) := (blk_cell HK1.out 0).trans rfl
  have hc1 : W1.cell? ⟨w.heap.size, 1, none⟩ = some (.int .i64 f) := (blk_cell HK1.out 1).trans rfl
  have hc2 : W1.cell? ⟨w.heap.size, 2, none⟩ = some (.int .i64 t) := (blk_cell HK1.out 2).trans rfl
  obtain ⟨ad, rfl, hx⟩ := Kd.at_string (HF1.out.C (S := fun _ => False) ByteArray.empty HA.out (fun _ _ _ => id)) (k : Int) (by omega) (by omega)
  simp only [Int.toNat_natCast] at hx
  go_wp2_with (fail)
  obtain ⟨x, hX⟩ : ∃ x, rdOf ByteArray.empty ns k = x := ⟨_, rfl⟩
  rw [hX] at hx hn
  have hd1 := dec_size f (by omega)
  have hd2 := dec_size t h100
  have hq := quoted_size u
  have kI1 := fun n => Tryd.strconv_Itoa_small f (by omega) (W1.drewN n)
  have kI2 := fun n => Tryd.strconv_Itoa_small t (by omega) (W1.drewN n)
  have hki : (k : Int) < (ns.length : Int) := by omega
  have g1 : ¬ (9223372036854775807 < x.size + 1) := by omega
  have hd1 : (Lib.decDigits f).length ≤ 2 := hd1
  have hd2 : (Lib.decDigits t).length ≤ 2 := hd2
  have g2 : ¬ (9223372036854775807 < x.size + 1 + (Lib.decDigits f).length) := by omega
  have g3 : ¬ (9223372036854775807 < x.size + 1 + (Lib.decDigits f).length + 1) := by omega
  have g4 : ¬ (9223372036854775807 < x.size + 1 + (Lib.decDigits f).length + 1 + (Lib.decDigits t).length) := by omega
  have g5 : ¬ (9223372036854775807 < x.size + 1 + (Lib.decDigits f).length + 1 + (Lib.decDigits t).length + 1) := by omega
  go_quiet (first | (go_at_call_of 46 (Value.int .i64 (f : Int)); exact Calls.quiet_of_same (kI1 _)) | (go_at_call_of 46 (Value.int .i64 (t : Int)); exact Calls.quiet_of_same (kI2 _)))
  go_wp2_with (fail)
  go_ret2
  exact ⟨by rw [hX, hu]; rfl, HF1.out.drewN _⟩
end Go.Proofs.YtagokdbpgljgjaaDoor.Tok
/-
Whether tokens are a row: token.Check, walked.
-/
set_option linter.unusedSimpArgs false
set_option linter.unusedVariables false
namespace Go.Proofs.YtagokdbpgljgjaaDoor.Tok
open Go.RowKit Go.Proofs.YtagokdbpgljgjaaDoorW.PrintWords Go.Proofs.YtagokdbpgljgjaaDoorW.PrintLast Go.Proofs.YtagokdbpgljgjaaDoorW.PrintMore Go.Proofs.YtagokdbpgljgjaaDoor.Fr Go.Proofs.YtagokdbpgljgjaaDoor.PGramFirsts Go.Proofs.YtagokdbpgljgjaaDoor.TextSet Go.Proofs.YtagokdbpgljgjaaDoor.Bld
/-- Is a token right behind a place? -/
def rightT (kinds n : Nat) (at_ : Int) (t : S55) : Bool := decide (2 ≤ t.f0 ∧ t.f0 < kinds ∧ at_ ≤ t.f1 ∧ t.f1 ≤ t.f2 ∧ t.f2 ≤ n)
/-- The first wrong token. -/
def checkF (kinds n : Nat) : Int → Int → List S55 → Int × Int
  | _, _, [] => (0, 0)
  | at_, i, t :: l => if rightT kinds n at_ t = true then checkF kinds n t.f2 (i + 1) l else (i, 71)
theorem checkF_yes {kinds n : Nat} {at_ i : Int} {t : S55} {l : List S55} (h : 2 ≤ t.f0 ∧ t.f0 < kinds ∧ at_ ≤ t.f1 ∧ t.f1 ≤ t.f2 ∧ t.f2 ≤ n) : checkF kinds n at_ i (t :: l) = checkF kinds n t.f2 (i + 1) l := by
  rw [checkF, if_pos (by unfold rightT; exact decide_eq_true h)]
theorem checkF_no {kinds n : Nat} {at_ i : Int} {t : S55} {l : List S55} (h : ¬ (2 ≤ t.f0 ∧ t.f0 < kinds ∧ at_ ≤ t.f1 ∧ t.f1 ≤ t.f2 ∧ t.f2 ≤ n)) : checkF kinds n at_ i (t :: l) = (i, 71) := by
  rw [checkF, if_neg (by unfold rightT; simpa using h)]
set_option maxHeartbeats 4000000 in
set_option maxRecDepth 100000 in
theorem check_calls (w : World) (ns : List ByteArray) (A : Option Addr) (cp : Nat) (hA : Kd.string.C w A ns.length ns) (hs : ∀ s, s ∈ ns → s.size ≤ maxLen) (src : ByteArray) (l : List S55) (A2 : Option Addr) (c2 : Nat) (hC : Kd.C k55 w A2 l.length l) :
    Calls Tryd.prog 13 #[.slice A ns.length cp, .string src, .slice A2 l.length c2] w fun e w' => (∃ a b, e = .returned (.tuple #[.int .i64 a, .int .i64 b]) ∧ (KindsOk ns → l.length ≤ 65536 → (a, b) = checkF ns.length src.size 0 0 l) ∧ (KindsOk ns → 65536 < l.length → (a, b) = (65536, 71)) ∧ (¬ KindsOk ns → (a, b) = (0, 70))) ∧ Fr (fun _ => False) w w' := by
  have hm := Kd.C_max hA
  go_enter Tryd.func13, Tryd.ntmps13
  have HA := Aside0.mk hA
  have HC := Aside0.mk hC
  have HS := Aside0.mk hs
  clear hA hC hs
  go_wp2_with (fail)
  refine (kinds_calls w ns A cp HA.out HS.out).mono ?_
  rintro e W1 ⟨⟨r, rfl, hr⟩, hF⟩
  have HF0 := Aside0.mk hF
  have HR := Aside0.mk hr
  clear hF hr
  by_cases h0 : r = 0
  case neg =>
    have HK := Aside0.mk (fun h => h0 (HR.out.2 h) : ¬ KindsOk ns)
    go_wp2_with (fail)
    go_ret2
    exact ⟨⟨_, _, rfl, fun h => absurd h HK.out, fun h => absurd h HK.out, fun _ => rfl⟩, HF0.out⟩
  have HK := Aside0.mk (HR.out.1 h0)
  clear HR
  subst h0
  by_cases h1 : 65536 < l.length
  · go_wp2_with (fail)
    go_ret2
    exact ⟨⟨_, _, rfl, fun _ h => by omega, fun _ _ => rfl, fun h => absurd HK.out h⟩, HF0.out⟩
  go_wp2_with (fail)
  go_loopw [8, 19] (fun a b W => ∃ (i : Nat) (at_ : Int), a = .int .i64 at_ ∧ b = .int .i64 i ∧ i ≤ l.length ∧ Aside0 (checkF ns.length src.size at_ i (l.drop i) = checkF ns.length src.size 0 0 l) ∧ Aside0 (Fr (fun _ => False) w W)) (fun _ b _ => l.length - (intOf b).toNat)
  case atStart => exact ⟨0, 0, rfl, rfl, Nat.zero_le _, ⟨rfl⟩, HF0⟩
  case round =>
    clear HF0
    obtain ⟨i, at_, rfl, rfl, hi, HE, HF⟩ := hrel
    by_cases hlt : i < l.length
    · obtain ⟨ad, rfl, hx0, hx1, hx2⟩ := at_T55 HC.out (i : Int) (by omega) (by omega)
      replace hx0 := HF.out.cell hx0 id
      replace hx1 := HF.out.cell hx1 id
      replace hx2 := HF.out.cell hx2 id
      simp only [Int.toNat_natCast] at hx0 hx1 hx2
      have HD := Aside0.mk (show l.drop i = rd_T55 l i :: l.drop (i + 1) from by
        rw [List.drop_eq_getElem_cons hlt]
        simp [rd_T55, List.getD_eq_getElem?_getD, List.getElem?_eq_getElem hlt])
      generalize rd_T55 l i = t at hx0 hx1 hx2 HD
      obtain ⟨k, f, u⟩ := t
      have HE2 := Aside0.mk (HD.out ▸ HE.out)
      clear HE HD
      go_wp2_with (fail)
      all_goals first
        | (refine bodyPost_ret (results_tmp2 rfl _ _ _) rfl ?_
           refine ⟨⟨_, _, rfl, fun _ _ => ?_, fun h => absurd HK.out h⟩, HF.out.alloc _⟩
           rw [← HE2.out, checkF_no (by simp only; omega)])
        | (refine ⟨⟨i + 1, u, rfl, by go_num, by omega, ⟨?_⟩, ⟨HF.out.alloc _⟩⟩, by simp [intOf]; omega⟩
           rw [← HE2.out, checkF_yes (by simp only; omega)]
           rfl)
    · obtain rfl : i = l.length := by omega
      go_wp2_with (fail)
      refine bodyPost_ret (results_tmp2 rfl _ _ _) rfl ?_
      refine ⟨⟨_, _, rfl, fun _ _ => ?_, fun _ h => absurd h (by omega), fun h => absurd HK.out h⟩, HF.out⟩
      rw [← HE.out, List.drop_length]
      rfl
end Go.Proofs.YtagokdbpgljgjaaDoor.Tok
/-
A row's lines: token.Lines, walked, where each token has its line.
-/
set_option linter.unusedSimpArgs false
set_option linter.unusedVariables false
namespace Go.Proofs.YtagokdbpgljgjaaDoor.Tok
open Go.RowKit Go.Proofs.YtagokdbpgljgjaaDoorW.PrintWords Go.Proofs.YtagokdbpgljgjaaDoorW.PrintLast Go.Proofs.YtagokdbpgljgjaaDoorW.PrintMore Go.Proofs.YtagokdbpgljgjaaDoor.Fr Go.Proofs.YtagokdbpgljgjaaDoor.PGramFirsts Go.Proofs.YtagokdbpgljgjaaDoor.TextSet Go.Proofs.YtagokdbpgljgjaaDoor.Bld
def linesB (L : S55 → ByteArray) (l : List S55) : List UInt8 := l.flatMap fun t => (L t).data.toList
theorem linesB_take (L : S55 → ByteArray) (l : List S55) (i : Nat) (h : i < l.length) : bytesI (linesB L (l.take i)) ++ bytesOf (L (rd_T55 l i)) = bytesI (linesB L (l.take (i + 1))) := by
  rw [bytesOf_data, ← bytesI_append, List.take_add_one]
  unfold linesB
  rw [List.flatMap_append]
  simp [rd_T55, List.getD_eq_getElem?_getD, List.getElem?_eq_getElem h]
theorem linesB_size (L : S55 → ByteArray) (l : List S55) (hL : ∀ i : Nat, i < l.length → (L (rd_T55 l i)).size ≤ 100000) : ∀ i, i ≤ l.length → (bytesI (linesB L (l.take i))).length ≤ 100000 * i
  | 0, _ => by simp [linesB, bytesI]
  | i + 1, h => by
    have h1 := linesB_size L l hL i (by omega)
    have h2 := hL i (by omega)
    rw [← linesB_take L l i (by omega), List.length_append]
    have h3 : (bytesOf (L (rd_T55 l i))).length = (L (rd_T55 l i)).size := by simp [bytesOf]
    omega
set_option maxHeartbeats 4000000 in
set_option maxRecDepth 100000 in
theorem lines_calls (w : World) (ns : List ByteArray) (A : Option Addr) (cp : Nat) (hA : Kd.string.C w A ns.length ns) (hs : ∀ s, s ∈ ns → s.size ≤ maxLen) (src : ByteArray) (l : List S55) (A2 : Option Addr) (c2 : Nat) (hC : Kd.C k55 w A2 l.length l)
    (hk : KindsOk ns) (hle : l.length ≤ 65536) (hchk : checkF ns.length src.size 0 0 l = (0, 0)) (L : S55 → ByteArray) (hLs : ∀ i : Nat, i < l.length → (L (rd_T55 l i)).size ≤ 100000)
    (hL : ∀ i : Nat, i < l.length → ∀ W, Fr (fun q => w.heap.size ≤ q) w W → Calls Tryd.prog 36 #[.slice A ns.length cp, .string src, .agg #[.int .i64 (rd_T55 l i).f0, .int .i64 (rd_T55 l i).f1, .int .i64 (rd_T55 l i).f2]] W fun e w' => e = .returned (.tuple #[.string (L (rd_T55 l i)), .bool true]) ∧ Fr (fun _ => False) W w') :
    Calls Tryd.prog 18 #[.slice A ns.length cp, .string src, .slice A2 l.length c2] w fun e w' => e = .returned (.tuple #[.string ⟨(linesB L l).toArray⟩, .int .i64 0]) ∧ Fr (fun _ => False) w w' := by
  go_enter Tryd.func18, Tryd.ntmps18
  have HA := Aside0.mk hA
  have HC := Aside0.mk hC
  have HS := Aside0.mk hs
  have HK := Aside0.mk hk
  have HL := Aside0.mk hL
  have HLS := Aside0.mk hLs
  have HCH := Aside0.mk hchk
  clear hA hC hs hk hL hLs hchk
  go_wp2_with (fail)
  refine (check_calls w ns A cp HA.out HS.out src l A2 c2 HC.out).mono ?_
  rintro e W1 ⟨⟨a, b, rfl, hr, _, _⟩, hF⟩
  obtain ⟨rfl, rfl⟩ : a = 0 ∧ b = 0 := by
    have := (hr HK.out hle).trans HCH.out
    simpa using this
  have HF0 := Aside0.mk (hF.mono (T := fun q => w.heap.size ≤ q) (fun _ h => h.elim))
  clear hF hr
  go_wp2_with (fail)
  have HB0 := Aside0.mk (show Bd (W1.alloc (.cells #[.pointer none, .slice none 0 0] 79)) w.heap.size W1.heap.size (.pointer none) (.slice none 0 0) [] from ⟨blk_new _ _, Kd.R_nil _ _ _ _ _, .inl rfl⟩)
  have HF1 := Aside0.mk (HF0.out.alloc (.cells #[.pointer none, .slice none 0 0] 79))
  have hsz := HF0.out.size
  obtain ⟨bb, hbb⟩ : ∃ bb, W1.heap.size = bb := ⟨_, rfl⟩
  rw [hbb] at hsz HB0
  simp only [hbb]
  clear hbb HF0
  go_loopw [27] (fun a W => ∃ (i : Nat) (p v : Value), a = .int .i64 i ∧ i ≤ l.length ∧ Aside0 (Bd W w.heap.size bb p v (bytesI (linesB L (l.take i)))) ∧ Aside0 (Fr (fun q => w.heap.size ≤ q) w W)) (fun a _ => l.length - (intOf a).toNat)
  case atStart => exact ⟨0, _, _, rfl, Nat.zero_le _, HB0, HF1⟩
  case round =>
    clear HB0 HF1
    obtain ⟨i, p, v, rfl, hi, HB, HF⟩ := hrel
    by_cases hlt : i < l.length
    · obtain ⟨ad, rfl, hx0, hx1, hx2⟩ := at_T55 HC.out (i : Int) (by omega) (by omega)
      have hb0 := World.block_lt_of_cell? w _ hx0
      have hb1 := World.block_lt_of_cell? w _ hx1
      have hb2 := World.block_lt_of_cell? w _ hx2
      replace hx0 := HF.out.cell hx0 (by omega)
      replace hx1 := HF.out.cell hx1 (by omega)
      replace hx2 := HF.out.cell hx2 (by omega)
      clear hb0 hb1 hb2
      simp only [Int.toNat_natCast] at hx0 hx1 hx2
      have HT := Aside0.mk (linesB_take L l i hlt)
      have hl1 := linesB_size L l HLS.out i hi
      have hl2 := HLS.out i hlt
      have HC1 := Aside0.mk (HL.out i hlt)
      generalize rd_T55 l i = t at hx0 hx1 hx2 HT HC1 hl2
      obtain ⟨k, f, u⟩ := t
      go_wp2_with (fail)
      have HF1 := Aside0.mk (HF.out.alloc (.cells #[.int .i64 k, .int .i64 f, .int .i64 u] 55))
      have HB1 := Aside0.mk (show Bd (wr.alloc (.cells #[.int .i64 k, .int .i64 f, .int .i64 u] 55)) w.heap.size bb p v (bytesI (linesB L (l.take i))) from ⟨blk_alloc HB.out.blk _, Kd.R_alloc HB.out.row _, HB.out.addr⟩)
      refine (HC1.out _ HF1.out).mono ?_
      rintro e W2 ⟨rfl, hF2⟩
      have HB2 := Aside0.mk (show Bd W2 w.heap.size bb p v (bytesI (linesB L (l.take i))) from ⟨hF2.blk HB1.out.blk id, hF2.R HB1.out.row (fun _ _ => id), HB1.out.addr⟩)
      have HF2 := Aside0.mk (HF1.out.trans hF2 (fun _ _ h => h.elim))
      have hs2 := HF2.out.size
      clear hF2 HB1 HF1 HB HF
      go_wp2_with (fail)
      refine (writeString_calls W2 w.heap.size bb _ v _ _ HB2.out hs2 hsz (by omega)).mono ?_
      rintro e W3 ⟨⟨r, rfl⟩, v3, hB3, hF3⟩
      have HB3 := Aside0.mk (show Bd W3 w.heap.size bb _ v3 (bytesI (linesB L (l.take (i + 1)))) by
        rw [← HT.out]; exact hB3)
      have HF3 := Aside0.mk (HF2.out.trans hF3 (fun _ _ h => h))
      clear hB3 hF3 HB2 HF2 HT
      go_wp2_with (fail)
      exact ⟨⟨i + 1, _, v3, by go_num, by omega, HB3, HF3⟩, by simp [intOf]; omega⟩
    · obtain rfl : i = l.length := by omega
      have HBL := Aside0.mk (is_builder (l := linesB L l) hsz (by have h := HB.out; rw [List.take_length] at h; exact h))
      go_wp2_with (fail)
      refine (Tryd.Builder_String_any w.heap.size bb _ wr HBL.out HF.out.size).mono ?_
      rintro e W3 ⟨rfl, hb⟩
      have HF3 := Aside0.mk ((HF.out.below (Nat.le_refl _) (fun k h1 h2 => by omega)).trans hb)
      clear hb
      go_wp2_with (fail)
      go_ret2
      exact ⟨rfl, Fr.of_below HF3.out⟩
end Go.Proofs.YtagokdbpgljgjaaDoor.Tok
/-
A number in its one form: token.number, walked at a small number's digits.
-/
set_option linter.unusedSimpArgs false
set_option linter.unusedVariables false
namespace Go.Proofs.YtagokdbpgljgjaaDoor.Tok
open Go.RowKit Go.Proofs.YtagokdbpgljgjaaDoorW.PrintWords Go.Proofs.YtagokdbpgljgjaaDoorW.PrintLast Go.Proofs.YtagokdbpgljgjaaDoorW.PrintMore Go.Proofs.YtagokdbpgljgjaaDoor.Fr Go.Proofs.YtagokdbpgljgjaaDoor.PGramFirsts Go.Proofs.YtagokdbpgljgjaaDoor.TextSet Go.Proofs.YtagokdbpgljgjaaDoor.Bld
theorem atoi_dec (n : Nat) (h : n < 100) : Lib.atoi (dec n).data.toList = some (n : Int) := by
  have : ∀ k : Fin 100, Lib.atoi (dec k.val).data.toList = some (k.val : Int) := by decide +kernel
  exact this ⟨n, h⟩
set_option maxRecDepth 100000 in
theorem number_calls (w : World) (n : Nat) (h : n < 100) :
    Calls Tryd.prog 42 #[.string (dec n)] w fun e w' => e = .returned (.tuple #[.int .i64 n, .bool true]) ∧ Fr (fun _ => False) w w' := by
  have hd := dec_size n h
  have ha := Aside0.mk (atoi_dec n h)
  have hi := Aside0.mk (fun W => Tryd.strconv_Itoa_small n h W)
  have hX : (⟨(Lib.decDigits n).toArray⟩ : ByteArray) = dec n := rfl
  rw [hX] at hi
  clear hX
  generalize dec n = x at hd ha hi ⊢
  go_enter Tryd.func42, Tryd.ntmps42
  go_wp2_with (fail)
  refine (Tryd.strconv_Atoi x n (by omega) ha.out w).mono ?_
  rintro e W1 ⟨rfl, t, hW⟩
  have HF := Aside0.mk (show Fr (fun _ => False) w W1 from by rw [hW]; exact Fr.of_below (Lib.bytesWorld_below w 5 t))
  clear hW
  go_wp2_with (fail)
  refine (hi.out W1).mono ?_
  rintro e W2 ⟨rfl, rfl⟩
  go_wp2_with (fail)
  go_ret2
  exact ⟨rfl, HF.out⟩
end Go.Proofs.YtagokdbpgljgjaaDoor.Tok
