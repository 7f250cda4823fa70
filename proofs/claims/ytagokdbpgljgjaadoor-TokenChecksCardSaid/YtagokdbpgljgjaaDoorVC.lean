/-
A plain text's quoted form: text.Quote, walked at a text of plain ASCII bytes.
-/
import Derived.Test.YtagokdbpgljgjaaDoorVB
import Derived.Test.YtagokdbpgljgjaaDoorVS
namespace Go.Proofs.YtagokdbpgljgjaaDoor.Tok
open Go.RowKit Go.Proofs.YtagokdbpgljgjaaDoorW.PrintWords Go.Proofs.YtagokdbpgljgjaaDoorW.PrintLast Go.Proofs.YtagokdbpgljgjaaDoorW.PrintMore Go.Proofs.YtagokdbpgljgjaaDoor.Fr Go.Proofs.YtagokdbpgljgjaaDoor.PGramFirsts Go.Proofs.YtagokdbpgljgjaaDoor.TextSet Go.Proofs.YtagokdbpgljgjaaDoor.Bld

/-- A byte that a quoted text holds as it is. -/
def Plain (c : UInt8) : Prop := 32 ≤ c.toNat ∧ c.toNat < 127 ∧ c.toNat ≠ 34 ∧ c.toNat ≠ 92
def bytesI (l : List UInt8) : List Int := l.map fun b => (b.toNat : Int)
theorem bytesOf_text (l : List UInt8) : bytesOf ⟨l.toArray⟩ = bytesI l := by simp [bytesOf, bytesI]
theorem bytesI_append (a b : List UInt8) : bytesI (a ++ b) = bytesI a ++ bytesI b := by simp [bytesI]
theorem bytesOf_data (s : ByteArray) : bytesOf s = bytesI s.data.toList := by simp [bytesOf, bytesI]
theorem take_one (s : ByteArray) (i : Nat) (h : i < s.size) : bytesI (s.data.toList.take i) ++ bytesOf (s.extract i (i + 1)) = bytesI (s.data.toList.take (i + 1)) := by
  rw [bytesOf_data, Lib.extract_data, ← bytesI_append, show i + 1 - i = 1 by omega]
  congr 1
  exact (List.take_add ..).symm
theorem is_builder {w : World} {B b : Nat} {p v : Value} {l : List UInt8} (hB : B ≤ b) (h : Bd w B b p v (bytesI l)) : Lib.IsBuilder 79 5 B b (Lib.byteCells l) w := by
  have hR := Kd.own_of_R h.row
  have e : (bytesI l).map (fun n => Value.int .u8 n) = Lib.byteCells l := by simp [bytesI, Lib.byteCells]
  have hR2 : w.ownsRow B 5 1 v (Lib.byteCells l).length (Lib.byteCells l) := by
    rw [← e]; simpa [encs] using hR
  have hne : v.ownBlock ≠ some b := fun e2 => h.ne e2.symm
  rcases h.addr with rfl | rfl
  · exact .inl ⟨hB, v, h.blk, hR2, hne⟩
  · exact .inr ⟨hB, v, h.blk, hR2, hne⟩
set_option maxHeartbeats 2000000 in
set_option maxRecDepth 100000 in
theorem quote_plain (w : World) (s : ByteArray) (hs : s.size ≤ 4096) (hp : ∀ i (h : i < s.size), Plain (s[i]'h)) :
    Calls Tryd.prog 45 #[.string s] w fun e w' => e = .returned (.tuple #[.string ⟨(34 :: (s.data.toList ++ [34])).toArray⟩, .int .i64 0]) ∧ Fr (fun _ => False) w w' := by
  go_enter Tryd.func45, Tryd.ntmps45
  have HP := Aside0.mk hp
  clear hp
  go_wp2_with (fail)
  have HB0 := Aside0.mk (show Bd (w.alloc (.cells #[.pointer none, .slice none 0 0] 79)) w.heap.size w.heap.size (.pointer none) (.slice none 0 0) [] from ⟨blk_new _ _, Kd.R_nil _ _ _ _ _, .inl rfl⟩)
  have HF0 := Aside0.mk ((Fr.refl (fun k => w.heap.size ≤ k) w).alloc (.cells #[.pointer none, .slice none 0 0] 79))
  refine (writeByte_calls _ w.heap.size w.heap.size _ _ _ 34 HB0.out HF0.out.size (Nat.le_refl _) (by simp)).mono ?_
  rintro e W1 ⟨rfl, v1, hB1, hF1⟩
  have HB1 := Aside0.mk hB1
  have HF1 := Aside0.mk (HF0.out.trans hF1 (fun _ _ h => h))
  clear HB0 HF0 hB1 hF1
  go_wp2_with (fail)
  go_loopw [5] (fun a W => ∃ (i : Nat) (v : Value), a = .int .i64 i ∧ i ≤ s.size ∧ Aside0 (Bd W w.heap.size w.heap.size (.pointer (some ⟨w.heap.size, 0, none⟩)) v (34 :: bytesI (s.data.toList.take i))) ∧ Aside0 (Fr (fun q => w.heap.size ≤ q) w W)) (fun a _ => s.size - (intOf a).toNat)
  case atStart => exact ⟨0, v1, rfl, Nat.zero_le _, HB1, HF1⟩
  case round =>
    clear HB1 HF1
    obtain ⟨i, v, rfl, hi, HB, HF⟩ := hrel
    by_cases hlt : i < s.size
    · have HPI := HP.out i hlt
      have HT := Aside0.mk (take_one s i hlt)
      have HNA := Aside0.mk (next_ascii wr s i hlt (by have := HPI.2.1; omega) (by have : maxLen = 9223372036854775807 := by decide
                                                                                   omega))
      obtain ⟨c, hst⟩ : ∃ c, s[i]'hlt = c := ⟨_, rfl⟩
      rw [hst] at HPI HNA
      clear hst
      obtain ⟨p1, p2, p3, p4⟩ := HPI
      go_wp2_with (fail)
      refine HNA.out.mono ?_
      rintro e W2 ⟨rfl, hF2⟩
      have HB2 := Aside0.mk (show Bd W2 w.heap.size w.heap.size _ v _ from ⟨hF2.blk HB.out.blk id, hF2.R HB.out.row (fun _ _ => id), HB.out.addr⟩)
      have HF2 := Aside0.mk (HF.out.trans hF2 (fun _ _ h => h.elim))
      have hsz := HF2.out.size
      clear hF2 HB HF HNA
      have q1 : (((c.toNat : Nat) : Int) == 34) = false := beq_eq_false_iff_ne.2 (by omega)
      have q2 : (((c.toNat : Nat) : Int) == 92) = false := beq_eq_false_iff_ne.2 (by omega)
      have q3 : (((c.toNat : Nat) : Int) == 127) = false := beq_eq_false_iff_ne.2 (by omega)
      have q4 : decide (((c.toNat : Nat) : Int) < 32) = false := decide_eq_false (by omega)
      go_wp2_with (fail)
      refine (writeString_calls W2 w.heap.size w.heap.size _ v _ _ HB2.out hsz (Nat.le_refl _) (by simp [bytesI]; omega)).mono ?_
      rintro e W3 ⟨⟨r, rfl⟩, v3, hB3, hF3⟩
      have HB3 := Aside0.mk (show Bd W3 w.heap.size w.heap.size _ v3 (34 :: bytesI (s.data.toList.take (i + 1))) by
        rw [← HT.out]; exact hB3)
      have HF3 := Aside0.mk (HF2.out.trans hF3 (fun _ _ h => h))
      clear hB3 hF3 HB2 HF2 HT
      go_wp2_with (fail)
      exact ⟨⟨i + 1, v3, by go_num, by omega, HB3, HF3⟩, by simp [intOf]; omega⟩
    · obtain rfl : i = s.size := by omega
      go_wp2_with (fail)
      refine (writeByte_calls wr w.heap.size w.heap.size _ v _ 34 HB.out HF.out.size (Nat.le_refl _) (by simp [bytesI]; omega)).mono ?_
      rintro e W2 ⟨rfl, v2, hB2, hF2⟩
      have HBL := Aside0.mk (is_builder (l := 34 :: (s.data.toList ++ [34])) (Nat.le_refl _) (show Bd W2 w.heap.size w.heap.size _ v2 (bytesI (34 :: (s.data.toList ++ [34]))) by
        have e : bytesI (34 :: (s.data.toList ++ [34])) = 34 :: bytesI (s.data.toList.take s.size) ++ [34] := by
          rw [List.take_of_length_le (by simp)]; simp [bytesI]
        rw [e]; exact hB2))
      have HF2 := Aside0.mk (HF.out.trans hF2 (fun _ _ h => h))
      clear hB2 hF2
      go_wp2_with (fail)
      refine (Tryd.Builder_String_any w.heap.size w.heap.size _ W2 HBL.out HF2.out.size).mono ?_
      rintro e W3 ⟨rfl, hb⟩
      have HF3 := Aside0.mk ((HF2.out.below (Nat.le_refl _) (fun k h1 h2 => by omega)).trans hb)
      clear hb
      go_wp2_with (fail)
      go_ret2
      exact ⟨rfl, Fr.of_below HF3.out⟩
end Go.Proofs.YtagokdbpgljgjaaDoor.Tok
