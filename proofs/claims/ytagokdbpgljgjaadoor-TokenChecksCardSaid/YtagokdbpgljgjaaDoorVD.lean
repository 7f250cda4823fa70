/-
A token's line: token.line, walked at small numbers and a plain text.
-/
import Derived.Test.YtagokdbpgljgjaaDoorVC
import Derived.Deep.QuietTactic
import Derived.BigQuiet
namespace Go.Proofs.YtagokdbpgljgjaaDoor.Tok
open Go.RowKit Go.Proofs.YtagokdbpgljgjaaDoorW.PrintWords Go.Proofs.YtagokdbpgljgjaaDoorW.PrintLast Go.Proofs.YtagokdbpgljgjaaDoorW.PrintMore Go.Proofs.YtagokdbpgljgjaaDoor.Fr Go.Proofs.YtagokdbpgljgjaaDoor.PGramFirsts Go.Proofs.YtagokdbpgljgjaaDoor.TextSet Go.Proofs.YtagokdbpgljgjaaDoor.Bld

/-- The quoted form of a plain text. -/
def quoted (s : ByteArray) : ByteArray := ⟨(34 :: (s.data.toList ++ [34])).toArray⟩
def dec (n : Nat) : ByteArray := ⟨(Lib.decDigits n).toArray⟩
/-- The line of a token. -/
def lineB (nm : ByteArray) (f t : Nat) (s : ByteArray) : ByteArray := nm ++ ⟨#[32]⟩ ++ dec f ++ ⟨#[32]⟩ ++ dec t ++ ⟨#[32]⟩ ++ quoted s ++ ⟨#[10]⟩
theorem dec_size (n : Nat) (h : n < 100) : (dec n).size ≤ 2 := by
  have : ∀ k : Fin 100, (dec k.val).size ≤ 2 := by decide +kernel
  exact this ⟨n, h⟩
theorem quoted_size (s : ByteArray) : (quoted s).size = s.size + 2 := by
  show ((34 :: (s.data.toList ++ [34])).toArray).size = s.size + 2
  simp
set_option maxHeartbeats 2000000 in
set_option maxRecDepth 100000 in
theorem line_calls (w : World) (ns : List ByteArray) (A : Option Addr) (cp : Nat) (hA : Kd.string.C w A ns.length ns) (src : ByteArray) (k f t : Nat) (hk : k < ns.length) (hn : (rdOf ByteArray.empty ns k).size ≤ 4096) (hft : f ≤ t) (ht : t ≤ src.size) (h100 : t < 100)
    (hp : ∀ i (h : i < (src.extract f t).size), Plain ((src.extract f t)[i]'h)) :
    Calls Tryd.prog 36 #[.slice A ns.length cp, .string src, .agg #[.int .i64 k, .int .i64 f, .int .i64 t]] w fun e w' => e = .returned (.tuple #[.string (lineB (rdOf ByteArray.empty ns k) f t (src.extract f t)), .bool true]) ∧ Fr (fun _ => False) w w' := by
  have hm := Kd.C_max hA
  have hsz : (src.extract f t).size = t - f := by simp; omega
  go_enter Tryd.func36, Tryd.ntmps36
  have HA := Aside0.mk hA
  have HP := Aside0.mk hp
  clear hA hp
  obtain ⟨u, hu⟩ : ∃ u, src.extract f t = u := ⟨_, rfl⟩
  rw [hu] at hsz HP
  go_wp2_with (fail)
  have HF0 := Aside0.mk ((Fr.refl (fun _ => False) w).alloc (.cells #[.int .i64 k, .int .i64 f, .int .i64 t] 55))
  have HK0 := Aside0.mk (blk_new w (.cells #[.int .i64 k, .int .i64 f, .int .i64 t] 55))
  refine (quote_plain _ u (by omega) HP.out).mono ?_
  rintro e W1 ⟨rfl, hF1⟩
  have HF1 := Aside0.mk (HF0.out.trans hF1 (fun _ _ h => h))
  have HK1 := Aside0.mk (hF1.blk HK0.out id)
  clear hF1 HF0 HK0
  have hc0 : W1.cell? ⟨w.heap.size, 0, none⟩ = some (.int .i64 k) := (blk_cell HK1.out 0).trans rfl
  have hc1 : W1.cell? ⟨w.heap.size, 1, none⟩ = some (.int .i64 f) := (blk_cell HK1.out 1).trans rfl
  have hc2 : W1.cell? ⟨w.heap.size, 2, none⟩ = some (.int .i64 t) := (blk_cell HK1.out 2).trans rfl
  obtain ⟨ad, rfl, hx⟩ := Kd.at_string (HF1.out.C (S := fun _ => False) ByteArray.empty HA.out (fun _ _ _ => id)) (k : Int) (by omega) (by omega)
  simp only [Int.toNat_natCast] at hx
  go_wp2_with (fail)
  obtain ⟨x, hX⟩ : ∃ x, rdOf ByteArray.empty ns k = x := ⟨_, rfl⟩
  rw [hX] at hx hn
  have hd1 := dec_size f (by omega)
  have hd2 := dec_size t h100
  have hq := quoted_size u
  have kI1 := fun n => Tryd.strconv_Itoa_small f (by omega) (W1.drewN n)
  have kI2 := fun n => Tryd.strconv_Itoa_small t (by omega) (W1.drewN n)
  have hki : (k : Int) < (ns.length : Int) := by omega
  have g1 : ¬ (9223372036854775807 < x.size + 1) := by omega
  have hd1 : (Lib.decDigits f).length ≤ 2 := hd1
  have hd2 : (Lib.decDigits t).length ≤ 2 := hd2
  have g2 : ¬ (9223372036854775807 < x.size + 1 + (Lib.decDigits f).length) := by omega
  have g3 : ¬ (9223372036854775807 < x.size + 1 + (Lib.decDigits f).length + 1) := by omega
  have g4 : ¬ (9223372036854775807 < x.size + 1 + (Lib.decDigits f).length + 1 + (Lib.decDigits t).length) := by omega
  have g5 : ¬ (9223372036854775807 < x.size + 1 + (Lib.decDigits f).length + 1 + (Lib.decDigits t).length + 1) := by omega
  go_quiet (first | (go_at_call_of 46 (Value.int .i64 (f : Int)); exact Calls.quiet_of_same (kI1 _)) | (go_at_call_of 46 (Value.int .i64 (t : Int)); exact Calls.quiet_of_same (kI2 _)))
  go_wp2_with (fail)
  go_ret2
  exact ⟨by rw [hX, hu]; rfl, HF1.out.drewN _⟩
end Go.Proofs.YtagokdbpgljgjaaDoor.Tok
