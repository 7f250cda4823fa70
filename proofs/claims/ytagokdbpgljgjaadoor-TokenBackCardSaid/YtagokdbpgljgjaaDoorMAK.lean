/-
The piece of a text at an ASCII byte: text.Next, walked.
-/
import Derived.Lib.OthersKept
import Derived.Test.YtagokdbpgljgjaaDoorMAE
import Derived.Test.YtagokdbpgljgjaaDoorMAJ
set_option linter.unusedSimpArgs false
set_option linter.unusedVariables false
namespace Go.Proofs.YtagokdbpgljgjaaDoor.Tok
open Go.RowKit Go.Proofs.YtagokdbpgljgjaaDoorW.PrintWords Go.Proofs.YtagokdbpgljgjaaDoorW.PrintLast Go.Proofs.YtagokdbpgljgjaaDoorW.PrintMore Go.Proofs.YtagokdbpgljgjaaDoor.Fr Go.Proofs.YtagokdbpgljgjaaDoor.PGramFirsts Go.Proofs.YtagokdbpgljgjaaDoor.TextSet
theorem enc_size (n : Nat) (h : n < 128) : (Utf8.encode (n : Int)).size = 1 := by
  have hv : Utf8.valid (n : Int) = true := by
    unfold Utf8.valid
    simp only [Bool.or_eq_true, Bool.and_eq_true, decide_eq_true_eq]
    omega
  unfold Utf8.encode
  rw [hv]
  simp only [if_true, Int.toNat_natCast]
  rw [if_pos h]
  rfl
theorem sub_size (s : ByteArray) (i : Nat) : (s.extract i s.size).size = s.size - i := by simp
theorem sub_get (s : ByteArray) (i : Nat) (h : i < s.size) (h2 : 0 < (s.extract i s.size).size) : (s.extract i s.size)[0]'h2 = s[i]'h := by
  simp [ByteArray.getElem_extract]
set_option maxHeartbeats 2000000 in
set_option maxRecDepth 100000 in
theorem next_ascii (w : World) (s : ByteArray) (i : Nat) (h : i < s.size) (ha : (s[i]'h).toNat < 128) (hs : s.size ≤ maxLen) :
    Calls Tryd.prog 54 #[.string s, .int .i64 i] w fun e w' => e = .returned (.tuple #[.int .i32 (s[i]'h).toNat, .int .i64 1, .bool true]) ∧ Fr (fun _ => False) w w' := by
  have hm : maxLen ≤ 9223372036854775807 := by decide
  go_enter Tryd.func54, Tryd.ntmps54
  go_wp2_with (fail)
  have hz := sub_size s i
  have hg := fun h2 => sub_get s i h h2
  generalize s.extract i s.size = u at hz hg ⊢
  have hu0 : 0 < u.size := by omega
  have hg : u[0]'hu0 = s[i]'h := hg hu0
  obtain ⟨c, hst⟩ : ∃ c, s[i]'h = c := ⟨_, rfl⟩
  rw [hst] at ha hg
  go_loopw [8] (fun _ W => W = w.iter u 0) (fun _ _ => 0)
  case atStart => rfl
  case round =>
    obtain rfl := hrel
    have hk : (w.iter u 0).heap[w.heap.size]? = some (.stringIter u 0) := blk_new w (.stringIter u 0)
    have hnx := fun ty => Lib.run_next_ascii_at (P := Tryd.prog) (w.iter u 0) w.heap.size u 0 ty hk hu0 (by rw [hg]; exact ha)
    rw [hg] at hnx
    have hF := Aside0.mk (show Fr (fun _ => False) w ((w.iter u 0).iterAt w.heap.size u (0 + 1)) from by
      have h0 := (Fr.refl (fun _ => False) w).alloc (.stringIter u 0)
      refine ⟨rfl, rfl, rfl, ?_, fun k hk _ => ?_⟩
      · have := h0.size
        simp only [World.iterAt, Array.size_setIfInBounds]
        exact this
      · show ((w.iter u 0).heap.setIfInBounds w.heap.size (.stringIter u (0 + 1)))[k]? = w.heap[k]?
        rw [Array.getElem?_setIfInBounds_ne (by omega)]
        exact h0.block k hk id)
    have hen := Aside0.mk (enc_size c.toNat ha)
    have hst := Aside0.mk hst
    clear hk hg hz
    go_wp2_with (fail)
    refine bodyPost_ret (results_tmp3 rfl _ _ _) rfl ?_
    exact ⟨by rw [hst.out, hen.out]; rfl, hF.out⟩
end Go.Proofs.YtagokdbpgljgjaaDoor.Tok
