/-
A token's line in general: token.line and the document's, walked. What strconv.Itoa answers is a contract here.
-/
import Derived.Lib.ItoaLen
import Derived.Test.YtagokdbpgljgjaaDoorMAU
import Derived.Test.YtagokdbpgljgjaaDoorMAM
set_option linter.unusedSimpArgs false
set_option linter.unusedVariables false
namespace Go.Proofs.YtagokdbpgljgjaaDoor.Tok
open Go.RowKit Go.Proofs.YtagokdbpgljgjaaDoorW.PrintWords Go.Proofs.YtagokdbpgljgjaaDoorW.PrintLast Go.Proofs.YtagokdbpgljgjaaDoorW.PrintMore Go.Proofs.YtagokdbpgljgjaaDoor.Fr Go.Proofs.YtagokdbpgljgjaaDoor.PGramFirsts Go.Proofs.YtagokdbpgljgjaaDoor.TextSet Go.Proofs.YtagokdbpgljgjaaDoor.Bld Go.Proofs.YtagokdbpgljgjaaDoor.Utf
/-- A number's text. -/
def itB (n : Nat) : ByteArray := ⟨(Lib.itoa (n : Int)).toArray⟩
/-- The line of a token. -/
def lineG (nm : ByteArray) (f t : Nat) (q : ByteArray) : ByteArray := nm ++ ⟨#[32]⟩ ++ itB f ++ ⟨#[32]⟩ ++ itB t ++ ⟨#[32]⟩ ++ q ++ ⟨#[10]⟩
/-- What strconv.Itoa does, from a world on. -/
def ItC (w : World) : Prop := ∀ W, Fr (fun _ => False) w W → ∀ n : Nat, n ≤ 9223372036854775807 → Calls Tryd.prog 46 #[.int .i64 n] W fun e w' => e = .returned (.string (itB n)) ∧ Fr (fun _ => False) W w'
theorem ItC.go {w W : World} (h : ItC w) (hF : Fr (fun _ => False) w W) : ItC W := fun W1 h1 n hn => h W1 (hF.trans h1 (fun _ _ h => h)) n hn
set_option maxHeartbeats 4000000 in
set_option maxRecDepth 100000 in
theorem line_any (w : World) (ns : List ByteArray) (A : Option Addr) (cp : Nat) (hA : Kd.string.C w A ns.length ns) (src : ByteArray) (k f t : Nat) (hk : k < ns.length) (hn : (rdOf ByteArray.empty ns k).size ≤ 4096) (hft : f ≤ t) (ht : t ≤ src.size) (hsr : src.size ≤ 9223372036854775807) (hI : ItC w) (hil : (itB f).size ≤ 21 ∧ (itB t).size ≤ 21) :
    Calls Tryd.prog 36 #[.slice A ns.length cp, .string src, .agg #[.int .i64 k, .int .i64 f, .int .i64 t]] w fun e w' => e = .returned (.tuple #[.string (lineG (rdOf ByteArray.empty ns k) f t (quoteF (src.extract f t)).1), .bool ((quoteF (src.extract f t)).2 == 0)]) ∧ Fr (fun _ => False) w w' := by
  have hm := Kd.C_max hA
  have HA := Aside0.mk hA
  have HI := Aside0.mk hI
  obtain ⟨hil1, hil2⟩ := hil
  clear hA hI
  obtain ⟨u, hu⟩ : ∃ u, src.extract f t = u := ⟨_, rfl⟩
  have hqz := quoteF_size u
  go_enter Tryd.func36, Tryd.ntmps36
  go_wp2_with (fail)
  have HF0 := Aside0.mk ((Fr.refl (fun _ => False) w).alloc (.cells #[.int .i64 k, .int .i64 f, .int .i64 t] 55))
  have HK0 := Aside0.mk (blk_new w (.cells #[.int .i64 k, .int .i64 f, .int .i64 t] 55))
  have HU := Aside0.mk hu
  clear hu
  refine (quote_any _ u).mono ?_
  rintro e W1 ⟨rfl, hF1⟩
  have HF1 := Aside0.mk (HF0.out.trans hF1 (fun _ _ h => h))
  have HK1 := Aside0.mk (hF1.blk HK0.out id)
  clear hF1 HF0 HK0
  have hc0 : W1.cell? ⟨w.heap.size, 0, none⟩ = some (.int .i64 k) := (blk_cell HK1.out 0).trans rfl
  have hc1 : W1.cell? ⟨w.heap.size, 1, none⟩ = some (.int .i64 f) := (blk_cell HK1.out 1).trans rfl
  have hc2 : W1.cell? ⟨w.heap.size, 2, none⟩ = some (.int .i64 t) := (blk_cell HK1.out 2).trans rfl
  obtain ⟨ad, rfl, hx⟩ := Kd.at_string (HF1.out.C (S := fun _ => False) ByteArray.empty HA.out (fun _ _ _ => id)) (k : Int) (by omega) (by omega)
  simp only [Int.toNat_natCast] at hx
  obtain ⟨qu, hqu⟩ : ∃ qu, quoteF u = qu := ⟨_, rfl⟩
  rw [hqu] at hqz
  simp only [hqu]
  obtain ⟨q, qe⟩ := qu
  have HQU := Aside0.mk hqu
  clear hqu
  simp only at hqz
  go_wp2_with (fail)
  obtain ⟨x, hX⟩ : ∃ x, rdOf ByteArray.empty ns k = x := ⟨_, rfl⟩
  rw [hX] at hx hn
  have HX := Aside0.mk hX
  clear hX
  have HLG := Aside0.mk (show x ++ ⟨#[32]⟩ ++ itB f ++ ⟨#[32]⟩ ++ itB t ++ ⟨#[32]⟩ ++ q ++ ⟨#[10]⟩ = lineG x f t q from rfl)
  have HI1 := Aside0.mk (HI.out.go HF1.out)
  have hki : (k : Int) < (ns.length : Int) := by omega
  have hfi : f ≤ 9223372036854775807 := by omega
  have hti : t ≤ 9223372036854775807 := by omega
  have g1 : ¬ (9223372036854775807 < x.size + 1) := by omega
  have g2 : ¬ (9223372036854775807 < x.size + 1 + (itB f).size) := by omega
  have g3 : ¬ (9223372036854775807 < x.size + 1 + (itB f).size + 1) := by omega
  have g4 : ¬ (9223372036854775807 < x.size + 1 + (itB f).size + 1 + (itB t).size) := by omega
  have g5 : ¬ (9223372036854775807 < x.size + 1 + (itB f).size + 1 + (itB t).size + 1) := by omega
  have g6 : ¬ (9223372036854775807 < x.size + 1 + (itB f).size + 1 + (itB t).size + 1 + q.size) := by omega
  have g7 : ¬ (9223372036854775807 < x.size + 1 + (itB f).size + 1 + (itB t).size + 1 + q.size + 1) := by omega
  refine wp_region_last_drew (S := fun w' => w'.cell? ⟨w.heap.size, 0, none⟩ = some (.int .i64 k) ∧ w'.cell? ⟨w.heap.size, 1, none⟩ = some (.int .i64 f) ∧ w'.cell? ⟨w.heap.size, 2, none⟩ = some (.int .i64 t) ∧ w'.cell? (ad.add k) = some (.string x)) (ds := []) (by kernel_rfl) ⟨hc0, hc1, hc2, hx⟩ (fun hHeld => ?_)
  refine tk 0 ?_
  refine tk 1 ?_
  refine tk 2 ?_
  refine tk 3 ?_
  refine tk 4 ?_
  refine tk 5 ?_
  refine tk 6 ?_
  refine tk 7 ?_
  refine tk 11 ?_
  refine tk 12 ?_
  refine tk 16 ?_
  refine tk 19 ?_
  refine tk 20 ?_
  refine on 8 (fun K hK => ?_)
  go_simp
  refine (HI1.out _ ((Fr.refl (fun _ => False) W1).drew) f hfi).mono ?_
  rintro e W2 ⟨rfl, hF⟩
  have HFW2 := Aside0.mk (((Fr.refl (fun _ => False) W1).drew).trans hF (fun _ _ h => h))
  clear hF
  dsimp only
  refine hK.out _ _ ⟨HFW2.out.cell hc0 id, HFW2.out.cell hc1 id, HFW2.out.cell hc2 id, HFW2.out.cell hx id⟩ (fun hHeldW2 => ?_)
  clear hK K
  try simp only [Act.put, List.setIfInBounds_toArray, List.set_cons_zero, List.set_cons_succ]
  refine tk 9 ?_
  refine tk 10 ?_
  refine on 13 (fun K hK => ?_)
  go_simp
  refine (HI1.out _ HFW2.out t hti).mono ?_
  rintro e W3 ⟨rfl, hF⟩
  have HFW3 := Aside0.mk (HFW2.out.trans hF (fun _ _ h => h))
  clear hF
  dsimp only
  refine hK.out _ _ ⟨HFW3.out.cell hc0 id, HFW3.out.cell hc1 id, HFW3.out.cell hc2 id, HFW3.out.cell hx id⟩ (fun hHeldW3 => ?_)
  clear hK K
  try simp only [Act.put, List.setIfInBounds_toArray, List.set_cons_zero, List.set_cons_succ]
  refine tk 14 ?_
  refine tk 15 ?_
  refine tk 17 ?_
  refine tk 18 ?_
  refine tk 21 ?_
  refine tk 22 ?_
  refine dn ?_
  go_wp2_with (fail)
  go_ret2
  exact ⟨by rw [HX.out, HU.out, HQU.out]; rfl, HF1.out.trans HFW3.out (fun _ _ h => h)⟩
set_option maxHeartbeats 4000000 in
set_option maxRecDepth 100000 in
theorem rline_any (w : World) (ns : List ByteArray) (A : Option Addr) (cp : Nat) (hA : Kd.string.C w A ns.length ns) (src : ByteArray) (k f t : Nat) (hk : k < ns.length) (hn : (rdOf ByteArray.empty ns k).size ≤ 4096) (hft : f ≤ t) (ht : t ≤ src.size) (hsr : src.size ≤ 9223372036854775807) (hI : ItC w) (hil : (itB f).size ≤ 21 ∧ (itB t).size ≤ 21) :
    Calls Tryd.prog 39 #[.slice A ns.length cp, .string src, .agg #[.int .i64 k, .int .i64 f, .int .i64 t]] w fun e w' => e = .returned (.string (lineG (rdOf ByteArray.empty ns k) f t (quoteF (src.extract f t)).1)) ∧ Fr (fun _ => False) w w' := by
  have hm := Kd.C_max hA
  have HA := Aside0.mk hA
  have HI := Aside0.mk hI
  obtain ⟨hil1, hil2⟩ := hil
  clear hA hI
  obtain ⟨u, hu⟩ : ∃ u, src.extract f t = u := ⟨_, rfl⟩
  have hqz := quoteF_size u
  go_enter Tryd.func39, Tryd.ntmps39
  go_wp2_with (fail)
  have HF0 := Aside0.mk ((Fr.refl (fun _ => False) w).alloc (.cells #[.int .i64 k, .int .i64 f, .int .i64 t] 55))
  have HK0 := Aside0.mk (blk_new w (.cells #[.int .i64 k, .int .i64 f, .int .i64 t] 55))
  have HU := Aside0.mk hu
  clear hu
  refine (rquote_any _ u).mono ?_
  rintro e W1 ⟨rfl, hF1⟩
  have HF1 := Aside0.mk (HF0.out.trans hF1 (fun _ _ h => h))
  have HK1 := Aside0.mk (hF1.blk HK0.out id)
  clear hF1 HF0 HK0
  have hc0 : W1.cell? ⟨w.heap.size, 0, none⟩ = some (.int .i64 k) := (blk_cell HK1.out 0).trans rfl
  have hc1 : W1.cell? ⟨w.heap.size, 1, none⟩ = some (.int .i64 f) := (blk_cell HK1.out 1).trans rfl
  have hc2 : W1.cell? ⟨w.heap.size, 2, none⟩ = some (.int .i64 t) := (blk_cell HK1.out 2).trans rfl
  obtain ⟨ad, rfl, hx⟩ := Kd.at_string (HF1.out.C (S := fun _ => False) ByteArray.empty HA.out (fun _ _ _ => id)) (k : Int) (by omega) (by omega)
  simp only [Int.toNat_natCast] at hx
  obtain ⟨qu, hqu⟩ : ∃ qu, quoteF u = qu := ⟨_, rfl⟩
  rw [hqu] at hqz
  simp only [hqu]
  obtain ⟨q, qe⟩ := qu
  have HQU := Aside0.mk hqu
  clear hqu
  simp only at hqz
  go_wp2_with (fail)
  obtain ⟨x, hX⟩ : ∃ x, rdOf ByteArray.empty ns k = x := ⟨_, rfl⟩
  rw [hX] at hx hn
  have HX := Aside0.mk hX
  clear hX
  have HLG := Aside0.mk (show x ++ ⟨#[32]⟩ ++ itB f ++ ⟨#[32]⟩ ++ itB t ++ ⟨#[32]⟩ ++ q ++ ⟨#[10]⟩ = lineG x f t q from rfl)
  have HI1 := Aside0.mk (HI.out.go HF1.out)
  have hki : (k : Int) < (ns.length : Int) := by omega
  have hfi : f ≤ 9223372036854775807 := by omega
  have hti : t ≤ 9223372036854775807 := by omega
  have g1 : ¬ (9223372036854775807 < x.size + 1) := by omega
  have g2 : ¬ (9223372036854775807 < x.size + 1 + (itB f).size) := by omega
  have g3 : ¬ (9223372036854775807 < x.size + 1 + (itB f).size + 1) := by omega
  have g4 : ¬ (9223372036854775807 < x.size + 1 + (itB f).size + 1 + (itB t).size) := by omega
  have g5 : ¬ (9223372036854775807 < x.size + 1 + (itB f).size + 1 + (itB t).size + 1) := by omega
  have g6 : ¬ (9223372036854775807 < x.size + 1 + (itB f).size + 1 + (itB t).size + 1 + q.size) := by omega
  have g7 : ¬ (9223372036854775807 < x.size + 1 + (itB f).size + 1 + (itB t).size + 1 + q.size + 1) := by omega
  refine wp_region_last_drew (S := fun w' => w'.cell? ⟨w.heap.size, 0, none⟩ = some (.int .i64 k) ∧ w'.cell? ⟨w.heap.size, 1, none⟩ = some (.int .i64 f) ∧ w'.cell? ⟨w.heap.size, 2, none⟩ = some (.int .i64 t) ∧ w'.cell? (ad.add k) = some (.string x)) (ds := []) (by kernel_rfl) ⟨hc0, hc1, hc2, hx⟩ (fun hHeld => ?_)
  refine tk 0 ?_
  refine tk 1 ?_
  refine tk 2 ?_
  refine tk 3 ?_
  refine tk 4 ?_
  refine tk 5 ?_
  refine tk 6 ?_
  refine tk 7 ?_
  refine tk 11 ?_
  refine tk 12 ?_
  refine tk 16 ?_
  refine on 8 (fun K hK => ?_)
  go_simp
  refine (HI1.out _ ((Fr.refl (fun _ => False) W1).drew) f hfi).mono ?_
  rintro e W2 ⟨rfl, hF⟩
  have HFW2 := Aside0.mk (((Fr.refl (fun _ => False) W1).drew).trans hF (fun _ _ h => h))
  clear hF
  dsimp only
  refine hK.out _ _ ⟨HFW2.out.cell hc0 id, HFW2.out.cell hc1 id, HFW2.out.cell hc2 id, HFW2.out.cell hx id⟩ (fun hHeldW2 => ?_)
  clear hK K
  try simp only [Act.put, List.setIfInBounds_toArray, List.set_cons_zero, List.set_cons_succ]
  refine tk 9 ?_
  refine tk 10 ?_
  refine on 13 (fun K hK => ?_)
  go_simp
  refine (HI1.out _ HFW2.out t hti).mono ?_
  rintro e W3 ⟨rfl, hF⟩
  have HFW3 := Aside0.mk (HFW2.out.trans hF (fun _ _ h => h))
  clear hF
  dsimp only
  refine hK.out _ _ ⟨HFW3.out.cell hc0 id, HFW3.out.cell hc1 id, HFW3.out.cell hc2 id, HFW3.out.cell hx id⟩ (fun hHeldW3 => ?_)
  clear hK K
  try simp only [Act.put, List.setIfInBounds_toArray, List.set_cons_zero, List.set_cons_succ]
  refine tk 14 ?_
  refine tk 15 ?_
  refine tk 17 ?_
  refine tk 18 ?_
  refine tk 19 ?_
  refine dn ?_
  go_wp2_with (fail)
  go_ret
  exact ⟨by rw [HX.out, HU.out, HQU.out]; rfl, HF1.out.trans HFW3.out (fun _ _ h => h)⟩
end Go.Proofs.YtagokdbpgljgjaaDoor.Tok
