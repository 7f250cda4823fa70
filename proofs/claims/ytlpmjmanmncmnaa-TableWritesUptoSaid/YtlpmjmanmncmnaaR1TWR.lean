/-
The law of a table's bytes: whatever the table and the bytes (together of bulk at most 1048576), Bytes and Read answer as the reference does: the law returns true and its arguments read as they did.
-/
import Derived.Test.YtlpmjmanmncmnaaR1TWL
import Derived.Test.YtlpmjmanmncmnaaR1XQ
import Derived.Test.YtlpmjmanmncmnaaR1BB
set_option linter.unusedSimpArgs false
set_option linter.unusedVariables false
namespace Go.Proofs.Ytlpmjmanmncmnaa.Tab
open Go.ChangeShapes Go.WideShapes Go.ChangeAt Go.RowKit Go.Proofs.YtlpmjmanmncmnaaW.PrintWords Go.Proofs.Ytlpmjmanmncmnaa.Op Go.Proofs.Ytlpmjmanmncmnaa.Fr Go.Proofs.Ytlpmjmanmncmnaa.PT
def wM (ll : List (List S48)) : Nat := (ll.map (fun l => (l.map (fun _ => 1)).sum + 1)).sum + 1
def wG (ll : List (List Int)) : Nat := (ll.map (fun l => (l.map (fun _ => 1)).sum + 1)).sum + 1
theorem ones {α : Type} : ∀ l : List α, (l.map (fun _ => 1)).sum = l.length
  | [] => rfl
  | x :: l => by simp only [List.map_cons, List.sum_cons, List.length_cons, ones l]; omega
def mOk (ll : List (List S48)) : Prop := ∀ l, l ∈ ll → ∀ x, x ∈ l → (Lit.int .i64 x.f0).wf = true ∧ (Lit.int .i64 x.f1).wf = true
def gOk (ll : List (List Int)) : Prop := ∀ l, l ∈ ll → ∀ x, x ∈ l → (Lit.int .i64 x).wf = true
theorem bopens_movess : BOpens Try.prog (Kd.slice 38 (Kd.slice 48 k48)) 22 mOk wM :=
  bopens_slice 38 Try.underlying22 (by kernel_rfl) (bopens_slice 48 Try.underlying38 (by kernel_rfl) (BOpens.of opens_move))
theorem bopens_intss : BOpens Try.prog (Kd.slice 39 (Kd.slice 3 (Kd.int .i64))) 23 gOk wG :=
  bopens_slice 39 Try.underlying23 (by kernel_rfl) (bopens_slice 3 Try.underlying39 (by kernel_rfl) (BOpens.of (opens_int Try.underlying3)))
theorem bopens_table : BOpens Try.prog (Kd.pair (Kd.slice 38 (Kd.slice 48 k48)) (Kd.slice 39 (Kd.slice 3 (Kd.int .i64)))) 25 (fun x => mOk x.1 ∧ gOk x.2) (fun x => wM x.1 + wG x.2) :=
  bopens_fields2 Try.underlying25 (by kernel_rfl) rfl (by kernel_rfl) rfl (by kernel_rfl) bopens_movess bopens_intss
theorem bopens_bytes : BOpens Try.prog (Kd.slice 5 (Kd.int .u8)) 54 (fun l => ∀ x, x ∈ l → (Lit.int .u8 x).wf = true) (fun l => (l.map (fun _ => 1)).sum + 1) :=
  bopens_slice 5 Try.underlying54 (by kernel_rfl) (BOpens.of (opens_int Try.underlying5))
theorem enc9 {n : Int} (h : (Lit.int .i64 n).wf = true) : (encN n.toNat).length ≤ 9 := by
  have hn : -9223372036854775808 ≤ n ∧ n ≤ 9223372036854775807 := by simpa [Lit.wf, IntKind.min, IntKind.max, IntKind.signed, IntKind.bits] using h
  exact encN_len 8 _ (by omega)
theorem enc10 {n : Int} (h : (Lit.int .i64 n).wf = true) : (encN (n + 1).toNat).length ≤ 10 := by
  have hn : -9223372036854775808 ≤ n ∧ n ≤ 9223372036854775807 := by simpa [Lit.wf, IntKind.min, IntKind.max, IntKind.signed, IntKind.bits] using h
  exact encN_len 9 _ (by omega)
theorem encM_le : ∀ l : List S48, (∀ x, x ∈ l → (Lit.int .i64 x.f0).wf = true ∧ (Lit.int .i64 x.f1).wf = true) → (encM l).length ≤ 18 * l.length
  | [], _ => by simp [encM]
  | x :: l, h => by
    have h1 := h x (List.mem_cons_self ..)
    have h2 := encM_le l (fun y hy => h y (List.mem_cons_of_mem _ hy))
    have h3 := enc9 h1.1
    have h4 := enc9 h1.2
    simp only [encM, List.length_append, List.length_cons]
    omega
theorem encG_le : ∀ l : List Int, (∀ x, x ∈ l → (Lit.int .i64 x).wf = true) → (encG l).length ≤ 10 * l.length
  | [], _ => by simp [encG]
  | x :: l, h => by
    have h1 := enc10 (h x (List.mem_cons_self ..))
    have h2 := encG_le l (fun y hy => h y (List.mem_cons_of_mem _ hy))
    simp only [encG, List.length_append, List.length_cons]
    omega
theorem encR_le : ∀ (ms : List (List S48)) (gs : List (List Int)), mOk ms → gOk gs → (encR ms gs).length ≤ 18 * (wM ms + wG gs)
  | [], gs, _, _ => by cases gs <;> simp [encR]
  | m :: ms, [], _, _ => by simp [encR]
  | m :: ms, g :: gs, hm, hg => by
    have h1 := encM_le m (hm m (List.mem_cons_self ..))
    have h2 := encG_le g (hg g (List.mem_cons_self ..))
    have h3 := encR_le ms gs (fun l hl => hm l (List.mem_cons_of_mem _ hl)) (fun l hl => hg l (List.mem_cons_of_mem _ hl))
    simp only [wM, wG, ones] at h3 ⊢
    simp only [encR, List.length_append, List.map_cons, List.sum_cons]
    omega
theorem small_tok {T : Tb} (hm : mOk T.mv) (hg : gOk T.gt) (hb : wM T.mv + wG T.gt ≤ 1048576) : TOk T ∧ (encT T).length < 140737488355328 := by
  have l1 : T.mv.length ≤ 1048576 := by
    have := bulk_len (m := fun l : List S48 => (l.map (fun _ => 1)).sum + 1) T.mv (fun _ _ => by omega)
    simp only [wM] at hb
    omega
  have l2 : T.gt.length ≤ 1048576 := by
    have := bulk_len (m := fun l : List Int => (l.map (fun _ => 1)).sum + 1) T.gt (fun _ _ => by omega)
    simp only [wG] at hb
    omega
  have r1 : ∀ l, l ∈ T.mv → l.length ≤ 1048576 := fun l hl => by
    have := bulk_mem (m := fun l : List S48 => (l.map (fun _ => 1)).sum + 1) T.mv l hl
    simp only [wM] at hb
    simp only [ones] at this
    simp only [ones] at hb
    omega
  have r2 : ∀ l, l ∈ T.gt → l.length ≤ 1048576 := fun l hl => by
    have := bulk_mem (m := fun l : List Int => (l.map (fun _ => 1)).sum + 1) T.gt l hl
    simp only [wG] at hb
    simp only [ones] at this
    simp only [ones] at hb
    omega
  have s1 : ∀ s : Nat, (rd_L2 T.mv s).length ≤ 1048576 := fun s => by
    by_cases c : s < T.mv.length
    · exact r1 _ (mem_L2.2 ⟨s, c, rfl⟩)
    · simp [rd_L2, List.getD_eq_getElem?_getD, List.getElem?_eq_none (Nat.le_of_not_lt c)]
  have s2 : ∀ s : Nat, (rd_L3 T.gt s).length ≤ 1048576 := fun s => by
    by_cases c : s < T.gt.length
    · exact r2 _ (mem_L3.2 ⟨s, c, rfl⟩)
    · simp [rd_L3, List.getD_eq_getElem?_getD, List.getElem?_eq_none (Nat.le_of_not_lt c)]
  refine ⟨⟨by omega, by omega, fun s hs => ⟨by have := s1 s; omega, fun x hx => (hm _ (mem_L2.2 ⟨s, hs, rfl⟩) x hx).2⟩, fun s hs => by have := s2 s; omega⟩, ?_⟩
  have e1 := encN_len 4 T.mv.length (by omega)
  have e2 := encN_len 4 (rd_L2 T.mv 0).length (by have := s1 0; simp only [Int.natCast_zero] at this; omega)
  have e3 := encN_len 4 (rd_L3 T.gt 0).length (by have := s2 0; simp only [Int.natCast_zero] at this; omega)
  have e4 := encR_le T.mv T.gt hm hg
  simp only [encT, List.length_append]
  omega
set_option maxRecDepth 100000 in
theorem table_barg {H : Type} {enc : TypeId × Value → H} {W : World} {base b0 : Nat} {sp : Nat → Bool} {hd : Bool} {r : Reach} {v : Value} {x : DataW H} {ps : List MemPlace} (hv : Value.okWide Try.prog W r b0 25 v) (hx : DataW.Trod enc Try.prog W base sp hd 25 v x ps) (hw : Rows.uptoBulk x ≤ 1048576) :
    ∃ (T : Tb) (A0 A1 : Option Addr) (c0 c1 : Nat), v = .agg #[.slice A0 T.mv.length c0, .slice A1 T.gt.length c1] ∧ TAt W T A0 A1 c0 c1 ∧ TOk T ∧ (encT T).length < 140737488355328 := by
  obtain ⟨cs, rfl, _⟩ := okWide_struct Try.underlying25 hv
  obtain ⟨fuel, hf⟩ := hx
  have hf : DataW.trod enc Try.prog W base sp hd fuel 25 cs.toList = some (x, ps) := hf
  obtain ⟨⟨m, g⟩, ⟨hm, hg⟩, hb, hK⟩ := bopens_table _ _ _ _ _ _ _ _ _ hf
  obtain ⟨_, _, e, ⟨A0, c0, rfl, l0, C0⟩, ⟨A1, c1, rfl, l1, C1⟩⟩ := hK
  obtain ⟨h1, h2⟩ := small_tok (T := ⟨m, g⟩) hm hg (Nat.le_trans hb hw)
  refine ⟨⟨m, g⟩, A0, A1, c0, c1, ?_, ⟨C0, C1, l0, l1⟩, h1, h2⟩
  congr 1
  apply Array.ext'
  rw [e]
  rfl
set_option maxRecDepth 100000 in
theorem bytes_barg {H : Type} {enc : TypeId × Value → H} {W : World} {base b0 : Nat} {sp : Nat → Bool} {hd : Bool} {r : Reach} {v : Value} {x : DataW H} {ps : List MemPlace} (hv : Value.okWide Try.prog W r b0 54 v) (hx : DataW.Trod enc Try.prog W base sp hd 54 v x ps) (hw : Rows.uptoBulk x ≤ 1048576) :
    ∃ (b : List Int) (A : Option Addr) (c : Nat), v = .slice A b.length c ∧ Kd.C (Kd.int .u8) W A b.length b ∧ b.length ≤ c ∧ Bts b ∧ b.length ≤ 1048576 := by
  obtain ⟨A, c, b, rfl, hl, hm, hok, hC⟩ := slice_barg (d := Kd.int .u8) Try.underlying54 (by kernel_rfl) (BOpens.of (opens_int Try.underlying5)) hv hx
  rw [ones] at hm
  refine ⟨b, A, c, rfl, hC, hl, fun y hy => ?_, by omega⟩
  have := hok y hy
  have h2 : 0 ≤ y ∧ y ≤ 255 := by simpa [Lit.wf, IntKind.min, IntKind.max, IntKind.signed, IntKind.bits] using this
  omega
end Go.Proofs.Ytlpmjmanmncmnaa.Tab
namespace Go.Proofs.Ytlpmjmanmncmnaa.RowWrites
open Go.ChangeShapes Go.WideShapes Go.ChangeAt Go.RowKit
open Go.Proofs.YtlpmjmanmncmnaaW.PrintWords Go.Proofs.Ytlpmjmanmncmnaa.Op Go.Proofs.Ytlpmjmanmncmnaa.Fr Go.Proofs.Ytlpmjmanmncmnaa.Tab
set_option maxRecDepth 100000 in
theorem lifted (os : Os) (started : os.Started) (H : Type) (enc : TypeId × Value → H) (F : Stop.Interp) :
    ReturnsInHanded {} Try.checked os 7 .any ((Rows.OpenSpec.upto Rows.tableWritesSpec).pre6 enc Try.prog Try.f7 Rows.tableWritesUptoRow.domain false) (((Rows.OpenSpec.upto Rows.tableWritesSpec).at F).post enc Try.prog Try.f7 false true false false) := by
  refine returnsInHanded_of_cond (C := Try.checked) (s := Rows.OpenSpec.upto Rows.tableWritesSpec) (k := Rows.uptoSmall) rfl own started (by kernel_rfl) Try.func7
    (OpenSpec.witness (enc := enc) (C := Try.checked) (s := Rows.OpenSpec.upto Rows.tableWritesSpec) (k := Rows.uptoSmall) rfl false ⟨#[], #[.agg #[.slice none 0 0, .slice none 0 0], .slice none 0 0], []⟩ 8 (by kernel_rfl) (by kernel_rfl) (by kernel_rfl)
      (x := ([.agg [.nil, .nil], .nil], [], [])) (by kernel_rfl) rfl (by kernel_rfl)) ?_
  intro W base args ds gs before hval0 hW _ hk _
  have hval : ∀ (j : Nat) t v, Try.f7.params[j]? = some t → args[j]? = some v → Value.okWide Try.prog W .any base t v := hval0
  have hkb := bulk_bound hk
  have hW' := hW
  obtain ⟨p, q, hA0, hV, rfl, _, _⟩ := hW
  have hA : DataW.TrodAll enc Try.prog W 0 (fun _ => true) true Try.f7.params.toList args.toList ds p := hA0
  have hA1 := hA
  rw [Try.params7] at hA hA1 hval
  obtain ⟨v0, vs0, d0, ds0, p0, q0, hargs, rfl, rfl, h0, r0⟩ := trodAll_cons hA
  obtain ⟨v1, vs1, d1, ds1, p1, q1, rfl, rfl, rfl, h1, r1⟩ := trodAll_cons r0
  obtain ⟨rfl, rfl, rfl⟩ := trodAll_nil r1
  obtain rfl : args = #[v0, v1] := by cases args; simp_all
  obtain ⟨rfl, rfl⟩ := trodVars_none hV
  simp only [List.append_nil, Rows.uptoBulkAll] at hkb
  obtain ⟨T, A0, A1, c0, c1, rfl, hT, hO, hE⟩ := table_barg (hval 0 25 v0 rfl rfl) h0 (by omega)
  obtain ⟨b, A, c, rfl, hC, hc, hb, hbl⟩ := bytes_barg (hval 1 54 v1 rfl rfl) h1 (by omega)
  clear hA0 hval0 hk hkb
  refine (writes_calls W T A0 A1 c0 c1 hT hO hE b A c hC hc hb (by omega)).mono fun e W' ⟨he, hF⟩ => ?_
  have bel := hF.to_below
  subst he
  exact ⟨_, rfl, _, _, _, [], _, [], hW', trodAll_mk1 (shut_bool Try.underlying4 _), all_below laidOut bel _ _ _ _ (by kernel_rfl) hA1, rfl, bel.frame _, fun h => by cases h⟩
theorem over : Rows.tableWritesUptoRow.holds Try.pinned (Rows.OpenSpec.upto Rows.tableWritesSpec) :=
  OpenClaim.holds_of_cond 7 Try.f7 rfl rfl rfl rfl rfl rfl rfl ⟨rfl, rfl, rfl, rfl, rfl⟩ rfl rfl rfl rfl rfl (by kernel_rfl) Try.func7 (by kernel_rfl)
    (of_decide_eq_true (by kernel_rfl)) (by unfold Func.isWrapper; first | (rw [if_pos (by decide +kernel)]; kernel_rfl) | (rw [if_neg (by decide +kernel)]; exact ⟨rfl, rfl⟩))
    (fun os started H enc _ F => lifted os started H enc F)
theorem proved : Rows.TableWritesUptoSaid := over
end Go.Proofs.Ytlpmjmanmncmnaa.RowWrites
namespace Go.Proofs.Ytlpmjmanmncmnaa
/-- The law of a table's bytes. -/
theorem tableWrites_holds : Rows.TableWritesUptoSaid := RowWrites.proved
end Go.Proofs.Ytlpmjmanmncmnaa
