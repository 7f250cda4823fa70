/-
The plain facts of alive's row.
-/
import Derived.Test.YtagokdbpgljgjaaDoorMAM
import Derived.Test.YtagokdbpgljgjaaDoorMAN
import Derived.Test.YtagokdbpgljgjaaDoorMAI
set_option linter.unusedSimpArgs false
set_option linter.unusedVariables false
namespace Go.Proofs.YtagokdbpgljgjaaDoor.Tok
open Go.RowKit Go.Proofs.YtagokdbpgljgjaaDoorW.PrintWords Go.Proofs.YtagokdbpgljgjaaDoorW.PrintLast Go.Proofs.YtagokdbpgljgjaaDoorW.PrintMore Go.Proofs.YtagokdbpgljgjaaDoor.Fr Go.Proofs.YtagokdbpgljgjaaDoor.PGramFirsts Go.Proofs.YtagokdbpgljgjaaDoor.TextSet Go.Proofs.YtagokdbpgljgjaaDoor.Bld
def names3 : List ByteArray := [⟨#[101, 110, 100]⟩, ⟨#[101, 114, 114, 111, 114]⟩, ⟨#[110, 117, 109]⟩]
def src12 : ByteArray := ⟨#[49, 50]⟩
def line12 : ByteArray := ⟨#[110, 117, 109, 32, 48, 32, 50, 32, 34, 49, 50, 34, 10]⟩
def lineCut : ByteArray := ⟨#[110, 117, 109, 32, 48, 32, 50, 32, 34, 49, 50, 34]⟩
def tok12 : S55 := ⟨2, 0, 2⟩
theorem kinds3 : KindsOk names3 := by
  refine ⟨by decide, by decide, by decide +kernel, by decide +kernel, ?_, by decide +kernel⟩
  intro s hs
  have : ∀ s, s ∈ names3 → named s = true := by
    have h : names3.all named = true := by decide +kernel
    exact List.all_eq_true.1 h
  exact this s hs
theorem sizes3 : ∀ s, s ∈ names3 → s.size ≤ maxLen := by
  intro s hs
  have h : names3.all (fun s => decide (s.size ≤ 5)) = true := by decide +kernel
  have := of_decide_eq_true (List.all_eq_true.1 h s hs)
  have : maxLen = 9223372036854775807 := by decide
  omega
theorem check12 : checkF 3 2 0 0 [tok12] = (0, 0) := by decide +kernel
theorem cut12 : Lib.cut line12.data.toList [10] = (lineCut.data.toList, [], true) := by decide +kernel
theorem split12 : Lib.splitB ⟨#[32]⟩ 0 (min 4 (lineCut.size + 1) - 1) lineCut = [⟨#[110, 117, 109]⟩, ⟨#[48]⟩, ⟨#[50]⟩, ⟨#[34, 49, 50, 34]⟩] := by decide +kernel
theorem find12 : token_Find.f 10 names3 ⟨#[110, 117, 109]⟩ = some (2, true) := by decide +kernel
theorem line12_eq : lineB ⟨#[110, 117, 109]⟩ 0 2 src12 = line12 := by decide +kernel
theorem plain12 : ∀ i (h : i < src12.size), Plain (src12[i]'h) := by
  intro i h
  have h2 : i < 2 := h
  rcases (by omega : i = 0 ∨ i = 1) with rfl | rfl
  · exact (by unfold Plain; decide : Plain 49)
  · exact (by unfold Plain; decide : Plain 50)
end Go.Proofs.YtagokdbpgljgjaaDoor.Tok
/-
alive's row read back: token.Read, walked at its lines.
-/
set_option linter.unusedSimpArgs false
set_option linter.unusedVariables false
namespace Go.Proofs.YtagokdbpgljgjaaDoor.Tok
open Go.RowKit Go.Proofs.YtagokdbpgljgjaaDoorW.PrintWords Go.Proofs.YtagokdbpgljgjaaDoorW.PrintLast Go.Proofs.YtagokdbpgljgjaaDoorW.PrintMore Go.Proofs.YtagokdbpgljgjaaDoor.Fr Go.Proofs.YtagokdbpgljgjaaDoor.PGramFirsts Go.Proofs.YtagokdbpgljgjaaDoor.TextSet Go.Proofs.YtagokdbpgljgjaaDoor.Bld
/-- The library's first variable stands. -/
def Mx (w : World) : Prop := ∃ m, w.cell? ⟨0, 0, none⟩ = some (.int .i64 m)
theorem Mx.fr {w w1 : World} {S : Nat → Prop} (h : Mx w) (hF : Fr S w w1) (hS : ∀ k, k < w.heap.size → ¬ S k) : Mx w1 := by
  obtain ⟨m, hm⟩ := h
  exact ⟨m, hF.cell hm (hS _ (World.block_lt_of_cell? w _ hm))⟩
theorem cut_calls (W : World) (h : Mx W) : Calls Tryd.prog 40 #[.string line12, .string ⟨#[10]⟩] W fun e w' => e = .returned (.tuple #[.string lineCut, .string ⟨#[]⟩, .bool true]) ∧ Fr (fun _ => False) W w' := by
  obtain ⟨m, hm⟩ := h
  refine (Tryd.strings_Cut line12 ⟨#[10]⟩ m W (by decide) hm).mono ?_
  rintro e W2 ⟨rfl, n2, rfl⟩
  have h2 : Lib.cut line12.data.toList (⟨#[10]⟩ : ByteArray).data.toList = (lineCut.data.toList, [], true) := cut12
  rw [h2]
  exact ⟨rfl, (Fr.refl _ _).drewN _⟩
theorem split_calls (W : World) (h : Mx W) : Calls Tryd.prog 41 #[.string lineCut, .string ⟨#[32]⟩, .int .i64 4] W fun e w' => e = .returned (.slice (some ⟨W.heap.size, 0, none⟩) 4 4) ∧ w'.cell? ⟨W.heap.size, 0, none⟩ = some (.string ⟨#[110, 117, 109]⟩) ∧ w'.cell? ⟨W.heap.size, 1, none⟩ = some (.string (dec 0)) ∧ w'.cell? ⟨W.heap.size, 2, none⟩ = some (.string (dec 2)) ∧ Fr (fun _ => False) W w' := by
  obtain ⟨m, hm⟩ := h
  refine (Tryd.strings_SplitN lineCut ⟨#[32]⟩ 4 m W (by decide) hm (by decide) (by decide) (by decide)).mono ?_
  rintro e W2 ⟨rfl, rfl⟩
  rw [split12]
  have d0 : dec 0 = ⟨#[48]⟩ := by decide +kernel
  have d2 : dec 2 = ⟨#[50]⟩ := by decide +kernel
  rw [d0, d2]
  refine ⟨rfl, ?_, ?_, ?_, (Fr.refl _ _).alloc _⟩
  · exact (blk_cell (blk_new W _) 0).trans rfl
  · exact (blk_cell (blk_new W _) 1).trans rfl
  · exact (blk_cell (blk_new W _) 2).trans rfl
theorem find_calls (W : World) (A : Option Addr) (cp : Nat) (hcp : 3 ≤ cp) (hA : Kd.string.C W A 3 names3) : Calls Tryd.prog 11 #[.slice A 3 cp, .string ⟨#[110, 117, 109]⟩] W fun e w' => e = .returned (.tuple #[.int .i64 2, .bool true]) ∧ Fr (fun _ => False) W w' := by
  refine (token_Find.calls 10 A cp names3 _ 2 true W hA hcp find12).mono ?_
  rintro e W2 ⟨rfl, hd⟩
  exact ⟨rfl, Fr.drawn hd⟩
theorem line12_calls (W : World) (A : Option Addr) (cp : Nat) (hA : Kd.string.C W A 3 names3) : Calls Tryd.prog 36 #[.slice A 3 cp, .string src12, .agg #[.int .i64 2, .int .i64 0, .int .i64 2]] W fun e w' => e = .returned (.tuple #[.string line12, .bool true]) ∧ Fr (fun _ => False) W w' := by
  have hx : src12.extract 0 2 = src12 := by decide +kernel
  refine (line_calls W names3 A cp hA src12 2 0 2 (by decide) (by decide +kernel) (by decide) (by decide) (by decide) (by rw [hx]; exact plain12)).mono ?_
  rintro e W2 ⟨rfl, hF⟩
  rw [hx]
  have hn : rdOf ByteArray.empty names3 ((2 : Nat) : Int) = ⟨#[110, 117, 109]⟩ := by decide +kernel
  rw [hn, line12_eq]
  exact ⟨rfl, hF⟩
set_option maxHeartbeats 4000000 in
set_option maxRecDepth 100000 in
theorem read_calls (w : World) (A : Option Addr) (cp : Nat) (hcp : 3 ≤ cp) (hA : Kd.string.C w A 3 names3) (hm : Mx w) :
    Calls Tryd.prog 20 #[.slice A 3 cp, .string src12, .string line12] w fun e w' => (∃ v, e = .returned (.tuple #[v, .agg #[.int .i64 0, .int .i64 0]]) ∧ k55.R 55 w' w.heap.size (fun _ => True) v [tok12]) ∧ Fr (fun _ => False) w w' := by
  go_enter Tryd.func20, Tryd.ntmps20
  have HA := Aside0.mk hA
  have HM := Aside0.mk hm
  clear hA hm
  go_wp2_with (fail)
  have HF0 := Aside0.mk ((Fr.refl (fun _ => False) w).alloc (.cells #[.int .i64 0, .int .i64 0] 43))
  have HR0 := Aside0.mk (blk_new w (.cells #[.int .i64 0, .int .i64 0] 43))
  refine (kinds_calls _ names3 A cp (HF0.out.C ByteArray.empty HA.out (fun _ _ _ => id)) sizes3).mono ?_
  rintro e W1 ⟨⟨r, rfl, hr⟩, hF⟩
  obtain rfl : r = 0 := hr.2 kinds3
  have HF1 := Aside0.mk (HF0.out.trans hF (fun _ _ h => h))
  have HR1 := Aside0.mk (hF.blk HR0.out id)
  clear hF hr HF0 HR0
  go_wp2_with (fail)
  go_loopw [2, 8, 9, 10] (fun a b c d W => Aside0 (Fr (fun _ => False) w W) ∧ Aside0 (W.heap[w.heap.size]? = some (.cells #[.int .i64 0, .int .i64 0] 43 (0, 0))) ∧ ((a = .string line12 ∧ b = .slice none 0 0 ∧ c = .int .i64 0 ∧ d = .int .i64 0) ∨ (a = .string ⟨#[]⟩ ∧ c = .int .i64 2 ∧ d = .int .i64 1 ∧ Aside0 (k55.R 55 W w.heap.size (fun _ => True) b [tok12])))) (fun _ _ _ d _ => 1 - (intOf d).toNat)
  case atStart => exact ⟨HF1, HR1, .inl ⟨rfl, rfl, rfl, rfl⟩⟩
  case round =>
    clear HF1 HR1
    obtain ⟨HF, HR, (⟨rfl, rfl, rfl, rfl⟩ | ⟨rfl, rfl, rfl, HV⟩)⟩ := hrel
    · have HM0 := Aside0.mk (HM.out.fr HF.out (fun _ _ => id))
      have HF1 := Aside0.mk (HF.out.alloc (.cells #[.int .i64 5, .int .i64 0] 43))
      have HR1 := Aside0.mk (blk_alloc HR.out (.cells #[.int .i64 5, .int .i64 0] 43))
      have HM1 := Aside0.mk (HM.out.fr HF1.out (fun _ _ => id))
      clear HM0 HF HR
      have hne : (line12.toList == []) = false := by decide +kernel
      go_wp2_with (fail)
      refine (cut_calls _ HM1.out).mono ?_
      rintro e W2 ⟨rfl, hF⟩
      have HF2 := Aside0.mk (HF1.out.trans hF (fun _ _ h => h))
      have HR2 := Aside0.mk (hF.blk HR1.out id)
      have HM2 := Aside0.mk (HM.out.fr HF2.out (fun _ _ => id))
      clear hF HF1 HR1 HM1
      go_wp2_with (fail)
      refine (split_calls _ HM2.out).mono ?_
      rintro e W3 ⟨rfl, hx0, hx1, hx2, hF⟩
      have HF3 := Aside0.mk (HF2.out.trans hF (fun _ _ h => h))
      have HR3 := Aside0.mk (hF.blk HR2.out id)
      clear hF HF2 HR2 HM2
      generalize W2.heap.size = b2 at hx0 hx1 hx2
      go_wp2_with (fail)
      refine (find_calls W3 A cp hcp (HF3.out.C ByteArray.empty HA.out (fun _ _ _ => id))).mono ?_
      rintro e W4 ⟨rfl, hF⟩
      have HF4 := Aside0.mk (HF3.out.trans hF (fun _ _ h => h))
      have HR4 := Aside0.mk (hF.blk HR3.out id)
      replace hx0 := hF.cell hx0 id
      replace hx1 := hF.cell hx1 id
      replace hx2 := hF.cell hx2 id
      clear hF HF3 HR3
      go_wp2_with (fail)
      refine (number_calls W4 0 (by decide)).mono ?_
      rintro e W5 ⟨rfl, hF⟩
      have HF5 := Aside0.mk (HF4.out.trans hF (fun _ _ h => h))
      have HR5 := Aside0.mk (hF.blk HR4.out id)
      replace hx0 := hF.cell hx0 id
      replace hx1 := hF.cell hx1 id
      replace hx2 := hF.cell hx2 id
      clear hF HF4 HR4
      go_wp2_with (fail)
      refine (number_calls W5 2 (by decide)).mono ?_
      rintro e W6 ⟨rfl, hF⟩
      have HF6 := Aside0.mk (HF5.out.trans hF (fun _ _ h => h))
      have HR6 := Aside0.mk (hF.blk HR5.out id)
      clear hF HF5 HR5 hx0 hx1 hx2
      have hz : src12.size = 2 := rfl
      have hz1 : (Int.ofNat 0) = 0 := rfl
      go_wp2_with (fail)
      have HF7 := Aside0.mk (HF6.out.alloc (.cells #[.int .i64 2, .int .i64 0, .int .i64 2] 55))
      have HR7 := Aside0.mk (blk_alloc HR6.out (.cells #[.int .i64 2, .int .i64 0, .int .i64 2] 55))
      have HT7 := Aside0.mk (blk_new W6 (.cells #[.int .i64 2, .int .i64 0, .int .i64 2] 55))
      refine (line12_calls _ A cp (HF7.out.C ByteArray.empty HA.out (fun _ _ _ => id))).mono ?_
      rintro e W8 ⟨rfl, hF⟩
      have HF8 := Aside0.mk (HF7.out.trans hF (fun _ _ h => h))
      have HR8 := Aside0.mk (hF.blk HR7.out id)
      have HT8 := Aside0.mk (hF.blk HT7.out id)
      clear hF HF7 HR7 HT7 HF6 HR6
      generalize W6.heap.size = b6 at HT8
      have hsz := HF8.out.size
      have hc0 : W8.cell? ⟨b6, 0, none⟩ = some (.int .i64 2) := (blk_cell HT8.out 0).trans rfl
      have hc1 : W8.cell? ⟨b6, 1, none⟩ = some (.int .i64 0) := (blk_cell HT8.out 1).trans rfl
      have hc2 : W8.cell? ⟨b6, 2, none⟩ = some (.int .i64 2) := (blk_cell HT8.out 2).trans rfl
      have hq : (line12.toList == (lineCut ++ ⟨#[10]⟩).toList) = true := by decide +kernel
      have hls : lineCut.size = 12 := rfl
      go_wp2_with (at_builtin; go_must (refine Kd.R_append k55 (w0 := W8) w.heap.size rfl (.tmp 129) (.tmp 131) 23 55 (.agg #[(.int .i64 0), (.int .i64 0), (.int .i64 0)]) 24 rfl Tryd.underlying23 info55 rfl (by decide) (by decide) (.slice none 0 0) [] tok12 [.int .i64 2, .int .i64 0, .int .i64 2] (fun _ => True) (fun _ => False) rfl rfl (k55_mkM _ _ _ tok12) (fun _ hk => hk.elim) (fun _ _ => trivial) (Kd.R_nil _ _ _ _ _) (Below.refl _ _) (by omega) (by decide) ?_; intro v2 w2 h1 hb h2 _; have HV := Aside0.mk h1; have HF9 := Aside0.mk (HF8.out.grown h2 (fun _ h => by cases h)); have HR9 := Aside0.mk (blk_grown HR8.out h2 (by intro h; cases h)); clear h1 h2 hb))
      exact ⟨⟨HF9, HR9, .inr ⟨rfl, rfl, rfl, HV⟩⟩, by decide⟩
    · obtain ⟨B, hB⟩ : ∃ B, w.heap.size = B := ⟨_, rfl⟩
      have hc0 : wr.cell? ⟨B, 0, none⟩ = some (.int .i64 0) := (blk_cell (by rw [← hB]; exact HR.out) 0).trans rfl
      have hc1 : wr.cell? ⟨B, 1, none⟩ = some (.int .i64 0) := (blk_cell (by rw [← hB]; exact HR.out) 1).trans rfl
      have hf0 := blk_frozen (show wr.heap[B]? = _ by rw [← hB]; exact HR.out) 0
      have hf1 := blk_frozen (show wr.heap[B]? = _ by rw [← hB]; exact HR.out) 1
      simp only [hB]
      go_wp2_with (fail)
      have hb0 : wr.heap[B]? = some (.cells #[.int .i64 0, .int .i64 0] 43 (0, 0)) := by rw [← hB]; exact HR.out
      have hb1 := blk_put hb0 0 (.int .i64 0) rfl
      have hb2 := blk_put hb1 1 (.int .i64 0) rfl
      refine bodyPost_ret (results_tc rfl _ _ B _ _ _ _ rfl hb2 Tryd.underlying43 rfl (by kernel_rfl)) rfl ?_
      refine ⟨⟨_, rfl, ?_⟩, (HF.out.set _ (fun h => absurd h (by omega))).set _ (fun h => absurd h (by omega))⟩
      have hE : ∀ q, q ∈ 55 :: k55.E → q ≠ 43 := (show ∀ q, q ∈ [55] → q ≠ 43 by decide)
      exact Kd.R_set (Kd.R_set HV.out hb0 hE 0 (.int .i64 0)) hb1 hE 1 (.int .i64 0)
end Go.Proofs.YtagokdbpgljgjaaDoor.Tok
/- Of the kit's printed walks (print.sh), turned to one namespace. -/
set_option linter.unusedSimpArgs false
set_option linter.unusedVariables false
namespace Go.Proofs.YtagokdbpgljgjaaDoor.PGramFirsts
open Go.RowKit Go.Proofs.YtagokdbpgljgjaaDoorW.PrintWords Go.Proofs.YtagokdbpgljgjaaDoorW.PrintLast Go.Proofs.YtagokdbpgljgjaaDoorW.PrintMore
attribute [local go_sem] max2_int min2_int max_two min_two max_three min_three max_four min_four
set_option linter.unusedVariables false
set_option linter.unusedSimpArgs false
attribute [local go_sem high] eqA55
def quoinref07_Same.l0 : Nat → List (S55) → List (S55) → Int → Option (Bool)
  | 0, _, _, _ => none
  | k + 1, x0, x1, x5 => if x5 < (x0.length : Int) then (if 0 ≤ x5 then (if x5 < (x1.length : Int) then (if (!(((rd_T55 x0 x5).f0) == ((rd_T55 x1 x5).f0)) || (!(((rd_T55 x0 x5).f1) == ((rd_T55 x1 x5).f1)) || (!(((rd_T55 x0 x5).f2) == ((rd_T55 x1 x5).f2))))) = true then (some false) else (quoinref07_Same.l0 k x0 x1 (wrap64 (x5 + 1)))) else (none)) else (none)) else (some true)
def quoinref07_Same.f (k : Nat) (l0 : List (S55)) (l1 : List (S55)) : Option (Bool) := if (l0.length : Int) = (l1.length : Int) then (quoinref07_Same.l0 k l0 l1 0) else (some false)
set_option maxHeartbeats 8000000 in
set_option maxRecDepth 100000 in
theorem quoinref07_Same.calls (k : Nat) (A0 : Option Addr) (c0 : Nat) (l0 : List (S55)) (A1 : Option Addr) (c1 : Nat) (l1 : List (S55)) (r : Bool) (w : World) (hr0 : Kd.C k55 w A0 l0.length l0) (hc0 : l0.length ≤ c0) (hr1 : Kd.C k55 w A1 l1.length l1) (hc1 : l1.length ≤ c1) (h : quoinref07_Same.f k l0 l1 = some r) :
    Calls Tryd.prog 22 #[.slice A0 l0.length c0, .slice A1 l1.length c1] w fun e w' => e = .returned (.bool r) ∧ Drawn0 w w' := by
  have hu55 := Tryd.underlying55
  have HR0 := Aside0.mk hr0
  have HC0 := Aside0.mk hc0
  clear hr0 hc0
  have HR1 := Aside0.mk hr1
  have HC1 := Aside0.mk hc1
  clear hr1 hc1
  have H : (if (l0.length : Int) = (l1.length : Int) then (quoinref07_Same.l0 k l0 l1 0) else (some false)) = some r := h
  clear h
  by_cases c3 : (l0.length : Int) = (l1.length : Int)
  · rw [if_pos c3] at H
    have c3b0 : ((l0.length : Int) == (l1.length : Int)) = true := beq_iff_eq.mpr c3
    have c3b1 : ((l0.length : Int) != (l1.length : Int)) = false := bne_eq_false_iff_eq.mpr c3
    have c3b2 : (l0.length == l1.length) = true := by first | simpa using c3 | (simp at c3 ⊢; omega)
    clear c3
    have H' := Aside0.mk H
    clear H
    go_enter Tryd.func22, Tryd.ntmps22
    go_wp2
    repeat (go_quiet (fail); try go_wp2)
    go_loopg [5] k (fun kq v5 w' => ∃ (x5_1 : Int), v5 = .int .i64 x5_1 ∧ Aside0 (quoinref07_Same.l0 kq l0 l1 x5_1 = some r) ∧ Aside0 (kq ≤ k) ∧ Drawn0 w w')
    case atStart => exact ⟨(0), (by first | rfl | (simp; done) | (simp [*]; done)), H', ⟨Nat.le_refl _⟩, by repeat (first | exact Drawn0.refl _ | apply Drawn0.step)⟩
    case round =>
      clear H'
      try clear c1
      try clear c2
      try clear p2
      try clear c3
      try clear c3b0
      try clear c3b1
      try clear c3b2
      obtain ⟨x5_1, rfl, HA, HK1, ⟨m1, rfl⟩⟩ := hrel
      cases gk with
      | zero => exact absurd HA.out (by simp [quoinref07_Same.l0])
      | succ k1 =>
        have H := HA.out
        clear HA
        simp only [quoinref07_Same.l0] at H
        by_cases c4 : x5_1 < (l0.length : Int)
        · rw [if_pos c4] at H
          have c4b0 : decide (x5_1 < (l0.length : Int)) = true := decide_eq_true c4
          clear c4
          by_cases c5 : 0 ≤ x5_1
          · rw [if_pos c5] at H
            have c5b0 : decide (0 ≤ x5_1) = true := decide_eq_true c5
            clear c5
            by_cases c6 : x5_1 < (l1.length : Int)
            · rw [if_pos c6] at H
              have c6b0 : decide (x5_1 < (l1.length : Int)) = true := decide_eq_true c6
              clear c6
              by_cases c7 : (!(((rd_T55 l0 x5_1).f0) == ((rd_T55 l1 x5_1).f0)) || (!(((rd_T55 l0 x5_1).f1) == ((rd_T55 l1 x5_1).f1)) || (!(((rd_T55 l0 x5_1).f2) == ((rd_T55 l1 x5_1).f2))))) = true
              · rw [if_pos c7] at H
                have c7b0 : (!(((rd_T55 l0 x5_1).f0) == ((rd_T55 l1 x5_1).f0)) || (!(((rd_T55 l0 x5_1).f1) == ((rd_T55 l1 x5_1).f1)) || (!(((rd_T55 l0 x5_1).f2) == ((rd_T55 l1 x5_1).f2))))) = true := c7
                clear c7
                obtain rfl := Option.some.inj H
                have p143 : 0 ≤ (x5_1 : Int) := of_decide_eq_true (by first | (with_reducible assumption) | assumption)
                have q143 : x5_1 < (l0.length : Int) := of_decide_eq_true (by first | (with_reducible assumption) | assumption)
                obtain ⟨ad143, e143, hx143_0, hx143_1, hx143_2⟩ := at_T55 HR0.out x5_1 p143 q143
                cases e143
                replace p143 := eq_true p143
                replace q143 := eq_true q143
                have p144 : 0 ≤ (x5_1 : Int) := of_decide_eq_true (by first | (with_reducible assumption) | assumption)
                have q144 : x5_1 < (l1.length : Int) := of_decide_eq_true (by first | (with_reducible assumption) | assumption)
                obtain ⟨ad144, e144, hx144_0, hx144_1, hx144_2⟩ := at_T55 HR1.out x5_1 p144 q144
                cases e144
                replace p144 := eq_true p144
                replace q144 := eq_true q144
                go_wp2
                repeat (go_quiet (fail); try go_wp2)
                go_ret
                exact ⟨by first | rfl | (simp; done) | (simp [*]; done), by repeat (first | exact Drawn0.refl _ | apply Drawn0.step)⟩
              · rw [if_neg c7] at H
                have c7b0 : (!(((rd_T55 l0 x5_1).f0) == ((rd_T55 l1 x5_1).f0)) || (!(((rd_T55 l0 x5_1).f1) == ((rd_T55 l1 x5_1).f1)) || (!(((rd_T55 l0 x5_1).f2) == ((rd_T55 l1 x5_1).f2))))) = false := by simpa using c7
                clear c7
                have H' := Aside0.mk H
                clear H
                have p143 : 0 ≤ (x5_1 : Int) := of_decide_eq_true (by first | (with_reducible assumption) | assumption)
                have q143 : x5_1 < (l0.length : Int) := of_decide_eq_true (by first | (with_reducible assumption) | assumption)
                obtain ⟨ad143, e143, hx143_0, hx143_1, hx143_2⟩ := at_T55 HR0.out x5_1 p143 q143
                cases e143
                replace p143 := eq_true p143
                replace q143 := eq_true q143
                have p144 : 0 ≤ (x5_1 : Int) := of_decide_eq_true (by first | (with_reducible assumption) | assumption)
                have q144 : x5_1 < (l1.length : Int) := of_decide_eq_true (by first | (with_reducible assumption) | assumption)
                obtain ⟨ad144, e144, hx144_0, hx144_1, hx144_2⟩ := at_T55 HR1.out x5_1 p144 q144
                cases e144
                replace p144 := eq_true p144
                replace q144 := eq_true q144
                go_wp2
                repeat (go_quiet (fail); try go_wp2)
                go_roundg k1
                case measure => have := HK1.out; omega
                case rel => exact ⟨(wrap64 (x5_1 + 1)), (by first | rfl | (simp; done) | (simp [*]; done)), H', ⟨by have := HK1.out; omega⟩, by repeat (first | exact Drawn0.refl _ | apply Drawn0.step)⟩
            · rw [if_neg c6] at H
              exact absurd H (by simp)
          · rw [if_neg c5] at H
            exact absurd H (by simp)
        · rw [if_neg c4] at H
          have c4b0 : decide (x5_1 < (l0.length : Int)) = false := decide_eq_false c4
          clear c4
          obtain rfl := Option.some.inj H
          go_wp2
          repeat (go_quiet (fail); try go_wp2)
          go_ret
          exact ⟨by first | rfl | (simp; done) | (simp [*]; done), by repeat (first | exact Drawn0.refl _ | apply Drawn0.step)⟩
  · rw [if_neg c3] at H
    have c3b0 : ((l0.length : Int) == (l1.length : Int)) = false := beq_eq_false_iff_ne.mpr c3
    have c3b1 : ((l0.length : Int) != (l1.length : Int)) = true := bne_iff_ne.mpr c3
    have c3b2 : (l0.length == l1.length) = false := by first | simpa using c3 | (simp at c3 ⊢; omega)
    obtain rfl := Option.some.inj H
    go_enter Tryd.func22, Tryd.ntmps22
    go_wp2
    repeat (go_quiet (fail); try go_wp2)
    go_ret
    exact ⟨by first | rfl | (simp; done) | (simp [*]; done), by repeat (first | exact Drawn0.refl _ | apply Drawn0.step)⟩
end Go.Proofs.YtagokdbpgljgjaaDoor.PGramFirsts
/-
alive: a row of one token, walked.
-/
set_option linter.unusedSimpArgs false
set_option linter.unusedVariables false
namespace Go.Proofs.YtagokdbpgljgjaaDoor.Tok
open Go.RowKit Go.Proofs.YtagokdbpgljgjaaDoorW.PrintWords Go.Proofs.YtagokdbpgljgjaaDoorW.PrintLast Go.Proofs.YtagokdbpgljgjaaDoorW.PrintMore Go.Proofs.YtagokdbpgljgjaaDoor.Fr Go.Proofs.YtagokdbpgljgjaaDoor.PGramFirsts Go.Proofs.YtagokdbpgljgjaaDoor.TextSet Go.Proofs.YtagokdbpgljgjaaDoor.Bld
theorem names3_C (W : World) (b : Nat) {t : TypeId} (h : W.heap[b]? = some (.cells #[.string ⟨#[101, 110, 100]⟩, .string ⟨#[101, 114, 114, 111, 114]⟩, .string ⟨#[110, 117, 109]⟩] t (0, 0))) : Kd.string.C W (some ⟨b, 0, none⟩) 3 names3 := by
  refine Kd.C_of_reads (d := ByteArray.empty) ⟨rfl, by decide, fun _ => ⟨_, rfl, fun j hj => ?_⟩⟩
  rcases (by omega : j = 0 ∨ j = 1 ∨ j = 2) with rfl | rfl | rfl
  · exact (blk_cell h 0).trans rfl
  · exact (blk_cell h 1).trans rfl
  · exact (blk_cell h 2).trans rfl
theorem tok12_C (W : World) (b : Nat) {t : TypeId} (h : W.heap[b]? = some (.cells #[.int .i64 2, .int .i64 0, .int .i64 2] t (0, 0))) : Kd.C k55 W (some ⟨b, 0, none⟩) 1 [tok12] := by
  refine ⟨rfl, by decide, fun _ => ⟨_, rfl, fun j p hj => ?_⟩⟩
  rcases j with _ | j
  · obtain rfl : tok12 = p := by simpa using hj
    refine ⟨_, rfl, k55_mk W tok12, fun i u hu => ?_⟩
    rcases (by have := (List.getElem?_eq_some_iff.1 hu).1; simp at this; omega : i = 0 ∨ i = 1 ∨ i = 2) with rfl | rfl | rfl
    · exact (blk_cell h 0).trans hu
    · exact (blk_cell h 1).trans hu
    · exact (blk_cell h 2).trans hu
  · simp at hj
theorem same12 : quoinref07_Same.f 5 [tok12] [tok12] = some true := by decide +kernel
theorem lines12_calls (W : World) (A A2 : Option Addr) (hA : Kd.string.C W A 3 names3) (hC : Kd.C k55 W A2 1 [tok12]) : Calls Tryd.prog 18 #[.slice A 3 3, .string src12, .slice A2 1 1] W fun e w' => e = .returned (.tuple #[.string line12, .int .i64 0]) ∧ Fr (fun _ => False) W w' := by
  have hr : ∀ i : Nat, i < [tok12].length → rd_T55 [tok12] i = tok12 := by
    intro i hi
    obtain rfl : i = 0 := by simpa using hi
    rfl
  refine (lines_calls W names3 A 3 hA sizes3 src12 [tok12] A2 1 hC kinds3 (by decide) check12 (fun _ => line12) (fun _ _ => by decide) (fun i hi W1 hF => ?_)).mono ?_
  · rw [hr i hi]
    exact line12_calls W1 A 3 (hF.C ByteArray.empty hA (fun ad e _ h => by
      subst e
      obtain ⟨ad', e, hx⟩ := Kd.at_string hA 0 (by omega) (by omega)
      injection e with e
      subst e
      have := World.block_lt_of_cell? W _ hx
      rw [Fr.add_block] at this
      omega))
  · rintro e W2 ⟨rfl, hF⟩
    have h : linesB (fun _ => line12) [tok12] = line12.data.toList := by simp [linesB]
    rw [h]
    exact ⟨rfl, hF⟩
set_option maxHeartbeats 4000000 in
set_option maxRecDepth 100000 in
theorem alive_calls (w : World) (hm : Mx w) : Calls Tryd.prog 17 #[] w fun e w' => e = .returned (.bool true) ∧ Fr (fun _ => False) w w' := by
  go_enter Tryd.func17, Tryd.ntmps17
  have HM := Aside0.mk hm
  clear hm
  go_wp2_with (fail)
  obtain ⟨W1, hW1⟩ : ∃ W1, (w.alloc (.cells #[.string ⟨#[101, 110, 100]⟩, .string ⟨#[101, 114, 114, 111, 114]⟩, .string ⟨#[110, 117, 109]⟩] 9)).alloc (.cells #[.int .i64 2, .int .i64 0, .int .i64 2] 55) = W1 := ⟨_, rfl⟩
  have HF1 := Aside0.mk (show Fr (fun _ => False) w W1 from by rw [← hW1]; exact ((Fr.refl _ _).alloc _).alloc _)
  have HN1 := Aside0.mk (names3_C W1 w.heap.size (t := 9) (by rw [← hW1]; exact blk_alloc (blk_new w _) _))
  have HT1 := Aside0.mk (tok12_C W1 (w.heap.size + 1) (t := 55) (by rw [← hW1]; simpa using blk_new (w.alloc (.cells #[.string ⟨#[101, 110, 100]⟩, .string ⟨#[101, 114, 114, 111, 114]⟩, .string ⟨#[110, 117, 109]⟩] 9)) (.cells #[.int .i64 2, .int .i64 0, .int .i64 2] 55)))
  simp only [hW1]
  clear hW1
  refine (lines12_calls W1 _ _ HN1.out HT1.out).mono ?_
  rintro e W2 ⟨rfl, hF⟩
  have HF2 := Aside0.mk (HF1.out.trans hF (fun _ _ h => h))
  have HN2 := Aside0.mk (Kd.C_below HN1.out hF.to_below)
  have HT2 := Aside0.mk (Kd.C_below HT1.out hF.to_below)
  have HM2 := Aside0.mk (HM.out.fr HF2.out (fun _ _ => id))
  clear hF HF1 HN1 HT1 HM
  go_wp2_with (fail)
  refine (read_calls W2 _ 3 (by decide) HN2.out HM2.out).mono ?_
  rintro e W3 ⟨⟨v, rfl, hR⟩, hF⟩
  obtain ⟨A, c, rfl, hl, hC⟩ := Kd.R_reads hR
  have HF3 := Aside0.mk (HF2.out.trans hF (fun _ _ h => h))
  have HN3 := Aside0.mk (Kd.C_below HN2.out hF.to_below)
  have HT3 := Aside0.mk (Kd.C_below HT2.out hF.to_below)
  have HV3 := Aside0.mk hC
  have HL3 := Aside0.mk hl
  clear hF HF2 HN2 HT2 HM2 hC hl hR
  go_wp2_with (fail)
  have HF4 := Aside0.mk (HF3.out.alloc (.cells #[.int .i64 0, .int .i64 0] 43))
  have HN4 := Aside0.mk (Kd.C_alloc HN3.out (.cells #[.int .i64 0, .int .i64 0] 43))
  have HT4 := Aside0.mk (Kd.C_alloc HT3.out (.cells #[.int .i64 0, .int .i64 0] 43))
  have HV4 := Aside0.mk (Kd.C_alloc HV3.out (.cells #[.int .i64 0, .int .i64 0] 43))
  have HB4 := Aside0.mk (blk_new W3 (.cells #[.int .i64 0, .int .i64 0] 43))
  refine (kinds_calls _ names3 _ 3 HN4.out sizes3).mono ?_
  rintro e W5 ⟨⟨r, rfl, hr⟩, hF⟩
  obtain rfl : r = 0 := hr.2 kinds3
  have HF5 := Aside0.mk (HF4.out.trans hF (fun _ _ h => h))
  have HT5 := Aside0.mk (Kd.C_below HT4.out hF.to_below)
  have HV5 := Aside0.mk (Kd.C_below HV4.out hF.to_below)
  have HB5 := Aside0.mk (hF.blk HB4.out id)
  clear hF hr HF4 HN4 HT4 HV4 HB4 HF3 HN3 HT3 HV3
  generalize W3.heap.size = b3 at HB5
  have hc0 : W5.cell? ⟨b3, 0, none⟩ = some (.int .i64 0) := (blk_cell HB5.out 0).trans rfl
  have hc1 : W5.cell? ⟨b3, 1, none⟩ = some (.int .i64 0) := (blk_cell HB5.out 1).trans rfl
  have hq : (line12.toList == [110, 117, 109, 32, 48, 32, 50, 32, 34, 49, 50, 34, 10]) = true := by decide +kernel
  go_wp2_with (fail)
  refine (quoinref07_Same.calls 5 _ 1 [tok12] _ c [tok12] true W5 HT5.out (by decide) HV5.out HL3.out same12).mono ?_
  rintro e W6 ⟨rfl, hd⟩
  go_wp2_with (fail)
  go_ret
  exact ⟨rfl, HF5.out.trans (Fr.drawn hd) (fun _ _ h => h)⟩
end Go.Proofs.YtagokdbpgljgjaaDoor.Tok
