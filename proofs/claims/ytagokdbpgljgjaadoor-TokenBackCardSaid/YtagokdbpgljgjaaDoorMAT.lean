/-
The piece of a text at any byte, by the document: quoinref01.Next, walked.
-/
import Derived.Test.YtagokdbpgljgjaaDoorMAS
set_option linter.unusedSimpArgs false
set_option linter.unusedVariables false
namespace Go.Proofs.YtagokdbpgljgjaaDoor.Tok
open Go.RowKit Go.Proofs.YtagokdbpgljgjaaDoorW.PrintWords Go.Proofs.YtagokdbpgljgjaaDoorW.PrintLast Go.Proofs.YtagokdbpgljgjaaDoorW.PrintMore Go.Proofs.YtagokdbpgljgjaaDoor.Fr Go.Proofs.YtagokdbpgljgjaaDoor.PGramFirsts Go.Proofs.YtagokdbpgljgjaaDoor.TextSet Go.Proofs.YtagokdbpgljgjaaDoor.Utf
def x0 (b n : Nat) : Nat := if n = 1 then b else if n = 2 then b % 32 else if n = 3 then b % 16 else b % 8
theorem rune_f (V : Nat) (h : V ≤ 1114111) : quoinref01_Rune.f (V : Int) = some (decide (V < 55296 ∨ 57343 < V)) := by
  unfold quoinref01_Rune.f
  rw [if_pos (by omega), if_pos (by omega)]
  split
  · rw [decide_eq_true (by omega)]
  · congr 1
    rw [decide_eq_decide]
    omega
theorem bytes_f (V : Nat) (h : V ≤ 1114111) : quoinref01_bytes.f (V : Int) = some (bytesI (encL V)) := by
  have hm : (V : Int) % 4294967296 = V := by omega
  unfold quoinref01_bytes.f encL
  rw [hm]
  by_cases c1 : V ≤ 127
  · rw [if_pos (by omega), if_pos c1]
    simp [bytesI]
  · rw [if_neg (by omega), if_neg c1]
    by_cases c2 : V ≤ 2047
    · rw [if_pos (by omega), if_pos c2]
      simp [bytesI]
      omega
    · rw [if_neg (by omega), if_neg c2]
      by_cases c3 : V ≤ 65535
      · rw [if_pos (by omega), if_pos c3]
        simp [bytesI]
        omega
      · rw [if_neg (by omega), if_neg c3]
        simp [bytesI]
        omega
theorem nums_text (l : List UInt8) : (strOfNums (bytesI l)).toList = l := by
  rw [dl]
  simp [strOfNums, bytesI, Function.comp_def]
theorem ext_list (s : ByteArray) (i n : Nat) (h : i + n ≤ s.size) : (s.extract i (i + n)).toList = (List.range n).map (fun k => s.get! (i + k)) := by
  rw [dl]
  apply List.ext_getElem
  · simp; omega
  · intro j h1 h2
    have hj : j < n := by simpa using h2
    simp only [List.getElem_map, List.getElem_range]
    rw [Utf.get_at (show i + j < s.size by omega)]
    simp [ByteArray.getElem_eq_getElem_data]
set_option maxHeartbeats 8000000 in
set_option maxRecDepth 100000 in
theorem rnext_calls (w : World) (s : ByteArray) (i : Nat) (h : i < s.size) (hs : s.size ≤ 1000000000000) :
    Calls Tryd.prog 57 #[.string s, .int .i64 i] w fun e w' => e = .returned (.tuple #[.int .i32 (nextF s i).1, .int .i64 (nextF s i).2.1, .bool (nextF s i).2.2]) ∧ Fr (fun _ => False) w w' := by
  have hz0 : decide ((i : Int) < 0) = false := decide_eq_false (by omega)
  have hz1 : decide (s.size ≤ i) = false := decide_eq_false (by omega)
  go_enter Tryd.func57, Tryd.ntmps57
  have HN0 := Aside0.mk (show ∀ m, 1 ≤ m → m < 1 → i + m ≤ s.size → ¬ acc s i m from fun m h1 h2 => by omega)
  have HF0 := Aside0.mk (Fr.refl (fun _ => False) w)
  go_wp2_with (fail)
  go_loopw [7] (fun a W => ∃ n : Nat, a = .int .i64 n ∧ 1 ≤ n ∧ n ≤ 5 ∧ Aside0 (∀ m, 1 ≤ m → m < n → i + m ≤ s.size → ¬ acc s i m) ∧ Aside0 (Fr (fun _ => False) w W)) (fun a _ => 5 - (intOf a).toNat)
  case atStart => exact ⟨1, rfl, Nat.le_refl _, by omega, HN0, HF0⟩
  case round =>
    clear HN0 HF0
    obtain ⟨n, rfl, hn1, hn5, HN, HF⟩ := hrel
    by_cases hgo : n ≤ 4 ∧ i + n ≤ s.size
    case neg =>
      have HR := Aside0.mk (next_none s i h (fun m h1 h4 hm => HN.out m h1 (by omega) hm))
      have hgc : (decide ((n : Int) ≤ 4) && decide ((n : Int) ≤ (s.size : Int) - (i : Int))) = false := by
        rw [Bool.and_eq_false_iff]
        by_cases c : n ≤ 4
        · right
          exact decide_eq_false (by omega)
        · left
          exact decide_eq_false (by omega)
      by_cases c : n ≤ 4
      · have hd : decide ((n : Int) ≤ (s.size : Int) - (i : Int)) = false := decide_eq_false (by omega)
        go_wp2_with (fail)
        refine bodyPost_ret (results_tmp3 rfl _ _ _) rfl ?_
        exact ⟨by rw [HR.out]; simp, HF.out⟩
      · go_wp2_with (fail)
        refine bodyPost_ret (results_tmp3 rfl _ _ _) rfl ?_
        exact ⟨by rw [HR.out]; simp, HF.out⟩
    case pos =>
    obtain ⟨hn4, hni⟩ := hgo
    have HGB := Aside0.mk (Utf.get_at h)
    have hb0 := (s.get! i).toNat_lt
    obtain ⟨b0, hb0e⟩ : ∃ b, s[i]'h = b := ⟨_, rfl⟩
    rcases (by omega : n = 1 ∨ n = 2 ∨ n = 3 ∨ n = 4) with hx | rfl | rfl | rfl
    · have HN1 := Aside0.mk hx
      have hd0 : decide ((n : Int) ≤ 4) = true := decide_eq_true (by omega)
      have hd1 : decide ((n : Int) ≤ (s.size : Int) - (i : Int)) = true := decide_eq_true (by omega)
      have hd2 : decide ((1 : Int) < (n : Int)) = false := decide_eq_false (by omega)
      clear hx hn1 hn5 hn4
      have HB0 := Aside0.mk (HGB.out.trans hb0e)
      have hbl0 := b0.toNat_lt
      go_wp2_with (fail)
      have HF1 := HF
      obtain ⟨W1, hW1⟩ : ∃ W, wr = W := ⟨_, rfl⟩
      rw [hW1] at HF1 ⊢
      clear hW1 HF
      refine wp_loop_rounds 1 ?_
      rw [rounds_succ]
      go_wp2_with (fail)
      have hV : (b0.toNat : Int) = ((rv s i n : Nat) : Int) := by
        have e : rv s i n = b0.toNat := by
          rw [HN1.out]
          unfold rv
          simp only [Nat.add_zero, HB0.out]
          simp
        rw [e]
        try omega
      rw [hV]
      have hVl : rv s i n < 2097152 := by omega
      have HAI := Aside0.mk (show acc s i n ↔ okR (rv s i n) ∧ encL (rv s i n) = (List.range n).map (fun k => s.get! (i + k)) from Iff.rfl)
      have HNA := Aside0.mk (fun (ha : acc s i n) => next_acc s i n h (by have := HN1.out; omega) (by have := HN1.out; omega) (by have := HN1.out; omega) ha (fun m h1 hm => HN.out m h1 hm (by omega)))
      generalize rv s i n = V at hVl HAI HNA ⊢
      clear hV
      have HEX := Aside0.mk (show (s.extract i (i + n)).toList = (List.range n).map (fun k => s.get! (i + k)) from ext_list s i n (by omega))
      have hwi : IntKind.i64.wrap ((i : Int) + n) = (i : Int) + n := by rw [IntKind.wrap_i64]; omega
      have hA1 : (0 : Int) ≤ (i : Int) + n := by omega
      have hA2 : (i : Int) + n ≤ (s.size : Int) := by omega
      have hA3 : (i : Int) ≤ (i : Int) + n := by omega
      have hwt : ((i : Int) + n).toNat = i + n := by omega
      have hw32 : IntKind.i32.wrap (V : Int) = V := by rw [IntKind.wrap_i32]; omega
      clear HB0
      by_cases c1 : V ≤ 1114111
      case neg =>
        have HNO := Aside0.mk (fun ha => c1 (HAI.out.1 ha).1.1)
        have hc1 : decide ((V : Int) ≤ 1114111) = false := decide_eq_false (by omega)
        refine wp_region_last_drew (S := fun _ => True) (ds := []) (by kernel_rfl) trivial (fun _ => ?_)
        refine tk 0 ?_
        refine tk (v := .bool false) 1 ?_
        refine tk 2 ?_
        refine un 3 ?_
        refine un 4 ?_
        refine on 5 (fun K hK => ?_)
        go_simp
        refine hK.out _ _ trivial (fun _ => ?_)
        clear hK K
        try simp only [Act.put, List.setIfInBounds_toArray, List.set_cons_zero, List.set_cons_succ]
        refine tk 6 ?_
        refine tk 7 ?_
        refine un 8 ?_
        refine un 9 ?_
        refine un 12 ?_
        refine un 13 ?_
        refine un 14 ?_
        refine un 15 ?_
        refine un 16 ?_
        refine un 17 ?_
        refine on 10 (fun K hK => ?_)
        go_simp
        refine hK.out _ _ trivial (fun _ => ?_)
        clear hK K
        try simp only [Act.put, List.setIfInBounds_toArray, List.set_cons_zero, List.set_cons_succ]
        refine on 11 (fun K hK => ?_)
        go_simp
        refine hK.out _ _ trivial (fun _ => ?_)
        clear hK K
        try simp only [Act.put, List.setIfInBounds_toArray, List.set_cons_zero, List.set_cons_succ]
        refine un 18 ?_
        refine tk 19 ?_
        refine dn ?_
        have HF3 := Aside0.mk (HF1.out.drew)
        have HN2 := Aside0.mk (show ∀ m, 1 ≤ m → m < n + 1 → i + m ≤ s.size → ¬ acc s i m from fun m h1 h2 h3 => by
          by_cases e : m = n
          · subst e
            exact HNO.out
          · exact HN.out m h1 (by omega) h3)
        go_wp2_with (fail)
        exact ⟨⟨n + 1, by go_num, by omega, by have := HN1.out; omega, HN2, HF3⟩, by have := HN1.out; simp [intOf]; omega⟩
      have hc1 : decide ((V : Int) ≤ 1114111) = true := decide_eq_true (by omega)
      by_cases c2 : V < 55296 ∨ 57343 < V
      case neg =>
        have HNO := Aside0.mk (fun ha => c2 (HAI.out.1 ha).1.2)
        have hRu := rune_f V c1
        rw [decide_eq_false c2] at hRu
        refine wp_region_last_drew (S := fun _ => True) (ds := []) (by kernel_rfl) trivial (fun _ => ?_)
        refine tk 0 ?_
        refine tk (v := .bool true) 1 ?_
        refine tk 2 ?_
        refine tk 3 ?_
        refine tk 4 ?_
        refine on 5 (fun K hK => ?_)
        go_simp
        refine (quoinref01_Rune.calls (V : Int) false _ hRu).mono ?_
        rintro e W8 ⟨rfl, hD8⟩
        have HF8 := Aside0.mk (HF1.out.drew.drawn' hD8)
        clear hD8
        dsimp only
        refine hK.out _ _ trivial (fun _ => ?_)
        clear hK K
        try simp only [Act.put, List.setIfInBounds_toArray, List.set_cons_zero, List.set_cons_succ]
        refine tk 6 ?_
        refine tk 7 ?_
        refine un 8 ?_
        refine un 9 ?_
        refine un 12 ?_
        refine un 13 ?_
        refine un 14 ?_
        refine un 15 ?_
        refine un 16 ?_
        refine un 17 ?_
        refine on 10 (fun K hK => ?_)
        go_simp
        refine hK.out _ _ trivial (fun _ => ?_)
        clear hK K
        try simp only [Act.put, List.setIfInBounds_toArray, List.set_cons_zero, List.set_cons_succ]
        refine on 11 (fun K hK => ?_)
        go_simp
        refine hK.out _ _ trivial (fun _ => ?_)
        clear hK K
        try simp only [Act.put, List.setIfInBounds_toArray, List.set_cons_zero, List.set_cons_succ]
        refine un 18 ?_
        refine tk 19 ?_
        refine dn ?_
        have HF3 := Aside0.mk (HF8.out)
        have HN2 := Aside0.mk (show ∀ m, 1 ≤ m → m < n + 1 → i + m ≤ s.size → ¬ acc s i m from fun m h1 h2 h3 => by
          by_cases e : m = n
          · subst e
            exact HNO.out
          · exact HN.out m h1 (by omega) h3)
        go_wp2_with (fail)
        exact ⟨⟨n + 1, by go_num, by omega, by have := HN1.out; omega, HN2, HF3⟩, by have := HN1.out; simp [intOf]; omega⟩
      have hRu := rune_f V c1
      rw [decide_eq_true c2] at hRu
      have hBy := bytes_f V c1
      have hst := nums_text (encL V)
      by_cases c3 : encL V = (List.range n).map (fun k => s.get! (i + k))
      case pos =>
        have HR := Aside0.mk (HNA.out (HAI.out.2 ⟨⟨c1, c2⟩, c3⟩))
        have hcp : (strOfNums (bytesI (encL V))).toList = (s.extract i (i + n)).toList := by rw [hst, HEX.out]; exact c3
        obtain ⟨X, hX⟩ : ∃ X, strOfNums (bytesI (encL V)) = X := ⟨_, rfl⟩
        rw [hX] at hcp
        have HXE := Aside0.mk hX
        clear hX hst
        clear c3
        refine wp_region_last_drew (S := fun _ => True) (ds := []) (by kernel_rfl) trivial (fun _ => ?_)
        refine tk 0 ?_
        refine tk (v := .bool true) 1 ?_
        refine tk 2 ?_
        refine tk 3 ?_
        refine tk 4 ?_
        refine on 5 (fun K hK => ?_)
        go_simp
        refine (quoinref01_Rune.calls (V : Int) true _ hRu).mono ?_
        rintro e W8 ⟨rfl, hD8⟩
        have HF8 := Aside0.mk (HF1.out.drew.drawn' hD8)
        clear hD8
        dsimp only
        refine hK.out _ _ trivial (fun _ => ?_)
        clear hK K
        try simp only [Act.put, List.setIfInBounds_toArray, List.set_cons_zero, List.set_cons_succ]
        refine tk 6 ?_
        refine tk 7 ?_
        refine tk 8 ?_
        refine tk 9 ?_
        refine tk 12 ?_
        refine tk 13 ?_
        refine tk 14 ?_
        refine tk 15 ?_
        refine tk 16 ?_
        refine tk 17 ?_
        refine on 10 (fun K hK => ?_)
        go_simp
        refine (quoinref01_bytes.calls (V : Int) _ _ hBy).mono ?_
        rintro e W9 ⟨v0, rfl, hR9, hB9⟩
        have HF9 := Aside0.mk (HF8.out.trans (Fr.of_below (S := fun _ => False) hB9) (fun _ _ h => h))
        obtain ⟨CA, cc, rfl⟩ := Kd.R_slice hR9
        have hcv := Kd.C_string (P := Tryd.prog) (A := CA) (c := cc) Tryd.underlying77 Tryd.underlying5 Tryd.underlying9 (Kd.R_reads' hR9).2.2
        rw [HXE.out] at hcv
        clear hR9 hB9
        generalize (bytesI (encL V)).length = bl at hcv ⊢
        dsimp only
        refine hK.out _ _ trivial (fun _ => ?_)
        clear hK K
        try simp only [Act.put, List.setIfInBounds_toArray, List.set_cons_zero, List.set_cons_succ]
        refine on 11 (fun K hK => ?_)
        go_simp
        refine hK.out _ _ trivial (fun _ => ?_)
        clear hK K
        try simp only [Act.put, List.setIfInBounds_toArray, List.set_cons_zero, List.set_cons_succ]
        refine tk (v := .bool true) 18 ?_
        refine tk 19 ?_
        refine dn ?_
        clear hcv
        go_wp2_with (fail)
        refine bodyPost_ret (results_tmp3 rfl _ _ _) rfl ?_
        exact ⟨by rw [HR.out]; simp, HF9.out⟩
      case neg =>
        have HNO := Aside0.mk (fun ha => c3 (HAI.out.1 ha).2)
        have hcp : ¬ (strOfNums (bytesI (encL V))).toList = (s.extract i (i + n)).toList := by rw [hst, HEX.out]; exact c3
        obtain ⟨X, hX⟩ : ∃ X, strOfNums (bytesI (encL V)) = X := ⟨_, rfl⟩
        rw [hX] at hcp
        have HXE := Aside0.mk hX
        clear hX hst
        clear c3
        refine wp_region_last_drew (S := fun _ => True) (ds := []) (by kernel_rfl) trivial (fun _ => ?_)
        refine tk 0 ?_
        refine tk (v := .bool true) 1 ?_
        refine tk 2 ?_
        refine tk 3 ?_
        refine tk 4 ?_
        refine on 5 (fun K hK => ?_)
        go_simp
        refine (quoinref01_Rune.calls (V : Int) true _ hRu).mono ?_
        rintro e W8 ⟨rfl, hD8⟩
        have HF8 := Aside0.mk (HF1.out.drew.drawn' hD8)
        clear hD8
        dsimp only
        refine hK.out _ _ trivial (fun _ => ?_)
        clear hK K
        try simp only [Act.put, List.setIfInBounds_toArray, List.set_cons_zero, List.set_cons_succ]
        refine tk 6 ?_
        refine tk 7 ?_
        refine tk 8 ?_
        refine tk 9 ?_
        refine tk 12 ?_
        refine tk 13 ?_
        refine tk 14 ?_
        refine tk 15 ?_
        refine tk 16 ?_
        refine tk 17 ?_
        refine on 10 (fun K hK => ?_)
        go_simp
        refine (quoinref01_bytes.calls (V : Int) _ _ hBy).mono ?_
        rintro e W9 ⟨v0, rfl, hR9, hB9⟩
        have HF9 := Aside0.mk (HF8.out.trans (Fr.of_below (S := fun _ => False) hB9) (fun _ _ h => h))
        obtain ⟨CA, cc, rfl⟩ := Kd.R_slice hR9
        have hcv := Kd.C_string (P := Tryd.prog) (A := CA) (c := cc) Tryd.underlying77 Tryd.underlying5 Tryd.underlying9 (Kd.R_reads' hR9).2.2
        rw [HXE.out] at hcv
        clear hR9 hB9
        generalize (bytesI (encL V)).length = bl at hcv ⊢
        dsimp only
        refine hK.out _ _ trivial (fun _ => ?_)
        clear hK K
        try simp only [Act.put, List.setIfInBounds_toArray, List.set_cons_zero, List.set_cons_succ]
        refine on 11 (fun K hK => ?_)
        go_simp
        refine hK.out _ _ trivial (fun _ => ?_)
        clear hK K
        try simp only [Act.put, List.setIfInBounds_toArray, List.set_cons_zero, List.set_cons_succ]
        refine tk (v := .bool false) 18 ?_
        refine tk 19 ?_
        refine dn ?_
        clear hcv
        have HF3 := Aside0.mk (HF9.out)
        have HN2 := Aside0.mk (show ∀ m, 1 ≤ m → m < n + 1 → i + m ≤ s.size → ¬ acc s i m from fun m h1 h2 h3 => by
          by_cases e : m = n
          · subst e
            exact HNO.out
          · exact HN.out m h1 (by omega) h3)
        go_wp2_with (fail)
        exact ⟨⟨n + 1, by go_num, by omega, by have := HN1.out; omega, HN2, HF3⟩, by have := HN1.out; simp [intOf]; omega⟩
    · have h1i : i + 1 < s.size := by omega
      obtain ⟨b1, hb1e⟩ : ∃ b, s[i + 1]'h1i = b := ⟨_, rfl⟩
      have HB1 := Aside0.mk (show s.get! (i + 1) = b1 from (Utf.get_at h1i).trans hb1e)
      have hbl1 := b1.toNat_lt
      have HB0 := Aside0.mk (HGB.out.trans hb0e)
      have hbl0 := b0.toNat_lt
      have hd : decide (((2 : Nat) : Int) ≤ (s.size : Int) - (i : Int)) = true := decide_eq_true (by omega)
      go_wp2_with (fail)
      have HFQ := Aside0.mk (fun m => HF.out.drewN m)
      go_quiet (fail)
      have HF1 := Aside0.mk (HFQ.out nq)
      generalize wr.drewN nq = W1 at HF1 ⊢
      clear HF HFQ
      go_wp2_with (fail)
      refine wp_loop_rounds 2 ?_
      rw [rounds_succ]
      go_wp2_with (fail)
      rw [rounds_succ]
      go_wp2_with (fail)
      have hV : ((b0.toNat : Int) % 32 * 64 + (b1.toNat : Int) % 64) = ((rv s i 2 : Nat) : Int) := by
        have e : rv s i 2 = b0.toNat % 32 * 64 + b1.toNat % 64 := by
          skip
          unfold rv
          simp only [Nat.add_zero, HB0.out, HB1.out]
          simp
        rw [e]
        try omega
      rw [hV]
      have hVl : rv s i 2 < 2097152 := by omega
      have HAI := Aside0.mk (show acc s i 2 ↔ okR (rv s i 2) ∧ encL (rv s i 2) = (List.range 2).map (fun k => s.get! (i + k)) from Iff.rfl)
      have HNA := Aside0.mk (fun (ha : acc s i 2) => next_acc s i 2 h (by omega) (by omega) (by omega) ha (fun m h1 hm => HN.out m h1 hm (by omega)))
      generalize rv s i 2 = V at hVl HAI HNA ⊢
      clear hV hd
      have HEX := Aside0.mk (show (s.extract i (i + 2)).toList = (List.range 2).map (fun k => s.get! (i + k)) from ext_list s i 2 (by omega))
      have hwi : IntKind.i64.wrap ((i : Int) + 2) = (i : Int) + 2 := by rw [IntKind.wrap_i64]; omega
      have hA1 : (0 : Int) ≤ (i : Int) + 2 := by omega
      have hA2 : (i : Int) + 2 ≤ (s.size : Int) := by omega
      have hA3 : (i : Int) ≤ (i : Int) + 2 := by omega
      have hwt : ((i : Int) + 2).toNat = i + 2 := by omega
      have hw32 : IntKind.i32.wrap (V : Int) = V := by rw [IntKind.wrap_i32]; omega
      clear HB0 HB1
      by_cases c1 : V ≤ 1114111
      case neg =>
        have HNO := Aside0.mk (fun ha => c1 (HAI.out.1 ha).1.1)
        have hc1 : decide ((V : Int) ≤ 1114111) = false := decide_eq_false (by omega)
        refine wp_region_last_drew (S := fun _ => True) (ds := []) (by kernel_rfl) trivial (fun _ => ?_)
        refine tk 0 ?_
        refine tk (v := .bool false) 1 ?_
        refine tk 2 ?_
        refine un 3 ?_
        refine un 4 ?_
        refine on 5 (fun K hK => ?_)
        go_simp
        refine hK.out _ _ trivial (fun _ => ?_)
        clear hK K
        try simp only [Act.put, List.setIfInBounds_toArray, List.set_cons_zero, List.set_cons_succ]
        refine tk 6 ?_
        refine tk 7 ?_
        refine un 8 ?_
        refine un 9 ?_
        refine un 12 ?_
        refine un 13 ?_
        refine un 14 ?_
        refine un 15 ?_
        refine un 16 ?_
        refine un 17 ?_
        refine on 10 (fun K hK => ?_)
        go_simp
        refine hK.out _ _ trivial (fun _ => ?_)
        clear hK K
        try simp only [Act.put, List.setIfInBounds_toArray, List.set_cons_zero, List.set_cons_succ]
        refine on 11 (fun K hK => ?_)
        go_simp
        refine hK.out _ _ trivial (fun _ => ?_)
        clear hK K
        try simp only [Act.put, List.setIfInBounds_toArray, List.set_cons_zero, List.set_cons_succ]
        refine un 18 ?_
        refine tk 19 ?_
        refine dn ?_
        have HF3 := Aside0.mk (HF1.out.drew)
        have HN2 := Aside0.mk (show ∀ m, 1 ≤ m → m < 3 → i + m ≤ s.size → ¬ acc s i m from fun m h1 h2 h3 => by
          by_cases e : m = 2
          · subst e
            exact HNO.out
          · exact HN.out m h1 (by omega) h3)
        go_wp2_with (fail)
        exact ⟨⟨3, rfl, by omega, by omega, HN2, HF3⟩, by simp [intOf]⟩
      have hc1 : decide ((V : Int) ≤ 1114111) = true := decide_eq_true (by omega)
      by_cases c2 : V < 55296 ∨ 57343 < V
      case neg =>
        have HNO := Aside0.mk (fun ha => c2 (HAI.out.1 ha).1.2)
        have hRu := rune_f V c1
        rw [decide_eq_false c2] at hRu
        refine wp_region_last_drew (S := fun _ => True) (ds := []) (by kernel_rfl) trivial (fun _ => ?_)
        refine tk 0 ?_
        refine tk (v := .bool true) 1 ?_
        refine tk 2 ?_
        refine tk 3 ?_
        refine tk 4 ?_
        refine on 5 (fun K hK => ?_)
        go_simp
        refine (quoinref01_Rune.calls (V : Int) false _ hRu).mono ?_
        rintro e W8 ⟨rfl, hD8⟩
        have HF8 := Aside0.mk (HF1.out.drew.drawn' hD8)
        clear hD8
        dsimp only
        refine hK.out _ _ trivial (fun _ => ?_)
        clear hK K
        try simp only [Act.put, List.setIfInBounds_toArray, List.set_cons_zero, List.set_cons_succ]
        refine tk 6 ?_
        refine tk 7 ?_
        refine un 8 ?_
        refine un 9 ?_
        refine un 12 ?_
        refine un 13 ?_
        refine un 14 ?_
        refine un 15 ?_
        refine un 16 ?_
        refine un 17 ?_
        refine on 10 (fun K hK => ?_)
        go_simp
        refine hK.out _ _ trivial (fun _ => ?_)
        clear hK K
        try simp only [Act.put, List.setIfInBounds_toArray, List.set_cons_zero, List.set_cons_succ]
        refine on 11 (fun K hK => ?_)
        go_simp
        refine hK.out _ _ trivial (fun _ => ?_)
        clear hK K
        try simp only [Act.put, List.setIfInBounds_toArray, List.set_cons_zero, List.set_cons_succ]
        refine un 18 ?_
        refine tk 19 ?_
        refine dn ?_
        have HF3 := Aside0.mk (HF8.out)
        have HN2 := Aside0.mk (show ∀ m, 1 ≤ m → m < 3 → i + m ≤ s.size → ¬ acc s i m from fun m h1 h2 h3 => by
          by_cases e : m = 2
          · subst e
            exact HNO.out
          · exact HN.out m h1 (by omega) h3)
        go_wp2_with (fail)
        exact ⟨⟨3, rfl, by omega, by omega, HN2, HF3⟩, by simp [intOf]⟩
      have hRu := rune_f V c1
      rw [decide_eq_true c2] at hRu
      have hBy := bytes_f V c1
      have hst := nums_text (encL V)
      by_cases c3 : encL V = (List.range 2).map (fun k => s.get! (i + k))
      case pos =>
        have HR := Aside0.mk (HNA.out (HAI.out.2 ⟨⟨c1, c2⟩, c3⟩))
        have hcp : (strOfNums (bytesI (encL V))).toList = (s.extract i (i + 2)).toList := by rw [hst, HEX.out]; exact c3
        obtain ⟨X, hX⟩ : ∃ X, strOfNums (bytesI (encL V)) = X := ⟨_, rfl⟩
        rw [hX] at hcp
        have HXE := Aside0.mk hX
        clear hX hst
        clear c3
        refine wp_region_last_drew (S := fun _ => True) (ds := []) (by kernel_rfl) trivial (fun _ => ?_)
        refine tk 0 ?_
        refine tk (v := .bool true) 1 ?_
        refine tk 2 ?_
        refine tk 3 ?_
        refine tk 4 ?_
        refine on 5 (fun K hK => ?_)
        go_simp
        refine (quoinref01_Rune.calls (V : Int) true _ hRu).mono ?_
        rintro e W8 ⟨rfl, hD8⟩
        have HF8 := Aside0.mk (HF1.out.drew.drawn' hD8)
        clear hD8
        dsimp only
        refine hK.out _ _ trivial (fun _ => ?_)
        clear hK K
        try simp only [Act.put, List.setIfInBounds_toArray, List.set_cons_zero, List.set_cons_succ]
        refine tk 6 ?_
        refine tk 7 ?_
        refine tk 8 ?_
        refine tk 9 ?_
        refine tk 12 ?_
        refine tk 13 ?_
        refine tk 14 ?_
        refine tk 15 ?_
        refine tk 16 ?_
        refine tk 17 ?_
        refine on 10 (fun K hK => ?_)
        go_simp
        refine (quoinref01_bytes.calls (V : Int) _ _ hBy).mono ?_
        rintro e W9 ⟨v0, rfl, hR9, hB9⟩
        have HF9 := Aside0.mk (HF8.out.trans (Fr.of_below (S := fun _ => False) hB9) (fun _ _ h => h))
        obtain ⟨CA, cc, rfl⟩ := Kd.R_slice hR9
        have hcv := Kd.C_string (P := Tryd.prog) (A := CA) (c := cc) Tryd.underlying77 Tryd.underlying5 Tryd.underlying9 (Kd.R_reads' hR9).2.2
        rw [HXE.out] at hcv
        clear hR9 hB9
        generalize (bytesI (encL V)).length = bl at hcv ⊢
        dsimp only
        refine hK.out _ _ trivial (fun _ => ?_)
        clear hK K
        try simp only [Act.put, List.setIfInBounds_toArray, List.set_cons_zero, List.set_cons_succ]
        refine on 11 (fun K hK => ?_)
        go_simp
        refine hK.out _ _ trivial (fun _ => ?_)
        clear hK K
        try simp only [Act.put, List.setIfInBounds_toArray, List.set_cons_zero, List.set_cons_succ]
        refine tk (v := .bool true) 18 ?_
        refine tk 19 ?_
        refine dn ?_
        clear hcv
        go_wp2_with (fail)
        refine bodyPost_ret (results_tmp3 rfl _ _ _) rfl ?_
        exact ⟨by rw [HR.out]; simp, HF9.out⟩
      case neg =>
        have HNO := Aside0.mk (fun ha => c3 (HAI.out.1 ha).2)
        have hcp : ¬ (strOfNums (bytesI (encL V))).toList = (s.extract i (i + 2)).toList := by rw [hst, HEX.out]; exact c3
        obtain ⟨X, hX⟩ : ∃ X, strOfNums (bytesI (encL V)) = X := ⟨_, rfl⟩
        rw [hX] at hcp
        have HXE := Aside0.mk hX
        clear hX hst
        clear c3
        refine wp_region_last_drew (S := fun _ => True) (ds := []) (by kernel_rfl) trivial (fun _ => ?_)
        refine tk 0 ?_
        refine tk (v := .bool true) 1 ?_
        refine tk 2 ?_
        refine tk 3 ?_
        refine tk 4 ?_
        refine on 5 (fun K hK => ?_)
        go_simp
        refine (quoinref01_Rune.calls (V : Int) true _ hRu).mono ?_
        rintro e W8 ⟨rfl, hD8⟩
        have HF8 := Aside0.mk (HF1.out.drew.drawn' hD8)
        clear hD8
        dsimp only
        refine hK.out _ _ trivial (fun _ => ?_)
        clear hK K
        try simp only [Act.put, List.setIfInBounds_toArray, List.set_cons_zero, List.set_cons_succ]
        refine tk 6 ?_
        refine tk 7 ?_
        refine tk 8 ?_
        refine tk 9 ?_
        refine tk 12 ?_
        refine tk 13 ?_
        refine tk 14 ?_
        refine tk 15 ?_
        refine tk 16 ?_
        refine tk 17 ?_
        refine on 10 (fun K hK => ?_)
        go_simp
        refine (quoinref01_bytes.calls (V : Int) _ _ hBy).mono ?_
        rintro e W9 ⟨v0, rfl, hR9, hB9⟩
        have HF9 := Aside0.mk (HF8.out.trans (Fr.of_below (S := fun _ => False) hB9) (fun _ _ h => h))
        obtain ⟨CA, cc, rfl⟩ := Kd.R_slice hR9
        have hcv := Kd.C_string (P := Tryd.prog) (A := CA) (c := cc) Tryd.underlying77 Tryd.underlying5 Tryd.underlying9 (Kd.R_reads' hR9).2.2
        rw [HXE.out] at hcv
        clear hR9 hB9
        generalize (bytesI (encL V)).length = bl at hcv ⊢
        dsimp only
        refine hK.out _ _ trivial (fun _ => ?_)
        clear hK K
        try simp only [Act.put, List.setIfInBounds_toArray, List.set_cons_zero, List.set_cons_succ]
        refine on 11 (fun K hK => ?_)
        go_simp
        refine hK.out _ _ trivial (fun _ => ?_)
        clear hK K
        try simp only [Act.put, List.setIfInBounds_toArray, List.set_cons_zero, List.set_cons_succ]
        refine tk (v := .bool false) 18 ?_
        refine tk 19 ?_
        refine dn ?_
        clear hcv
        have HF3 := Aside0.mk (HF9.out)
        have HN2 := Aside0.mk (show ∀ m, 1 ≤ m → m < 3 → i + m ≤ s.size → ¬ acc s i m from fun m h1 h2 h3 => by
          by_cases e : m = 2
          · subst e
            exact HNO.out
          · exact HN.out m h1 (by omega) h3)
        go_wp2_with (fail)
        exact ⟨⟨3, rfl, by omega, by omega, HN2, HF3⟩, by simp [intOf]⟩
    · have h1i : i + 1 < s.size := by omega
      obtain ⟨b1, hb1e⟩ : ∃ b, s[i + 1]'h1i = b := ⟨_, rfl⟩
      have HB1 := Aside0.mk (show s.get! (i + 1) = b1 from (Utf.get_at h1i).trans hb1e)
      have hbl1 := b1.toNat_lt
      have h2i : i + 2 < s.size := by omega
      obtain ⟨b2, hb2e⟩ : ∃ b, s[i + 2]'h2i = b := ⟨_, rfl⟩
      have HB2 := Aside0.mk (show s.get! (i + 2) = b2 from (Utf.get_at h2i).trans hb2e)
      have hbl2 := b2.toNat_lt
      have HB0 := Aside0.mk (HGB.out.trans hb0e)
      have hbl0 := b0.toNat_lt
      have hd : decide (((3 : Nat) : Int) ≤ (s.size : Int) - (i : Int)) = true := decide_eq_true (by omega)
      go_wp2_with (fail)
      have HFQ := Aside0.mk (fun m => HF.out.drewN m)
      go_quiet (fail)
      have HF1 := Aside0.mk (HFQ.out nq)
      generalize wr.drewN nq = W1 at HF1 ⊢
      clear HF HFQ
      go_wp2_with (fail)
      refine wp_loop_rounds 3 ?_
      rw [rounds_succ]
      go_wp2_with (fail)
      rw [rounds_succ]
      go_wp2_with (fail)
      rw [rounds_succ]
      go_wp2_with (fail)
      have hV : (((b0.toNat : Int) % 16 * 64 + (b1.toNat : Int) % 64) * 64 + (b2.toNat : Int) % 64) = ((rv s i 3 : Nat) : Int) := by
        have e : rv s i 3 = (b0.toNat % 16 * 64 + b1.toNat % 64) * 64 + b2.toNat % 64 := by
          skip
          unfold rv
          simp only [Nat.add_zero, HB0.out, HB1.out, HB2.out]
          simp
        rw [e]
        try omega
      rw [hV]
      have hVl : rv s i 3 < 2097152 := by omega
      have HAI := Aside0.mk (show acc s i 3 ↔ okR (rv s i 3) ∧ encL (rv s i 3) = (List.range 3).map (fun k => s.get! (i + k)) from Iff.rfl)
      have HNA := Aside0.mk (fun (ha : acc s i 3) => next_acc s i 3 h (by omega) (by omega) (by omega) ha (fun m h1 hm => HN.out m h1 hm (by omega)))
      generalize rv s i 3 = V at hVl HAI HNA ⊢
      clear hV hd
      have HEX := Aside0.mk (show (s.extract i (i + 3)).toList = (List.range 3).map (fun k => s.get! (i + k)) from ext_list s i 3 (by omega))
      have hwi : IntKind.i64.wrap ((i : Int) + 3) = (i : Int) + 3 := by rw [IntKind.wrap_i64]; omega
      have hA1 : (0 : Int) ≤ (i : Int) + 3 := by omega
      have hA2 : (i : Int) + 3 ≤ (s.size : Int) := by omega
      have hA3 : (i : Int) ≤ (i : Int) + 3 := by omega
      have hwt : ((i : Int) + 3).toNat = i + 3 := by omega
      have hw32 : IntKind.i32.wrap (V : Int) = V := by rw [IntKind.wrap_i32]; omega
      clear HB0 HB1 HB2
      by_cases c1 : V ≤ 1114111
      case neg =>
        have HNO := Aside0.mk (fun ha => c1 (HAI.out.1 ha).1.1)
        have hc1 : decide ((V : Int) ≤ 1114111) = false := decide_eq_false (by omega)
        refine wp_region_last_drew (S := fun _ => True) (ds := []) (by kernel_rfl) trivial (fun _ => ?_)
        refine tk 0 ?_
        refine tk (v := .bool false) 1 ?_
        refine tk 2 ?_
        refine un 3 ?_
        refine un 4 ?_
        refine on 5 (fun K hK => ?_)
        go_simp
        refine hK.out _ _ trivial (fun _ => ?_)
        clear hK K
        try simp only [Act.put, List.setIfInBounds_toArray, List.set_cons_zero, List.set_cons_succ]
        refine tk 6 ?_
        refine tk 7 ?_
        refine un 8 ?_
        refine un 9 ?_
        refine un 12 ?_
        refine un 13 ?_
        refine un 14 ?_
        refine un 15 ?_
        refine un 16 ?_
        refine un 17 ?_
        refine on 10 (fun K hK => ?_)
        go_simp
        refine hK.out _ _ trivial (fun _ => ?_)
        clear hK K
        try simp only [Act.put, List.setIfInBounds_toArray, List.set_cons_zero, List.set_cons_succ]
        refine on 11 (fun K hK => ?_)
        go_simp
        refine hK.out _ _ trivial (fun _ => ?_)
        clear hK K
        try simp only [Act.put, List.setIfInBounds_toArray, List.set_cons_zero, List.set_cons_succ]
        refine un 18 ?_
        refine tk 19 ?_
        refine dn ?_
        have HF3 := Aside0.mk (HF1.out.drew)
        have HN2 := Aside0.mk (show ∀ m, 1 ≤ m → m < 4 → i + m ≤ s.size → ¬ acc s i m from fun m h1 h2 h3 => by
          by_cases e : m = 3
          · subst e
            exact HNO.out
          · exact HN.out m h1 (by omega) h3)
        go_wp2_with (fail)
        exact ⟨⟨4, rfl, by omega, by omega, HN2, HF3⟩, by simp [intOf]⟩
      have hc1 : decide ((V : Int) ≤ 1114111) = true := decide_eq_true (by omega)
      by_cases c2 : V < 55296 ∨ 57343 < V
      case neg =>
        have HNO := Aside0.mk (fun ha => c2 (HAI.out.1 ha).1.2)
        have hRu := rune_f V c1
        rw [decide_eq_false c2] at hRu
        refine wp_region_last_drew (S := fun _ => True) (ds := []) (by kernel_rfl) trivial (fun _ => ?_)
        refine tk 0 ?_
        refine tk (v := .bool true) 1 ?_
        refine tk 2 ?_
        refine tk 3 ?_
        refine tk 4 ?_
        refine on 5 (fun K hK => ?_)
        go_simp
        refine (quoinref01_Rune.calls (V : Int) false _ hRu).mono ?_
        rintro e W8 ⟨rfl, hD8⟩
        have HF8 := Aside0.mk (HF1.out.drew.drawn' hD8)
        clear hD8
        dsimp only
        refine hK.out _ _ trivial (fun _ => ?_)
        clear hK K
        try simp only [Act.put, List.setIfInBounds_toArray, List.set_cons_zero, List.set_cons_succ]
        refine tk 6 ?_
        refine tk 7 ?_
        refine un 8 ?_
        refine un 9 ?_
        refine un 12 ?_
        refine un 13 ?_
        refine un 14 ?_
        refine un 15 ?_
        refine un 16 ?_
        refine un 17 ?_
        refine on 10 (fun K hK => ?_)
        go_simp
        refine hK.out _ _ trivial (fun _ => ?_)
        clear hK K
        try simp only [Act.put, List.setIfInBounds_toArray, List.set_cons_zero, List.set_cons_succ]
        refine on 11 (fun K hK => ?_)
        go_simp
        refine hK.out _ _ trivial (fun _ => ?_)
        clear hK K
        try simp only [Act.put, List.setIfInBounds_toArray, List.set_cons_zero, List.set_cons_succ]
        refine un 18 ?_
        refine tk 19 ?_
        refine dn ?_
        have HF3 := Aside0.mk (HF8.out)
        have HN2 := Aside0.mk (show ∀ m, 1 ≤ m → m < 4 → i + m ≤ s.size → ¬ acc s i m from fun m h1 h2 h3 => by
          by_cases e : m = 3
          · subst e
            exact HNO.out
          · exact HN.out m h1 (by omega) h3)
        go_wp2_with (fail)
        exact ⟨⟨4, rfl, by omega, by omega, HN2, HF3⟩, by simp [intOf]⟩
      have hRu := rune_f V c1
      rw [decide_eq_true c2] at hRu
      have hBy := bytes_f V c1
      have hst := nums_text (encL V)
      by_cases c3 : encL V = (List.range 3).map (fun k => s.get! (i + k))
      case pos =>
        have HR := Aside0.mk (HNA.out (HAI.out.2 ⟨⟨c1, c2⟩, c3⟩))
        have hcp : (strOfNums (bytesI (encL V))).toList = (s.extract i (i + 3)).toList := by rw [hst, HEX.out]; exact c3
        obtain ⟨X, hX⟩ : ∃ X, strOfNums (bytesI (encL V)) = X := ⟨_, rfl⟩
        rw [hX] at hcp
        have HXE := Aside0.mk hX
        clear hX hst
        clear c3
        refine wp_region_last_drew (S := fun _ => True) (ds := []) (by kernel_rfl) trivial (fun _ => ?_)
        refine tk 0 ?_
        refine tk (v := .bool true) 1 ?_
        refine tk 2 ?_
        refine tk 3 ?_
        refine tk 4 ?_
        refine on 5 (fun K hK => ?_)
        go_simp
        refine (quoinref01_Rune.calls (V : Int) true _ hRu).mono ?_
        rintro e W8 ⟨rfl, hD8⟩
        have HF8 := Aside0.mk (HF1.out.drew.drawn' hD8)
        clear hD8
        dsimp only
        refine hK.out _ _ trivial (fun _ => ?_)
        clear hK K
        try simp only [Act.put, List.setIfInBounds_toArray, List.set_cons_zero, List.set_cons_succ]
        refine tk 6 ?_
        refine tk 7 ?_
        refine tk 8 ?_
        refine tk 9 ?_
        refine tk 12 ?_
        refine tk 13 ?_
        refine tk 14 ?_
        refine tk 15 ?_
        refine tk 16 ?_
        refine tk 17 ?_
        refine on 10 (fun K hK => ?_)
        go_simp
        refine (quoinref01_bytes.calls (V : Int) _ _ hBy).mono ?_
        rintro e W9 ⟨v0, rfl, hR9, hB9⟩
        have HF9 := Aside0.mk (HF8.out.trans (Fr.of_below (S := fun _ => False) hB9) (fun _ _ h => h))
        obtain ⟨CA, cc, rfl⟩ := Kd.R_slice hR9
        have hcv := Kd.C_string (P := Tryd.prog) (A := CA) (c := cc) Tryd.underlying77 Tryd.underlying5 Tryd.underlying9 (Kd.R_reads' hR9).2.2
        rw [HXE.out] at hcv
        clear hR9 hB9
        generalize (bytesI (encL V)).length = bl at hcv ⊢
        dsimp only
        refine hK.out _ _ trivial (fun _ => ?_)
        clear hK K
        try simp only [Act.put, List.setIfInBounds_toArray, List.set_cons_zero, List.set_cons_succ]
        refine on 11 (fun K hK => ?_)
        go_simp
        refine hK.out _ _ trivial (fun _ => ?_)
        clear hK K
        try simp only [Act.put, List.setIfInBounds_toArray, List.set_cons_zero, List.set_cons_succ]
        refine tk (v := .bool true) 18 ?_
        refine tk 19 ?_
        refine dn ?_
        clear hcv
        go_wp2_with (fail)
        refine bodyPost_ret (results_tmp3 rfl _ _ _) rfl ?_
        exact ⟨by rw [HR.out]; simp, HF9.out⟩
      case neg =>
        have HNO := Aside0.mk (fun ha => c3 (HAI.out.1 ha).2)
        have hcp : ¬ (strOfNums (bytesI (encL V))).toList = (s.extract i (i + 3)).toList := by rw [hst, HEX.out]; exact c3
        obtain ⟨X, hX⟩ : ∃ X, strOfNums (bytesI (encL V)) = X := ⟨_, rfl⟩
        rw [hX] at hcp
        have HXE := Aside0.mk hX
        clear hX hst
        clear c3
        refine wp_region_last_drew (S := fun _ => True) (ds := []) (by kernel_rfl) trivial (fun _ => ?_)
        refine tk 0 ?_
        refine tk (v := .bool true) 1 ?_
        refine tk 2 ?_
        refine tk 3 ?_
        refine tk 4 ?_
        refine on 5 (fun K hK => ?_)
        go_simp
        refine (quoinref01_Rune.calls (V : Int) true _ hRu).mono ?_
        rintro e W8 ⟨rfl, hD8⟩
        have HF8 := Aside0.mk (HF1.out.drew.drawn' hD8)
        clear hD8
        dsimp only
        refine hK.out _ _ trivial (fun _ => ?_)
        clear hK K
        try simp only [Act.put, List.setIfInBounds_toArray, List.set_cons_zero, List.set_cons_succ]
        refine tk 6 ?_
        refine tk 7 ?_
        refine tk 8 ?_
        refine tk 9 ?_
        refine tk 12 ?_
        refine tk 13 ?_
        refine tk 14 ?_
        refine tk 15 ?_
        refine tk 16 ?_
        refine tk 17 ?_
        refine on 10 (fun K hK => ?_)
        go_simp
        refine (quoinref01_bytes.calls (V : Int) _ _ hBy).mono ?_
        rintro e W9 ⟨v0, rfl, hR9, hB9⟩
        have HF9 := Aside0.mk (HF8.out.trans (Fr.of_below (S := fun _ => False) hB9) (fun _ _ h => h))
        obtain ⟨CA, cc, rfl⟩ := Kd.R_slice hR9
        have hcv := Kd.C_string (P := Tryd.prog) (A := CA) (c := cc) Tryd.underlying77 Tryd.underlying5 Tryd.underlying9 (Kd.R_reads' hR9).2.2
        rw [HXE.out] at hcv
        clear hR9 hB9
        generalize (bytesI (encL V)).length = bl at hcv ⊢
        dsimp only
        refine hK.out _ _ trivial (fun _ => ?_)
        clear hK K
        try simp only [Act.put, List.setIfInBounds_toArray, List.set_cons_zero, List.set_cons_succ]
        refine on 11 (fun K hK => ?_)
        go_simp
        refine hK.out _ _ trivial (fun _ => ?_)
        clear hK K
        try simp only [Act.put, List.setIfInBounds_toArray, List.set_cons_zero, List.set_cons_succ]
        refine tk (v := .bool false) 18 ?_
        refine tk 19 ?_
        refine dn ?_
        clear hcv
        have HF3 := Aside0.mk (HF9.out)
        have HN2 := Aside0.mk (show ∀ m, 1 ≤ m → m < 4 → i + m ≤ s.size → ¬ acc s i m from fun m h1 h2 h3 => by
          by_cases e : m = 3
          · subst e
            exact HNO.out
          · exact HN.out m h1 (by omega) h3)
        go_wp2_with (fail)
        exact ⟨⟨4, rfl, by omega, by omega, HN2, HF3⟩, by simp [intOf]⟩
    · have h1i : i + 1 < s.size := by omega
      obtain ⟨b1, hb1e⟩ : ∃ b, s[i + 1]'h1i = b := ⟨_, rfl⟩
      have HB1 := Aside0.mk (show s.get! (i + 1) = b1 from (Utf.get_at h1i).trans hb1e)
      have hbl1 := b1.toNat_lt
      have h2i : i + 2 < s.size := by omega
      obtain ⟨b2, hb2e⟩ : ∃ b, s[i + 2]'h2i = b := ⟨_, rfl⟩
      have HB2 := Aside0.mk (show s.get! (i + 2) = b2 from (Utf.get_at h2i).trans hb2e)
      have hbl2 := b2.toNat_lt
      have h3i : i + 3 < s.size := by omega
      obtain ⟨b3, hb3e⟩ : ∃ b, s[i + 3]'h3i = b := ⟨_, rfl⟩
      have HB3 := Aside0.mk (show s.get! (i + 3) = b3 from (Utf.get_at h3i).trans hb3e)
      have hbl3 := b3.toNat_lt
      have HB0 := Aside0.mk (HGB.out.trans hb0e)
      have hbl0 := b0.toNat_lt
      have hd : decide (((4 : Nat) : Int) ≤ (s.size : Int) - (i : Int)) = true := decide_eq_true (by omega)
      go_wp2_with (fail)
      have HFQ := Aside0.mk (fun m => HF.out.drewN m)
      go_quiet (fail)
      have HF1 := Aside0.mk (HFQ.out nq)
      generalize wr.drewN nq = W1 at HF1 ⊢
      clear HF HFQ
      go_wp2_with (fail)
      refine wp_loop_rounds 4 ?_
      rw [rounds_succ]
      go_wp2_with (fail)
      rw [rounds_succ]
      go_wp2_with (fail)
      rw [rounds_succ]
      go_wp2_with (fail)
      rw [rounds_succ]
      go_wp2_with (fail)
      have hV : ((((b0.toNat : Int) % 8 * 64 + (b1.toNat : Int) % 64) * 64 + (b2.toNat : Int) % 64) * 64 + (b3.toNat : Int) % 64) = ((rv s i 4 : Nat) : Int) := by
        have e : rv s i 4 = ((b0.toNat % 8 * 64 + b1.toNat % 64) * 64 + b2.toNat % 64) * 64 + b3.toNat % 64 := by
          skip
          unfold rv
          simp only [Nat.add_zero, HB0.out, HB1.out, HB2.out, HB3.out]
          simp
        rw [e]
        try omega
      rw [hV]
      have hVl : rv s i 4 < 2097152 := by omega
      have HAI := Aside0.mk (show acc s i 4 ↔ okR (rv s i 4) ∧ encL (rv s i 4) = (List.range 4).map (fun k => s.get! (i + k)) from Iff.rfl)
      have HNA := Aside0.mk (fun (ha : acc s i 4) => next_acc s i 4 h (by omega) (by omega) (by omega) ha (fun m h1 hm => HN.out m h1 hm (by omega)))
      generalize rv s i 4 = V at hVl HAI HNA ⊢
      clear hV hd
      have HEX := Aside0.mk (show (s.extract i (i + 4)).toList = (List.range 4).map (fun k => s.get! (i + k)) from ext_list s i 4 (by omega))
      have hwi : IntKind.i64.wrap ((i : Int) + 4) = (i : Int) + 4 := by rw [IntKind.wrap_i64]; omega
      have hA1 : (0 : Int) ≤ (i : Int) + 4 := by omega
      have hA2 : (i : Int) + 4 ≤ (s.size : Int) := by omega
      have hA3 : (i : Int) ≤ (i : Int) + 4 := by omega
      have hwt : ((i : Int) + 4).toNat = i + 4 := by omega
      have hw32 : IntKind.i32.wrap (V : Int) = V := by rw [IntKind.wrap_i32]; omega
      clear HB0 HB1 HB2 HB3
      by_cases c1 : V ≤ 1114111
      case neg =>
        have HNO := Aside0.mk (fun ha => c1 (HAI.out.1 ha).1.1)
        have hc1 : decide ((V : Int) ≤ 1114111) = false := decide_eq_false (by omega)
        refine wp_region_last_drew (S := fun _ => True) (ds := []) (by kernel_rfl) trivial (fun _ => ?_)
        refine tk 0 ?_
        refine tk (v := .bool false) 1 ?_
        refine tk 2 ?_
        refine un 3 ?_
        refine un 4 ?_
        refine on 5 (fun K hK => ?_)
        go_simp
        refine hK.out _ _ trivial (fun _ => ?_)
        clear hK K
        try simp only [Act.put, List.setIfInBounds_toArray, List.set_cons_zero, List.set_cons_succ]
        refine tk 6 ?_
        refine tk 7 ?_
        refine un 8 ?_
        refine un 9 ?_
        refine un 12 ?_
        refine un 13 ?_
        refine un 14 ?_
        refine un 15 ?_
        refine un 16 ?_
        refine un 17 ?_
        refine on 10 (fun K hK => ?_)
        go_simp
        refine hK.out _ _ trivial (fun _ => ?_)
        clear hK K
        try simp only [Act.put, List.setIfInBounds_toArray, List.set_cons_zero, List.set_cons_succ]
        refine on 11 (fun K hK => ?_)
        go_simp
        refine hK.out _ _ trivial (fun _ => ?_)
        clear hK K
        try simp only [Act.put, List.setIfInBounds_toArray, List.set_cons_zero, List.set_cons_succ]
        refine un 18 ?_
        refine tk 19 ?_
        refine dn ?_
        have HF3 := Aside0.mk (HF1.out.drew)
        have HN2 := Aside0.mk (show ∀ m, 1 ≤ m → m < 5 → i + m ≤ s.size → ¬ acc s i m from fun m h1 h2 h3 => by
          by_cases e : m = 4
          · subst e
            exact HNO.out
          · exact HN.out m h1 (by omega) h3)
        go_wp2_with (fail)
        exact ⟨⟨5, rfl, by omega, by omega, HN2, HF3⟩, by simp [intOf]⟩
      have hc1 : decide ((V : Int) ≤ 1114111) = true := decide_eq_true (by omega)
      by_cases c2 : V < 55296 ∨ 57343 < V
      case neg =>
        have HNO := Aside0.mk (fun ha => c2 (HAI.out.1 ha).1.2)
        have hRu := rune_f V c1
        rw [decide_eq_false c2] at hRu
        refine wp_region_last_drew (S := fun _ => True) (ds := []) (by kernel_rfl) trivial (fun _ => ?_)
        refine tk 0 ?_
        refine tk (v := .bool true) 1 ?_
        refine tk 2 ?_
        refine tk 3 ?_
        refine tk 4 ?_
        refine on 5 (fun K hK => ?_)
        go_simp
        refine (quoinref01_Rune.calls (V : Int) false _ hRu).mono ?_
        rintro e W8 ⟨rfl, hD8⟩
        have HF8 := Aside0.mk (HF1.out.drew.drawn' hD8)
        clear hD8
        dsimp only
        refine hK.out _ _ trivial (fun _ => ?_)
        clear hK K
        try simp only [Act.put, List.setIfInBounds_toArray, List.set_cons_zero, List.set_cons_succ]
        refine tk 6 ?_
        refine tk 7 ?_
        refine un 8 ?_
        refine un 9 ?_
        refine un 12 ?_
        refine un 13 ?_
        refine un 14 ?_
        refine un 15 ?_
        refine un 16 ?_
        refine un 17 ?_
        refine on 10 (fun K hK => ?_)
        go_simp
        refine hK.out _ _ trivial (fun _ => ?_)
        clear hK K
        try simp only [Act.put, List.setIfInBounds_toArray, List.set_cons_zero, List.set_cons_succ]
        refine on 11 (fun K hK => ?_)
        go_simp
        refine hK.out _ _ trivial (fun _ => ?_)
        clear hK K
        try simp only [Act.put, List.setIfInBounds_toArray, List.set_cons_zero, List.set_cons_succ]
        refine un 18 ?_
        refine tk 19 ?_
        refine dn ?_
        have HF3 := Aside0.mk (HF8.out)
        have HN2 := Aside0.mk (show ∀ m, 1 ≤ m → m < 5 → i + m ≤ s.size → ¬ acc s i m from fun m h1 h2 h3 => by
          by_cases e : m = 4
          · subst e
            exact HNO.out
          · exact HN.out m h1 (by omega) h3)
        go_wp2_with (fail)
        exact ⟨⟨5, rfl, by omega, by omega, HN2, HF3⟩, by simp [intOf]⟩
      have hRu := rune_f V c1
      rw [decide_eq_true c2] at hRu
      have hBy := bytes_f V c1
      have hst := nums_text (encL V)
      by_cases c3 : encL V = (List.range 4).map (fun k => s.get! (i + k))
      case pos =>
        have HR := Aside0.mk (HNA.out (HAI.out.2 ⟨⟨c1, c2⟩, c3⟩))
        have hcp : (strOfNums (bytesI (encL V))).toList = (s.extract i (i + 4)).toList := by rw [hst, HEX.out]; exact c3
        obtain ⟨X, hX⟩ : ∃ X, strOfNums (bytesI (encL V)) = X := ⟨_, rfl⟩
        rw [hX] at hcp
        have HXE := Aside0.mk hX
        clear hX hst
        clear c3
        refine wp_region_last_drew (S := fun _ => True) (ds := []) (by kernel_rfl) trivial (fun _ => ?_)
        refine tk 0 ?_
        refine tk (v := .bool true) 1 ?_
        refine tk 2 ?_
        refine tk 3 ?_
        refine tk 4 ?_
        refine on 5 (fun K hK => ?_)
        go_simp
        refine (quoinref01_Rune.calls (V : Int) true _ hRu).mono ?_
        rintro e W8 ⟨rfl, hD8⟩
        have HF8 := Aside0.mk (HF1.out.drew.drawn' hD8)
        clear hD8
        dsimp only
        refine hK.out _ _ trivial (fun _ => ?_)
        clear hK K
        try simp only [Act.put, List.setIfInBounds_toArray, List.set_cons_zero, List.set_cons_succ]
        refine tk 6 ?_
        refine tk 7 ?_
        refine tk 8 ?_
        refine tk 9 ?_
        refine tk 12 ?_
        refine tk 13 ?_
        refine tk 14 ?_
        refine tk 15 ?_
        refine tk 16 ?_
        refine tk 17 ?_
        refine on 10 (fun K hK => ?_)
        go_simp
        refine (quoinref01_bytes.calls (V : Int) _ _ hBy).mono ?_
        rintro e W9 ⟨v0, rfl, hR9, hB9⟩
        have HF9 := Aside0.mk (HF8.out.trans (Fr.of_below (S := fun _ => False) hB9) (fun _ _ h => h))
        obtain ⟨CA, cc, rfl⟩ := Kd.R_slice hR9
        have hcv := Kd.C_string (P := Tryd.prog) (A := CA) (c := cc) Tryd.underlying77 Tryd.underlying5 Tryd.underlying9 (Kd.R_reads' hR9).2.2
        rw [HXE.out] at hcv
        clear hR9 hB9
        generalize (bytesI (encL V)).length = bl at hcv ⊢
        dsimp only
        refine hK.out _ _ trivial (fun _ => ?_)
        clear hK K
        try simp only [Act.put, List.setIfInBounds_toArray, List.set_cons_zero, List.set_cons_succ]
        refine on 11 (fun K hK => ?_)
        go_simp
        refine hK.out _ _ trivial (fun _ => ?_)
        clear hK K
        try simp only [Act.put, List.setIfInBounds_toArray, List.set_cons_zero, List.set_cons_succ]
        refine tk (v := .bool true) 18 ?_
        refine tk 19 ?_
        refine dn ?_
        clear hcv
        go_wp2_with (fail)
        refine bodyPost_ret (results_tmp3 rfl _ _ _) rfl ?_
        exact ⟨by rw [HR.out]; simp, HF9.out⟩
      case neg =>
        have HNO := Aside0.mk (fun ha => c3 (HAI.out.1 ha).2)
        have hcp : ¬ (strOfNums (bytesI (encL V))).toList = (s.extract i (i + 4)).toList := by rw [hst, HEX.out]; exact c3
        obtain ⟨X, hX⟩ : ∃ X, strOfNums (bytesI (encL V)) = X := ⟨_, rfl⟩
        rw [hX] at hcp
        have HXE := Aside0.mk hX
        clear hX hst
        clear c3
        refine wp_region_last_drew (S := fun _ => True) (ds := []) (by kernel_rfl) trivial (fun _ => ?_)
        refine tk 0 ?_
        refine tk (v := .bool true) 1 ?_
        refine tk 2 ?_
        refine tk 3 ?_
        refine tk 4 ?_
        refine on 5 (fun K hK => ?_)
        go_simp
        refine (quoinref01_Rune.calls (V : Int) true _ hRu).mono ?_
        rintro e W8 ⟨rfl, hD8⟩
        have HF8 := Aside0.mk (HF1.out.drew.drawn' hD8)
        clear hD8
        dsimp only
        refine hK.out _ _ trivial (fun _ => ?_)
        clear hK K
        try simp only [Act.put, List.setIfInBounds_toArray, List.set_cons_zero, List.set_cons_succ]
        refine tk 6 ?_
        refine tk 7 ?_
        refine tk 8 ?_
        refine tk 9 ?_
        refine tk 12 ?_
        refine tk 13 ?_
        refine tk 14 ?_
        refine tk 15 ?_
        refine tk 16 ?_
        refine tk 17 ?_
        refine on 10 (fun K hK => ?_)
        go_simp
        refine (quoinref01_bytes.calls (V : Int) _ _ hBy).mono ?_
        rintro e W9 ⟨v0, rfl, hR9, hB9⟩
        have HF9 := Aside0.mk (HF8.out.trans (Fr.of_below (S := fun _ => False) hB9) (fun _ _ h => h))
        obtain ⟨CA, cc, rfl⟩ := Kd.R_slice hR9
        have hcv := Kd.C_string (P := Tryd.prog) (A := CA) (c := cc) Tryd.underlying77 Tryd.underlying5 Tryd.underlying9 (Kd.R_reads' hR9).2.2
        rw [HXE.out] at hcv
        clear hR9 hB9
        generalize (bytesI (encL V)).length = bl at hcv ⊢
        dsimp only
        refine hK.out _ _ trivial (fun _ => ?_)
        clear hK K
        try simp only [Act.put, List.setIfInBounds_toArray, List.set_cons_zero, List.set_cons_succ]
        refine on 11 (fun K hK => ?_)
        go_simp
        refine hK.out _ _ trivial (fun _ => ?_)
        clear hK K
        try simp only [Act.put, List.setIfInBounds_toArray, List.set_cons_zero, List.set_cons_succ]
        refine tk (v := .bool false) 18 ?_
        refine tk 19 ?_
        refine dn ?_
        clear hcv
        have HF3 := Aside0.mk (HF9.out)
        have HN2 := Aside0.mk (show ∀ m, 1 ≤ m → m < 5 → i + m ≤ s.size → ¬ acc s i m from fun m h1 h2 h3 => by
          by_cases e : m = 4
          · subst e
            exact HNO.out
          · exact HN.out m h1 (by omega) h3)
        go_wp2_with (fail)
        exact ⟨⟨5, rfl, by omega, by omega, HN2, HF3⟩, by simp [intOf]⟩
end Go.Proofs.YtagokdbpgljgjaaDoor.Tok
