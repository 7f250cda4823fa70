/-
The piece of a text at any byte: text.Next, walked.
-/
import Derived.Lib.IndexBytes
import Derived.Test.YtagokdbpgljgjaaDoorMAK
import Derived.Test.YtagokdbpgljgjaaDoorMAQ
set_option linter.unusedSimpArgs false
set_option linter.unusedVariables false
namespace Go.Proofs.YtagokdbpgljgjaaDoor.Tok
open Go.RowKit Go.Proofs.YtagokdbpgljgjaaDoorW.PrintWords Go.Proofs.YtagokdbpgljgjaaDoorW.PrintLast Go.Proofs.YtagokdbpgljgjaaDoorW.PrintMore Go.Proofs.YtagokdbpgljgjaaDoor.Fr Go.Proofs.YtagokdbpgljgjaaDoor.PGramFirsts Go.Proofs.YtagokdbpgljgjaaDoor.TextSet Go.Proofs.YtagokdbpgljgjaaDoor.Utf
theorem enc_width (s : ByteArray) (i : Nat) (h : i < s.size) (hv : ¬ Utf8.decode s i = (65533, 1)) : (Utf8.encode ((Utf8.decode s i).1 : Int)).size = (Utf8.decode s i).2 := by
  have key : ∀ c : Nat, (c < 55296 ∨ 57344 ≤ c ∧ c ≤ 1114111) → (Utf8.encode (c : Int)).size = if c < 128 then 1 else if c < 2048 then 2 else if c < 65536 then 3 else 4 := by
    intro c hc
    have hvv : Utf8.valid (c : Int) = true := by
      unfold Utf8.valid
      simp only [Bool.or_eq_true, Bool.and_eq_true, decide_eq_true_eq]
      omega
    unfold Utf8.encode
    rw [hvv]
    simp only [if_true, Int.toNat_natCast]
    repeat' split
    all_goals first | rfl | omega
  rw [Lib.decode_at] at hv ⊢
  rcases Lib.decodeN_shape (s.size - i) (s.get! i).toNat (s.get! (i + 1)).toNat (s.get! (i + 2)).toNat (s.get! (i + 3)).toNat with ⟨c, e⟩ | ⟨c1, c2, c3, cv, e⟩ | ⟨c1, c2, c3, c4, cv, cs, e⟩ | ⟨c1, c2, c3, c4, c5, cv, cw, e⟩ | e
  · rw [e, key _ (by omega), if_pos (by omega)]
  · rw [e, key _ (by omega), if_neg (by omega), if_pos (by omega)]
  · rw [e, key _ (by omega), if_neg (by omega), if_neg (by omega), if_pos (by omega)]
  · rw [e, key _ (by omega), if_neg (by omega), if_neg (by omega), if_neg (by omega)]
  · exact absurd e hv
theorem dl (s : ByteArray) : s.toList = s.data.toList := by
  exact Lib.toList_data s
theorem list3 (u : ByteArray) (h : u.size = 3) : u.toList = [u.get! 0, u.get! 1, u.get! 2] := by
  rw [dl]
  obtain ⟨⟨l⟩⟩ := u
  match l, (show l.length = 3 from h) with
  | [a, b, c], _ => rfl
theorem sub3_get (s : ByteArray) (i j : Nat) (h : i + 3 ≤ s.size) (hj : j < 3) : ((s.extract i s.size).extract 0 3).get! j = s.get! (i + j) := by
  rw [Utf.get_at (s := s) (by omega), Utf.get_at (by simp; omega)]
  simp [ByteArray.getElem_extract]
theorem sub3 (s : ByteArray) (i : Nat) (h : i + 3 ≤ s.size) : ((s.extract i s.size).extract 0 3).toList = [s.get! i, s.get! (i + 1), s.get! (i + 2)] := by
  rw [list3 _ (by simp; omega), sub3_get s i 0 h (by omega), sub3_get s i 1 h (by omega), sub3_get s i 2 h (by omega)]
  rfl
/-- Whether the mark of a wrong byte itself stands there. -/
theorem prefix_mark (s : ByteArray) (i : Nat) (h : i < s.size) (hs : s.size ≤ maxLen) (hc : (Utf8.decode s i).1 = 65533) : strings_HasPrefix.f (s.extract i s.size) ⟨#[239, 191, 189]⟩ = some (decide ((Utf8.decode s i).2 = 3)) := by
  have hz : (s.extract i s.size).size = s.size - i := by simp
  have h3 : (⟨#[239, 191, 189]⟩ : ByteArray).size = 3 := rfl
  have hm : maxLen = 9223372036854775807 := by decide
  unfold strings_HasPrefix.f stringslite_HasPrefix.f
  rw [hz, h3]
  rw [Lib.decode_at] at hc ⊢
  by_cases c : 3 ≤ s.size - i
  · rw [if_pos (by omega), if_pos (by omega), if_pos (by omega)]
    have he : ((s.extract i s.size).extract 0 (((3 : Nat) : Int)).toNat).toList = [s.get! i, s.get! (i + 1), s.get! (i + 2)] := sub3 s i (by omega)
    rw [he]
    have hp : (⟨#[239, 191, 189]⟩ : ByteArray).toList = [239, 191, 189] := by rw [dl]
    rw [hp]
    simp only [Option.bind_some, Option.some.injEq]
    have k0 := (s.get! i).toNat_lt
    have k1 := (s.get! (i + 1)).toNat_lt
    have k2 := (s.get! (i + 2)).toNat_lt
    rcases Lib.decodeN_shape (s.size - i) (s.get! i).toNat (s.get! (i + 1)).toNat (s.get! (i + 2)).toNat (s.get! (i + 3)).toNat with ⟨c, e⟩ | ⟨c1, c2, c3, cv, e⟩ | ⟨c1, c2, c3, c4, cv, cs, e⟩ | ⟨c1, c2, c3, c4, c5, cv, cw, e⟩ | e
    · rw [e] at hc
      simp only at hc
      omega
    · rw [e] at hc
      simp only at hc
      omega
    · rw [e] at hc ⊢
      simp only at hc
      have e0 : s.get! i = 239 := UInt8.toNat_inj.1 (show _ = 239 by omega)
      have e1 : s.get! (i + 1) = 191 := UInt8.toNat_inj.1 (show _ = 191 by omega)
      have e2 : s.get! (i + 2) = 189 := UInt8.toNat_inj.1 (show _ = 189 by omega)
      rw [e0, e1, e2]
      rfl
    · rw [e] at hc
      simp only at hc
      omega
    · have hb : ([s.get! i, s.get! (i + 1), s.get! (i + 2)] == [239, 191, 189]) = false := by
        rw [beq_eq_false_iff_ne]
        intro el
        simp only [List.cons.injEq, and_true] at el
        obtain ⟨e0, e1, e2⟩ := el
        rw [e0, e1, e2] at e
        unfold Lib.decodeN at e
        rw [if_neg (by decide), if_neg (fun k => absurd k.1 (by decide)), if_pos ⟨by decide, ⟨by omega, by decide⟩, by omega, by decide⟩] at e
        simp at e
      rw [hb, e]
      rfl
  · rw [if_neg (by omega)]
    simp only [Option.bind_some, Option.some.injEq]
    symm
    rw [decide_eq_false_iff_not]
    intro k
    rcases Lib.decodeN_shape (s.size - i) (s.get! i).toNat (s.get! (i + 1)).toNat (s.get! (i + 2)).toNat (s.get! (i + 3)).toNat with ⟨c, e⟩ | ⟨c1, c2, c3, cv, e⟩ | ⟨c1, c2, c3, c4, cv, cs, e⟩ | ⟨c1, c2, c3, c4, c5, cv, cw, e⟩ | e
    all_goals rw [e] at k; simp at k; try omega
set_option maxHeartbeats 2000000 in
set_option maxRecDepth 100000 in
theorem next_calls (w : World) (s : ByteArray) (i : Nat) (h : i < s.size) (hs : s.size ≤ maxLen) :
    Calls Tryd.prog 54 #[.string s, .int .i64 i] w fun e w' => e = .returned (.tuple #[.int .i32 (nextF s i).1, .int .i64 (nextF s i).2.1, .bool (nextF s i).2.2]) ∧ Fr (fun _ => False) w w' := by
  have hm : maxLen ≤ 9223372036854775807 := by decide
  have HEN := Aside0.mk (enc_width s i h)
  have HPX := Aside0.mk (prefix_mark s i h hs)
  have HNF := Aside0.mk (show nextF s i = if Utf8.decode s i = (65533, 1) then (0, 1, false) else ((Utf8.decode s i).1, (Utf8.decode s i).2, true) from rfl)
  have HW3 := Aside0.mk (show (Utf8.decode s i).1 = 65533 → (Utf8.decode s i).2 = 1 ∨ (Utf8.decode s i).2 = 3 from by
    rw [Lib.decode_at]
    rcases Lib.decodeN_shape (s.size - i) (s.get! i).toNat (s.get! (i + 1)).toNat (s.get! (i + 2)).toNat (s.get! (i + 3)).toNat with ⟨c, e⟩ | ⟨c1, c2, c3, cv, e⟩ | ⟨c1, c2, c3, c4, cv, cs, e⟩ | ⟨c1, c2, c3, c4, c5, cv, cw, e⟩ | e
    all_goals rw [e]; simp; try omega)
  have hd := decode_sub s i h
  have hz := sub_size s i
  generalize nextF s i = nf at HNF ⊢
  generalize Utf8.decode s i = dc at HEN HPX HNF hd HW3
  obtain ⟨c, k⟩ := dc
  simp only at HEN HPX HNF HW3
  obtain ⟨u, hu⟩ : ∃ u, s.extract i s.size = u := ⟨_, rfl⟩
  rw [hu] at HPX hd hz
  have HU := Aside0.mk hu
  clear hu
  have hu0 : 0 < u.size := by omega
  go_enter Tryd.func54, Tryd.ntmps54
  go_wp2_with (fail)
  rw [HU.out]
  go_loopw [8] (fun _ W => W = w.iter u 0) (fun _ _ => 0)
  case atStart => rfl
  case round =>
    obtain rfl := hrel
    have hk : (w.iter u 0).heap[w.heap.size]? = some (.stringIter u 0) := blk_new w (.stringIter u 0)
    have hnx := fun ty => Lib.run_next_any_at (P := Tryd.prog) (w.iter u 0) w.heap.size u 0 ty hk hu0
    rw [hd] at hnx
    simp only at hnx
    have hF := Aside0.mk (show Fr (fun _ => False) w ((w.iter u 0).iterAt w.heap.size u k) from by
      have h0 := (Fr.refl (fun _ => False) w).alloc (.stringIter u 0)
      refine ⟨rfl, rfl, rfl, ?_, fun k hk _ => ?_⟩
      · have := h0.size
        simp only [World.iterAt, Array.size_setIfInBounds]
        exact this
      · show ((w.iter u 0).heap.setIfInBounds w.heap.size (.stringIter u _))[k]? = w.heap[k]?
        rw [Array.getElem?_setIfInBounds_ne (by omega)]
        exact h0.block k hk id)
    clear hk hz hd
    by_cases hc : c = 65533
    case neg =>
      have HK := Aside0.mk (HEN.out (fun e => hc (congrArg Prod.fst e)))
      have HN := Aside0.mk (show nf = (c, k, true) from by rw [HNF.out, if_neg (fun e => hc (congrArg Prod.fst e))])
      have hcb : ((c : Int) == 65533) = false := beq_eq_false_iff_ne.2 (by omega)
      clear HEN HPX HNF HW3
      go_wp2_with (fail)
      refine bodyPost_ret (results_tmp3 rfl _ _ _) rfl ?_
      exact ⟨by rw [HN.out]; simp [HK.out], hF.out⟩
    case pos =>
    subst hc
    have HP2 := Aside0.mk (fun w => strings_HasPrefix.calls u ⟨#[239, 191, 189]⟩ _ w (HPX.out rfl))
    go_wp2_with (fail)
    rw [HU.out]
    refine (HP2.out _).mono ?_
    rintro e W1 ⟨rfl, hD⟩
    have HF1 := Aside0.mk (hF.out.drawn' hD)
    clear HP2 hD hF
    rcases HW3.out (by first | rfl | trivial) with hk | hk
    · subst hk
      have HN := Aside0.mk (show nf = (0, 1, false) from by rw [HNF.out, if_pos rfl])
      clear HEN HPX HNF HW3
      go_wp2_with (fail)
      refine bodyPost_ret (results_tmp3 rfl _ _ _) rfl ?_
      exact ⟨by rw [HN.out]; rfl, HF1.out⟩
    · subst hk
      have HN := Aside0.mk (show nf = (65533, 3, true) from by rw [HNF.out, if_neg (by simp)])
      have HK : (Utf8.encode 65533).size = 3 := HEN.out (by simp)
      have HK := Aside0.mk HK
      clear HEN HPX HNF HW3
      go_wp2_with (fail)
      refine bodyPost_ret (results_tmp3 rfl _ _ _) rfl ?_
      exact ⟨by rw [HN.out]; simp [HK.out], HF1.out⟩
end Go.Proofs.YtagokdbpgljgjaaDoor.Tok
