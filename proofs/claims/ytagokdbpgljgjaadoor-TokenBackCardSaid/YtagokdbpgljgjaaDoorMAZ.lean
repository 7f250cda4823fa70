/-
The token of a line, by the document: quoinref07.one, walked.
-/
import Derived.Test.YtagokdbpgljgjaaDoorMAY
import Derived.Test.YtagokdbpgljgjaaDoorMAW
import Derived.Shelf.Strings.Builder1
import Derived.Shelf.Strings.BuilderF
import Derived.Shelf.Strings.BuilderK
import Derived.Shelf.Strconv.Atoi
import Derived.Shelf.Strconv.Itoa0
import Derived.Shelf.Strconv.Itoa1
import Derived.Shelf.LaysM
import Derived.Shelf.Strconv.Itoa2
import Derived.Shelf.Strconv.Itoa3
import Derived.Shelf.Strconv.AtoiErrFast
import Derived.Shelf.Strconv.ParseIntEmpty
import Derived.Shelf.Strconv.AtoiFail
import Derived.Shelf.Strconv.Clone
import Derived.Shelf.Strconv.SyntaxError
import Derived.Shelf.LaysC
import Derived.Shelf.Strconv.ToError
import Derived.Shelf.Strconv.AtoiErr
import Derived.Shelf.Strconv.ErrVar
import Derived.Shelf.Strconv.Lower
import Derived.Shelf.Strconv.ParseUint10
import Derived.Shelf.Strconv.ParseUint10Empty
import Derived.Shelf.Strconv.ParseUint10Any
import Derived.Shelf.Strconv.ParseInt10
import Derived.Shelf.Strconv.AtoiLong
import Derived.Shelf.Strconv.AtoiInnerAll
import Derived.Shelf.Strconv.RangeError
import Derived.Shelf.Strconv.ToErrorRange
import Derived.Shelf.Strconv.AtoiAll
import Derived.Shelf.Strconv.ErrVarAll
import Derived.Shelf.Strings.Search1
import Derived.Shelf.Strings.Search2
import Derived.Shelf.Strings.Search3
import Derived.Shelf.Strings.Cut
import Derived.Shelf.Strings.Count
import Derived.Shelf.Strings.Shaped
import Derived.Shelf.Strings.Prefix
import Derived.Shelf.Strings.Split
import Derived.Shelf.Unicode.DecodeSlow
import Derived.Shelf.Strings.BuilderCap
import Derived.Test.YtagokdbpgljgjaaDoorProg
set_option linter.unusedSimpArgs false
set_option linter.unusedVariables false
namespace Go.Proofs.YtagokdbpgljgjaaDoor.Tok
open Go.RowKit Go.Proofs.YtagokdbpgljgjaaDoorW.PrintWords Go.Proofs.YtagokdbpgljgjaaDoorW.PrintLast Go.Proofs.YtagokdbpgljgjaaDoorW.PrintMore Go.Proofs.YtagokdbpgljgjaaDoor.Fr Go.Proofs.YtagokdbpgljgjaaDoor.PGramFirsts Go.Proofs.YtagokdbpgljgjaaDoor.TextSet Go.Proofs.YtagokdbpgljgjaaDoor.Bld Go.Proofs.YtagokdbpgljgjaaDoor.Utf
/-- What the document's one answers. -/
def OneIs (ns : List ByteArray) (src s : ByteArray) (t : S55) (b : Bool) : Prop := (b = true → 0 ≤ t.f0 ∧ t.f0 < ns.length ∧ 0 ≤ t.f1 ∧ t.f1 ≤ t.f2 ∧ t.f2 ≤ src.size ∧ fitT t = true ∧ lineS ns src t = s) ∧ ∀ u, Good ns src 0 u → lineS ns src u = s → t = u ∧ b = true
/-- The parts of a token's line. -/
theorem line_parts {ns : List ByteArray} {src s : ByteArray} {u : S55} (h : lineS ns src u = s) : s.data.toList = (rdOf ByteArray.empty ns u.f0).data.toList ++ 32 :: (Lib.decDigits u.f1.toNat ++ 32 :: (Lib.decDigits u.f2.toNat ++ 32 :: ((quoteF (src.extract u.f1.toNat u.f2.toNat)).1.data.toList ++ [10]))) := by
  rw [← h, lineS_body, data_append]
  unfold bodyS
  rw [body_data, itB_data, itB_data]
  simp
theorem first_at {l pre rest : List UInt8} {b : UInt8} {i : Nat} (h : l = pre ++ b :: rest) (hp : b ∉ pre) (hi : i ≤ l.length) (hn : b ∉ l.take i) (he : ∀ (hx : i < l.length), l[i] = b) : i = pre.length := by
  rcases Nat.lt_trichotomy i pre.length with c | c | c
  · have hl : i < l.length := by rw [h]; simp; omega
    have := he hl
    refine absurd (?_ : b ∈ pre) hp
    rw [← this]
    have e : l[i] = pre[i]'c := by
      subst h
      rw [List.getElem_append_left c]
    rw [e]
    exact List.getElem_mem c
  · exact c
  · refine absurd ?_ hn
    rw [h, List.take_append]
    refine List.mem_append_right _ ?_
    obtain ⟨k, hk⟩ : ∃ k, i - pre.length = k + 1 := ⟨i - pre.length - 1, by omega⟩
    rw [hk, List.take_succ_cons]
    exact List.mem_cons_self ..
/-- A step of a drawn region that yields in every world: taken wherever it may come up. -/
theorem pu {P : Program} {ops : Array Oper} {Q : Exit → Act → World → Prop} {md : Region.Mode} {S : World → Prop} {ds : List Nat} (i : Nat) {oi : Oper} {v : Value} {fuel : Nat} {listed : Array Bool} {a a' : Act} {w : World}
    (h : wpAnyLast P md ops Q S ds fuel (listed.setIfInBounds i true) a' w)
    (hi : ops[i]? = some oi := by (first | (simp only [List.getElem?_toArray, List.getElem?_cons_zero]; rfl) | (simp only [List.getElem?_toArray, List.getElem?_cons_succ, List.getElem?_cons_zero]; rfl)))
    (hc : anyB md ops listed (listed.setIfInBounds i true) i = true := by kernel_rfl)
    (hy : Yields P ops oi v a := by (refine Or.inl ⟨by rfl, ?_⟩; intro w0; go_simp; try with_reducible rfl))
    (ha : a.put oi.dst v = a' := by ((try simp only [Act.put, List.setIfInBounds_toArray, List.set_cons_zero, List.set_cons_succ]); rfl))
    (hQ : ∀ c a w, Q (.panic c) (a.put oi.dst v) w → Q (.panic c) a w := by exact fun _ _ _ h => h) : wpAnyLast P md ops Q S ds (fuel + 1) listed a w :=
  pure_ _ hi rfl hc hQ hy ha h
set_option maxHeartbeats 8000000 in
set_option maxRecDepth 100000 in
theorem one_any (w : World) (ns : List ByteArray) (A : Option Addr) (cp : Nat) (hA : Kd.string.C w A ns.length ns) (hcp : ns.length ≤ cp) (hk : KindsOk ns) (hs : ∀ s, s ∈ ns → s.size ≤ maxLen) (src : ByteArray) (hsr : src.size < 10995116277760) (s : ByteArray) (hsz : s.size ≤ 1099511627776) (hP : Pow w) :
    Calls Tryd.prog 43 #[.slice A ns.length cp, .string src, .string s] w fun e w' => (∃ t b, e = .returned (.tuple #[.agg #[.int .i64 (S55.f0 t), .int .i64 (S55.f1 t), .int .i64 (S55.f2 t)], .bool b]) ∧ OneIs ns src s t b) ∧ Fr (fun _ => False) w w' := by
  have hmn := Kd.C_max hA
  have h2k := hk.max
  have HA := Aside0.mk hA
  have HP := Aside0.mk hP
  have HSS := Aside0.mk hs
  have HK := Aside0.mk hk
  have hz : s.data.toList.length = s.size := by simp
  have HZ := Aside0.mk hz
  have HPT := Aside0.mk (fun u (h : lineS ns src u = s) => line_parts h)
  clear hA hP hs hk hz
  go_enter Tryd.func43, Tryd.ntmps43
  go_wp2_with (fail)
  have HF0 := Aside0.mk ((Fr.refl (fun _ => False) w).alloc (.cells #[.int .i64 0, .int .i64 0, .int .i64 0] 55))
  have HR0 := Aside0.mk (blk_new w (.cells #[.int .i64 0, .int .i64 0, .int .i64 0] 55))
  obtain ⟨W0, hW0⟩ : ∃ W, w.alloc (.cells #[.int .i64 0, .int .i64 0, .int .i64 0] 55) = W := ⟨_, rfl⟩
  obtain ⟨B, hB⟩ : ∃ b, w.heap.size = b := ⟨_, rfl⟩
  rw [hW0] at HF0 HR0
  rw [hB] at HR0
  simp only [hW0, hB]
  clear hW0
  have HN0 := Aside0.mk (show (32 : UInt8) ∉ s.data.toList.take 0 from by simp)
  go_loopw [8] (fun a W => ∃ i : Nat, a = .int .i64 i ∧ i ≤ s.size ∧ Aside0 ((32 : UInt8) ∉ s.data.toList.take i) ∧ W = W0) (fun a _ => s.size - (intOf a).toNat)
  case atStart => exact ⟨0, rfl, Nat.zero_le _, HN0, rfl⟩
  case round =>
    clear HN0
    obtain ⟨i, rfl, hi, HN, rfl⟩ := hrel
    by_cases hg : ∃ hx : i < s.size, s[i]'hx ≠ 32
    · obtain ⟨hx, hb⟩ := hg
      obtain ⟨b, hbe⟩ : ∃ b, s[i]'hx = b := ⟨_, rfl⟩
      rw [hbe] at hb
      have hd1 : decide ((i : Int) < (s.size : Int)) = true := decide_eq_true (by omega)
      have hb32 : ¬ (b.toNat : Int) = 32 := fun e => hb (UInt8.toNat_inj.1 (by show b.toNat = 32; omega))
      have HN1 := Aside0.mk (show (32 : UInt8) ∉ s.data.toList.take (i + 1) from by
        rw [List.take_add_one]
        have e : s.data.toList[i]? = some b := by
          rw [← hbe, ByteArray.getElem_eq_getElem_data]
          simp
        rw [e]
        simp only [Option.toList, List.mem_append, List.mem_singleton, not_or]
        exact ⟨HN.out, fun e => hb e.symm⟩)
      clear HN hb
      go_wp2_with (fail)
      exact ⟨⟨i + 1, (by go_num), by omega, HN1, trivial⟩, by simp [intOf]; omega⟩
    · have HAT := Aside0.mk (fun u (hu : lineS ns src u = s) => first_at (HPT.out u hu) (name_bytes HK.out HSS.out u.f0).2 (by rw [HZ.out]; exact hi) HN.out (fun hx => by
        by_cases c : s.data.toList[i] = 32
        · exact c
        · refine absurd ⟨by rw [← HZ.out]; exact hx, ?_⟩ hg
          rw [ByteArray.getElem_eq_getElem_data]
          simpa using c))
      have hcase : ¬ i < s.size ∨ ∃ hx : i < s.size, s[i]'hx = 32 := by
        by_cases hx : i < s.size
        · right
          refine ⟨hx, ?_⟩
          by_cases c : s[i]'hx = 32
          · exact c
          · exact absurd ⟨hx, c⟩ hg
        · exact .inl hx
      clear hg HN
      obtain ⟨k, f0, -, m, -, hfm, hfi⟩ := find_is ns (by omega) (s.extract 0 i)
      have HFI := Aside0.mk hfi
      rcases hcase with hx | ⟨hx, hb⟩
      · have hd1 : decide ((i : Int) < (s.size : Int)) = false := decide_eq_false (by omega)
        have hix : ¬ (i : Int) < (s.size : Int) := by omega
        have HNO := Aside0.mk (show OneIs ns src s ⟨0, 0, 0⟩ false from ⟨fun h => (by cases h), fun u hg hu => by
          have h1 := HAT.out u hu
          have h2 := congrArg List.length (HPT.out u hu)
          simp only [List.length_append, List.length_cons] at h2
          have := HZ.out
          omega⟩)
        go_wp2_with (fail)
        refine (reffinds_calls _ ns A cp (HF0.out.C ByteArray.empty HA.out (fun _ _ _ => id)) hcp (s.extract 0 i) (k, f0) m hfm).mono ?_
        rintro e W1 ⟨rfl, hF⟩
        have HF1 := Aside0.mk (HF0.out.trans hF (fun _ _ h => h))
        have HR1 := Aside0.mk (hF.blk HR0.out id)
        clear hF HF0 HR0
        have hix2 : (s.size : Int) ≤ (i : Int) := by omega
        cases f0 with
        | false =>
          have hc0 := (blk_cell HR1.out 0).trans (show _ = some (Value.int .i64 0) from rfl)
          have hc1 := (blk_cell HR1.out 1).trans (show _ = some (Value.int .i64 0) from rfl)
          have hc2 := (blk_cell HR1.out 2).trans (show _ = some (Value.int .i64 0) from rfl)
          have hf0 := blk_frozen HR1.out 0
          have hf1 := blk_frozen HR1.out 1
          have hf2 := blk_frozen HR1.out 2
          go_wp2_with (fail)
          have hb3 := blk_put (blk_put (blk_put HR1.out 0 (.int .i64 0) rfl) 1 (.int .i64 0) rfl) 2 (.int .i64 0) rfl
          refine bodyPost_ret (results_ct rfl _ _ B _ _ _ _ rfl hb3 Tryd.underlying55 rfl (by kernel_rfl)) rfl ?_
          exact ⟨⟨⟨0, 0, 0⟩, false, rfl, HNO.out⟩, ((HF1.out.set _ (fun h => absurd h (by omega))).set _ (fun h => absurd h (by omega))).set _ (fun h => absurd h (by omega))⟩
        | true =>
          have hc0 := (blk_cell HR1.out 0).trans (show _ = some (Value.int .i64 0) from rfl)
          have hc1 := (blk_cell HR1.out 1).trans (show _ = some (Value.int .i64 0) from rfl)
          have hc2 := (blk_cell HR1.out 2).trans (show _ = some (Value.int .i64 0) from rfl)
          have hf0 := blk_frozen HR1.out 0
          have hf1 := blk_frozen HR1.out 1
          have hf2 := blk_frozen HR1.out 2
          go_wp2_with (fail)
          have hb3 := blk_put (blk_put (blk_put HR1.out 0 (.int .i64 0) rfl) 1 (.int .i64 0) rfl) 2 (.int .i64 0) rfl
          refine bodyPost_ret (results_ct rfl _ _ B _ _ _ _ rfl hb3 Tryd.underlying55 rfl (by kernel_rfl)) rfl ?_
          exact ⟨⟨⟨0, 0, 0⟩, false, rfl, HNO.out⟩, ((HF1.out.set _ (fun h => absurd h (by omega))).set _ (fun h => absurd h (by omega))).set _ (fun h => absurd h (by omega))⟩
      · have hd1 : decide ((i : Int) < (s.size : Int)) = true := decide_eq_true (by omega)
        have HEX := Aside0.mk (show (s.extract 0 i).data.toList = s.data.toList.take i from by rw [Lib.extract_data]; simp)
        have HNM := Aside0.mk (fun u (hg : Good ns src 0 u) (hu : lineS ns src u = s) => show f0 = true ∧ k = u.f0 from by
          have h1 := HAT.out u hu
          have h2 : s.extract 0 i = rdOf ByteArray.empty ns u.f0 := by
            refine data_inj ?_
            rw [HEX.out, HPT.out u hu, h1, List.take_left]
          obtain ⟨g0, g1, _⟩ := hg
          have hf : f0 = true := by
            cases f0 with
            | true => rfl
            | false => exact absurd h2.symm (HFI.out.2 rfl u.f0.toNat (by omega))
          obtain ⟨k1, k2, k3⟩ := HFI.out.1 hf
          have := name_inj HK.out (i := k.toNat) (j := u.f0.toNat) (by omega) (by omega) (k3.trans h2)
          exact ⟨hf, by omega⟩)
        clear hfi HEX
        go_wp2_with (fail)
        refine (reffinds_calls _ ns A cp (HF0.out.C ByteArray.empty HA.out (fun _ _ _ => id)) hcp (s.extract 0 i) (k, f0) m hfm).mono ?_
        rintro e W1 ⟨rfl, hF⟩
        have HF1 := Aside0.mk (HF0.out.trans hF (fun _ _ h => h))
        have HR1 := Aside0.mk (hF.blk HR0.out id)
        clear hF HF0 HR0
        cases f0 with
        | false =>
          have HNO := Aside0.mk (show OneIs ns src s ⟨0, 0, 0⟩ false from ⟨fun h => (by cases h), fun u hg hu => by
            have := (HNM.out u hg hu).1
            cases this⟩)
          have hc0 := (blk_cell HR1.out 0).trans (show _ = some (Value.int .i64 0) from rfl)
          have hc1 := (blk_cell HR1.out 1).trans (show _ = some (Value.int .i64 0) from rfl)
          have hc2 := (blk_cell HR1.out 2).trans (show _ = some (Value.int .i64 0) from rfl)
          have hf0 := blk_frozen HR1.out 0
          have hf1 := blk_frozen HR1.out 1
          have hf2 := blk_frozen HR1.out 2
          go_wp2_with (fail)
          have hb3 := blk_put (blk_put (blk_put HR1.out 0 (.int .i64 0) rfl) 1 (.int .i64 0) rfl) 2 (.int .i64 0) rfl
          refine bodyPost_ret (results_ct rfl _ _ B _ _ _ _ rfl hb3 Tryd.underlying55 rfl (by kernel_rfl)) rfl ?_
          exact ⟨⟨⟨0, 0, 0⟩, false, rfl, HNO.out⟩, ((HF1.out.set _ (fun h => absurd h (by omega))).set _ (fun h => absurd h (by omega))).set _ (fun h => absurd h (by omega))⟩
        | true =>
        have hix : ¬ (s.size : Int) ≤ (i : Int) := by omega
        have hk01 := (HFI.out.1 rfl).1
        have hk02 := (HFI.out.1 rfl).2.1
        go_wp2_with (fail)
        have hrn := rnumber_any W1 s (i + 1) (by omega) hsz (HP.out.go HF1.out)
        rw [show ((i + 1 : Nat) : Int) = (i : Int) + 1 by omega] at hrn
        refine hrn.mono ?_
        rintro e W2 ⟨⟨n1, i1, rfl, hr1, hr1'⟩, hF⟩
        have HN1 := Aside0.mk (fun u (hg : Good ns src 0 u) (hu : lineS ns src u = s) => show n1 = u.f1 ∧ i1 = (i : Int) + 1 + (Lib.decDigits u.f1.toNat).length ∧ i1 < s.size from by
          have h1 := HAT.out u hu
          have h2 := HPT.out u hu
          obtain ⟨g0, g1, g2, g3, g4, g5⟩ := hg
          obtain ⟨a1, a2⟩ := hr1' u.f1.toNat ((rdOf ByteArray.empty ns u.f0).data.toList ++ [32]) (Lib.decDigits u.f2.toNat ++ 32 :: ((quoteF (src.extract u.f1.toNat u.f2.toNat)).1.data.toList ++ [10])) 32 (by rw [h2]; simp) (by rw [List.length_append, ← h1]; rfl) (by decide) (by omega)
          have h3 := congrArg List.length h2
          simp only [List.length_append, List.length_cons, List.length_nil] at h3
          have := HZ.out
          refine ⟨by omega, by omega, by omega⟩)
        have HF2 := Aside0.mk (HF1.out.trans hF (fun _ _ h => h))
        have HR2 := Aside0.mk (hF.blk HR1.out id)
        clear hF HF1 HR1 hr1' hrn
        by_cases hv : 0 ≤ n1 ∧ i1 < s.size
        case neg =>
          have HNO := Aside0.mk (show OneIs ns src s ⟨0, 0, 0⟩ false from ⟨fun h => (by cases h), fun u hg hu => by
            have h1 := HN1.out u hg hu
            have := hg.2.2.1
            exact absurd ⟨by omega, h1.2.2⟩ hv⟩)
          by_cases hv0 : n1 < 0
          · clear hv
            have hc0 := (blk_cell HR2.out 0).trans (show _ = some (Value.int .i64 0) from rfl)
            have hc1 := (blk_cell HR2.out 1).trans (show _ = some (Value.int .i64 0) from rfl)
            have hc2 := (blk_cell HR2.out 2).trans (show _ = some (Value.int .i64 0) from rfl)
            have hf0 := blk_frozen HR2.out 0
            have hf1 := blk_frozen HR2.out 1
            have hf2 := blk_frozen HR2.out 2
            go_wp2_with (fail)
            have hb3 := blk_put (blk_put (blk_put HR2.out 0 (.int .i64 0) rfl) 1 (.int .i64 0) rfl) 2 (.int .i64 0) rfl
            refine bodyPost_ret (results_ct rfl _ _ B _ _ _ _ rfl hb3 Tryd.underlying55 rfl (by kernel_rfl)) rfl ?_
            exact ⟨⟨⟨0, 0, 0⟩, false, rfl, HNO.out⟩, ((HF2.out.set _ (fun h => absurd h (by omega))).set _ (fun h => absurd h (by omega))).set _ (fun h => absurd h (by omega))⟩
          · have hv1 : (s.size : Int) ≤ i1 := by omega
            clear hv
            have hc0 := (blk_cell HR2.out 0).trans (show _ = some (Value.int .i64 0) from rfl)
            have hc1 := (blk_cell HR2.out 1).trans (show _ = some (Value.int .i64 0) from rfl)
            have hc2 := (blk_cell HR2.out 2).trans (show _ = some (Value.int .i64 0) from rfl)
            have hf0 := blk_frozen HR2.out 0
            have hf1 := blk_frozen HR2.out 1
            have hf2 := blk_frozen HR2.out 2
            go_wp2_with (fail)
            have hb3 := blk_put (blk_put (blk_put HR2.out 0 (.int .i64 0) rfl) 1 (.int .i64 0) rfl) 2 (.int .i64 0) rfl
            refine bodyPost_ret (results_ct rfl _ _ B _ _ _ _ rfl hb3 Tryd.underlying55 rfl (by kernel_rfl)) rfl ?_
            exact ⟨⟨⟨0, 0, 0⟩, false, rfl, HNO.out⟩, ((HF2.out.set _ (fun h => absurd h (by omega))).set _ (fun h => absurd h (by omega))).set _ (fun h => absurd h (by omega))⟩
        case pos =>
        obtain ⟨hv0, hv1⟩ := hv
        obtain ⟨m1, rfl⟩ : ∃ m : Nat, n1 = m := ⟨n1.toNat, by omega⟩
        obtain ⟨j1, rfl⟩ : ∃ m : Nat, i1 = m := ⟨i1.toNat, by omega⟩
        have hv2 : ¬ (m1 : Int) < 0 := by omega
        have hv3 : ¬ (s.size : Int) ≤ (j1 : Int) := by omega
        go_wp2_with (fail)
        have hrn := rnumber_any W2 s (j1 + 1) (by omega) hsz (HP.out.go HF2.out)
        rw [show ((j1 + 1 : Nat) : Int) = (j1 : Int) + 1 by omega] at hrn
        refine hrn.mono ?_
        rintro e W3 ⟨⟨n2, i2, rfl, hr2, hr2'⟩, hF⟩
        have HN2 := Aside0.mk (fun u (hg : Good ns src 0 u) (hu : lineS ns src u = s) => show n2 = u.f2 from by
          have h1 := HAT.out u hu
          have h2 := HPT.out u hu
          obtain ⟨b1, b2, b3⟩ := HN1.out u hg hu
          obtain ⟨g0, g1, g2, g3, g4, g5⟩ := hg
          have := (hr2' u.f2.toNat ((rdOf ByteArray.empty ns u.f0).data.toList ++ 32 :: (Lib.decDigits u.f1.toNat ++ [32])) ((quoteF (src.extract u.f1.toNat u.f2.toNat)).1.data.toList ++ [10]) 32 (by rw [h2]; simp) (by simp only [List.length_append, List.length_cons, List.length_nil]; omega) (by decide) (by omega)).1
          omega)
        have HF3 := Aside0.mk (HF2.out.trans hF (fun _ _ h => h))
        have HR3 := Aside0.mk (hF.blk HR2.out id)
        clear hF HF2 HR2 hr2' hrn
        have hn2 : -1 ≤ n2 ∧ n2 < 10995116277760 := by omega
        by_cases hv : (m1 : Int) ≤ n2 ∧ n2 ≤ src.size ∧ n2 - m1 ≤ 4096
        case neg =>
          have HNO := Aside0.mk (show OneIs ns src s ⟨0, 0, 0⟩ false from ⟨fun h => (by cases h), fun u hg hu => by
            have h1 := HN1.out u hg hu
            have h2 := HN2.out u hg hu
            obtain ⟨g0, g1, g2, g3, g4, g5⟩ := hg
            have g5 := of_decide_eq_true g5
            exact absurd ⟨by omega, by omega, by omega⟩ hv⟩)
          by_cases hv4 : n2 < m1
          · clear hv
            have hc0 := (blk_cell HR3.out 0).trans (show _ = some (Value.int .i64 0) from rfl)
            have hc1 := (blk_cell HR3.out 1).trans (show _ = some (Value.int .i64 0) from rfl)
            have hc2 := (blk_cell HR3.out 2).trans (show _ = some (Value.int .i64 0) from rfl)
            have hf0 := blk_frozen HR3.out 0
            have hf1 := blk_frozen HR3.out 1
            have hf2 := blk_frozen HR3.out 2
            go_wp2_with (fail)
            have hb3 := blk_put (blk_put (blk_put HR3.out 0 (.int .i64 0) rfl) 1 (.int .i64 0) rfl) 2 (.int .i64 0) rfl
            refine bodyPost_ret (results_ct rfl _ _ B _ _ _ _ rfl hb3 Tryd.underlying55 rfl (by kernel_rfl)) rfl ?_
            exact ⟨⟨⟨0, 0, 0⟩, false, rfl, HNO.out⟩, ((HF3.out.set _ (fun h => absurd h (by omega))).set _ (fun h => absurd h (by omega))).set _ (fun h => absurd h (by omega))⟩
          · by_cases hv5 : (src.size : Int) < n2
            · clear hv
              have hc0 := (blk_cell HR3.out 0).trans (show _ = some (Value.int .i64 0) from rfl)
              have hc1 := (blk_cell HR3.out 1).trans (show _ = some (Value.int .i64 0) from rfl)
              have hc2 := (blk_cell HR3.out 2).trans (show _ = some (Value.int .i64 0) from rfl)
              have hf0 := blk_frozen HR3.out 0
              have hf1 := blk_frozen HR3.out 1
              have hf2 := blk_frozen HR3.out 2
              go_wp2_with (fail)
              have hb3 := blk_put (blk_put (blk_put HR3.out 0 (.int .i64 0) rfl) 1 (.int .i64 0) rfl) 2 (.int .i64 0) rfl
              refine bodyPost_ret (results_ct rfl _ _ B _ _ _ _ rfl hb3 Tryd.underlying55 rfl (by kernel_rfl)) rfl ?_
              exact ⟨⟨⟨0, 0, 0⟩, false, rfl, HNO.out⟩, ((HF3.out.set _ (fun h => absurd h (by omega))).set _ (fun h => absurd h (by omega))).set _ (fun h => absurd h (by omega))⟩
            · have hv6 : (4096 : Int) < n2 - m1 := by omega
              clear hv
              have hc0 := (blk_cell HR3.out 0).trans (show _ = some (Value.int .i64 0) from rfl)
              have hc1 := (blk_cell HR3.out 1).trans (show _ = some (Value.int .i64 0) from rfl)
              have hc2 := (blk_cell HR3.out 2).trans (show _ = some (Value.int .i64 0) from rfl)
              have hf0 := blk_frozen HR3.out 0
              have hf1 := blk_frozen HR3.out 1
              have hf2 := blk_frozen HR3.out 2
              go_wp2_with (fail)
              have hb3 := blk_put (blk_put (blk_put HR3.out 0 (.int .i64 0) rfl) 1 (.int .i64 0) rfl) 2 (.int .i64 0) rfl
              refine bodyPost_ret (results_ct rfl _ _ B _ _ _ _ rfl hb3 Tryd.underlying55 rfl (by kernel_rfl)) rfl ?_
              exact ⟨⟨⟨0, 0, 0⟩, false, rfl, HNO.out⟩, ((HF3.out.set _ (fun h => absurd h (by omega))).set _ (fun h => absurd h (by omega))).set _ (fun h => absurd h (by omega))⟩
        case pos =>
        obtain ⟨hv4, hv5, hv6⟩ := hv
        obtain ⟨m2, rfl⟩ : ∃ m : Nat, n2 = m := ⟨n2.toNat, by omega⟩
        have hln : ∀ W, Fr (fun _ => False) W3 W → Calls Tryd.prog 39 #[.slice A ns.length cp, .string src, .agg #[.int .i64 k, .int .i64 (m1 : Int), .int .i64 (m2 : Int)]] W fun e w' => e = .returned (.string (lineS ns src ⟨k, m1, m2⟩)) ∧ Fr (fun _ => False) W w' := by
          intro W hF
          have hF0 := HF3.out.trans hF (fun _ _ h => h)
          have h := rline_any W ns A cp (Kd.C_below HA.out hF0.to_below) src k.toNat m1 m2 (by omega) (name_size HK.out _) (by omega) (by omega) (by omega) (itc_of (HP.out.go hF0)) ⟨itB_size (by omega), itB_size (by omega)⟩
          rw [Int.toNat_of_nonneg (show 0 ≤ k by omega)] at h
          exact h
        have HLN := Aside0.mk hln
        have HFIT := Aside0.mk (show fitT ⟨k, m1, m2⟩ = true from decide_eq_true hv6)
        have HGO := Aside0.mk (fun u (hg : Good ns src 0 u) (hu : lineS ns src u = s) => show (⟨k, m1, m2⟩ : S55) = u from by
          have h0 := (HNM.out u hg hu).2
          have h1 := (HN1.out u hg hu).1
          have h2 := HN2.out u hg hu
          obtain ⟨x0, x1, x2⟩ := u
          simp only at h0 h1 h2
          rw [h0, h1, h2])
        clear hln
        have HF4 := Aside0.mk (HF3.out.alloc (.cells #[.int .i64 k, .int .i64 (m1 : Int), .int .i64 (m2 : Int)] 55))
        have HR4 := Aside0.mk (blk_alloc HR3.out (.cells #[.int .i64 k, .int .i64 (m1 : Int), .int .i64 (m2 : Int)] 55))
        have HT4 := Aside0.mk (blk_new W3 (.cells #[.int .i64 k, .int .i64 (m1 : Int), .int .i64 (m2 : Int)] 55))
        have HA4 := Aside0.mk ((Fr.refl (fun _ => False) W3).alloc (.cells #[.int .i64 k, .int .i64 (m1 : Int), .int .i64 (m2 : Int)] 55))
        have d1 : ¬ (m2 : Int) < m1 := by omega
        have d2 : ¬ (src.size : Int) < m2 := by omega
        have d3 : ¬ (4096 : Int) < (m2 : Int) - m1 := by omega
        clear HF3 HR3
        go_upto_region 14 with (fail)
        obtain ⟨W4, hW4⟩ : ∃ W, W3.alloc (.cells #[.int .i64 k, .int .i64 (m1 : Int), .int .i64 (m2 : Int)] 55) = W := ⟨_, rfl⟩
        obtain ⟨b4, hb4⟩ : ∃ b, W3.heap.size = b := ⟨_, rfl⟩
        rw [hW4] at HF4 HR4 HT4 HA4
        rw [hb4] at HT4
        simp only [hW4, hb4]
        clear hW4 hb4
        have z0 := (blk_cell HT4.out 0).trans (show _ = some (Value.int .i64 k) from rfl)
        have z1 := (blk_cell HT4.out 1).trans (show _ = some (Value.int .i64 (m1 : Int)) from rfl)
        have z2 := (blk_cell HT4.out 2).trans (show _ = some (Value.int .i64 (m2 : Int)) from rfl)
        obtain ⟨ln, hlne⟩ : ∃ x, lineS ns src ⟨k, m1, m2⟩ = x := ⟨_, rfl⟩
        rw [hlne] at HLN
        have HLE := Aside0.mk hlne
        clear hlne
        refine wp_region_last_drew (S := fun w' => w'.cell? ⟨b4, 0, none⟩ = some (.int .i64 k) ∧ w'.cell? ⟨b4, 1, none⟩ = some (.int .i64 (m1 : Int)) ∧ w'.cell? ⟨b4, 2, none⟩ = some (.int .i64 (m2 : Int))) (ds := [7]) (by kernel_rfl) ⟨z0, z1, z2⟩ (fun hHeld => ?_)
        refine tk 0 ?_
        refine tk 1 ?_
        refine tk 2 ?_
        refine tk 3 ?_
        refine pu 5 ?_
        refine on 4 (fun K hK => ?_)
        go_simp
        refine (HLN.out _ (HA4.out.trans (Fr.refl (fun _ => False) W4).drew (fun _ _ h => h))).mono ?_
        rintro e W5 ⟨rfl, hF⟩
        have HFW := Aside0.mk (((Fr.refl (fun _ => False) W4).drew).trans hF (fun _ _ h => h))
        clear hF
        dsimp only
        refine hK.out _ _ ⟨HFW.out.cell z0 id, HFW.out.cell z1 id, HFW.out.cell z2 id⟩ (fun hHeld => ?_)
        clear hK K
        try simp only [Act.put, List.setIfInBounds_toArray, List.set_cons_zero, List.set_cons_succ]
        have HR5 := Aside0.mk (HFW.out.blk HR4.out id)
        have HF5 := Aside0.mk (HF4.out.trans HFW.out (fun _ _ h => h))
        have hc0 := (blk_cell HR5.out 0).trans (show _ = some (Value.int .i64 0) from rfl)
        have hc1 := (blk_cell HR5.out 1).trans (show _ = some (Value.int .i64 0) from rfl)
        have hc2 := (blk_cell HR5.out 2).trans (show _ = some (Value.int .i64 0) from rfl)
        have hf0 := blk_frozen HR5.out 0
        have hf1 := blk_frozen HR5.out 1
        have hf2 := blk_frozen HR5.out 2
        have HB5 := Aside0.mk (blk_put (blk_put (blk_put HR5.out 0 (.int .i64 k) rfl) 1 (.int .i64 (m1 : Int)) rfl) 2 (.int .i64 (m2 : Int)) rfl)
        by_cases he : ln = s
        · have HX := Aside0.mk he
          have hq : (ln.toList == s.toList) = true := by rw [he]; simp
          clear he
          refine pu (v := .bool true) 6 ?_
          refine onl 7 (fun K hK => ?_)
          go_simp
          refine hK.out _ _ ?_
          clear hK K
          try simp only [Act.put, List.setIfInBounds_toArray, List.set_cons_zero, List.set_cons_succ]
          refine pu 8 ?_
          refine dn ?_
          go_wp2_with (fail)
          refine bodyPost_ret (results_ct rfl _ _ B _ _ _ _ rfl HB5.out Tryd.underlying55 rfl (by kernel_rfl)) rfl ?_
          exact ⟨⟨⟨k, m1, m2⟩, true, rfl, fun _ => ⟨hk01, hk02, (by simp), hv4, hv5, HFIT.out, HLE.out.trans HX.out⟩, fun u hg hu => ⟨HGO.out u hg hu, rfl⟩⟩, ((HF5.out.set _ (fun h => absurd h (by omega))).set _ (fun h => absurd h (by omega))).set _ (fun h => absurd h (by omega))⟩
        · have HX := Aside0.mk he
          have hq : (ln.toList == s.toList) = false := by
            rw [beq_eq_false_iff_ne]
            exact fun e => he (toList_inj e)
          clear he
          refine pu (v := .bool false) 6 ?_
          refine onl 7 (fun K hK => ?_)
          go_simp
          refine hK.out _ _ ?_
          clear hK K
          try simp only [Act.put, List.setIfInBounds_toArray, List.set_cons_zero, List.set_cons_succ]
          refine pu 8 ?_
          refine dn ?_
          go_wp2_with (fail)
          refine bodyPost_ret (results_ct rfl _ _ B _ _ _ _ rfl HB5.out Tryd.underlying55 rfl (by kernel_rfl)) rfl ?_
          exact ⟨⟨⟨k, m1, m2⟩, false, rfl, fun h => (by cases h), fun u hg hu => absurd (by rw [← HLE.out, HGO.out u hg hu]; exact hu) HX.out⟩, ((HF5.out.set _ (fun h => absurd h (by omega))).set _ (fun h => absurd h (by omega))).set _ (fun h => absurd h (by omega))⟩
end Go.Proofs.YtagokdbpgljgjaaDoor.Tok
/-
Any lines read, by the document: quoinref07.Read, walked.
-/
set_option linter.unusedSimpArgs false
set_option linter.unusedVariables false
namespace Go.Proofs.YtagokdbpgljgjaaDoor.Tok
open Go.RowKit Go.Proofs.YtagokdbpgljgjaaDoorW.PrintWords Go.Proofs.YtagokdbpgljgjaaDoorW.PrintLast Go.Proofs.YtagokdbpgljgjaaDoorW.PrintMore Go.Proofs.YtagokdbpgljgjaaDoor.Fr Go.Proofs.YtagokdbpgljgjaaDoor.PGramFirsts Go.Proofs.YtagokdbpgljgjaaDoor.TextSet Go.Proofs.YtagokdbpgljgjaaDoor.Bld Go.Proofs.YtagokdbpgljgjaaDoor.Utf
theorem behind_next (l : List S55) (t : S55) : behind (l ++ [t]) (l.length + 1) = t.f2 := by
  unfold behind
  rw [if_neg (by omega), show ((l.length + 1 - 1 : Nat) : Int) = (l.length : Int) by omega]
  simp [rd_T55]
theorem behind_app (l : List S55) (t : S55) : behind (l ++ [t]) l.length = behind l l.length := by
  unfold behind
  split
  · rfl
  · rename_i h
    simp only [rd_T55, List.getD_eq_getElem?_getD, Int.toNat_natCast]
    rw [List.getElem?_append_left (by omega)]
theorem rd_last (l : List S55) (t : S55) : rd_T55 (l ++ [t]) (l.length : Int) = t := by simp [rd_T55]
theorem right_any (w : World) (kinds : Nat) (src : ByteArray) (l : List S55) (A : Option Addr) (c : Nat) (hl : l.length ≤ 65536) (hC : Kd.C k55 w A l.length l) (hc : l.length ≤ c) (i : Nat) (hi : i < l.length) :
    Calls Tryd.prog 33 #[.int .i64 kinds, .string src, .slice A l.length c, .int .i64 i] w fun e w' => e = .returned (.bool (rightT kinds src.size (behind l i) (rd_T55 l i))) ∧ Fr (fun _ => False) w w' :=
  (quoinref07_right.calls kinds src A c l i _ w hC hc (right_some kinds src l hl i hi)).mono fun e w' ⟨h, hb⟩ => ⟨h, Fr.of_below hb⟩
set_option maxHeartbeats 8000000 in
set_option maxRecDepth 100000 in
theorem rread_any (w : World) (ns : List ByteArray) (A : Option Addr) (cp : Nat) (hA : Kd.string.C w A ns.length ns) (hcp : ns.length ≤ cp) (hs : ∀ s, s ∈ ns → s.size ≤ maxLen) (src : ByteArray) (hsr : src.size < 10995116277760) (X : ByteArray) (hX : X.size ≤ 1099511627776) (hP : Pow w) :
    Calls Tryd.prog 21 #[.slice A ns.length cp, .string src, .string X] w fun e w' => (∃ v L why at_, e = .returned (.tuple #[v, .int .i64 why, .int .i64 at_]) ∧ k55.R 55 w' w.heap.size (fun _ => True) v L ∧ ReadIs ns src X.data.toList L why at_) ∧ Fr (fun _ => False) w w' := by
  have hmn := Kd.C_max hA
  obtain ⟨kb, hkb, hkf⟩ := kinds_fin ns hs
  go_enter Tryd.func21, Tryd.ntmps21
  have HA := Aside0.mk hA
  have HP := Aside0.mk hP
  have HSS := Aside0.mk hs
  have HXZ := Aside0.mk (show X.data.toList.length = X.size by simp)
  clear hA hP hs
  go_wp2_with (fail)
  refine (refkinds_calls w ns A cp HA.out hcp kb hkf).mono ?_
  rintro e W1 ⟨rfl, hF⟩
  have HF1 := Aside0.mk hF
  clear hF hkf
  cases kb with
  | false =>
    have HNK := Aside0.mk (show ¬ KindsOk ns from fun h => by have := hkb.2 h; cases this)
    clear hkb
    go_wp2_with (fail)
    refine bodyPost_ret (results_tmp3 rfl _ _ _) rfl ?_
    exact ⟨⟨_, [], 70, 0, rfl, Kd.R_nil _ _ _ _ _, .inl ⟨HNK.out, rfl, rfl, rfl⟩⟩, HF1.out⟩
  | true =>
  have HK := Aside0.mk (hkb.1 rfl)
  have h2k := (hkb.1 rfl).max
  clear hkb
  go_wp2_with (fail)
  have HRD0 := Aside0.mk (show ∀ l r, Rd ns src ([] : List S55).length (behind [] 0) (X.data.toList.drop 0) l r → Rd ns src 0 0 X.data.toList ([] ++ l) r from fun l r h => h)
  go_loopw [9, 10] (fun b a W => ∃ (at_ : Nat) (out : List S55), a = .int .i64 (at_ : Int) ∧ at_ ≤ X.size ∧ out.length ≤ 65536 ∧ 0 ≤ behind out out.length ∧ Aside0 (Fr (fun _ => False) w W) ∧ Aside0 (k55.R 55 W w.heap.size (fun _ => True) b out) ∧ Aside0 (∀ l r, Rd ns src out.length (behind out out.length) (X.data.toList.drop at_) l r → Rd ns src 0 0 X.data.toList (out ++ l) r)) (fun _ a _ => X.size - (intOf a).toNat)
  case atStart => exact ⟨0, [], rfl, Nat.zero_le _, by simp, (by decide), HF1, Aside0.mk (Kd.R_nil _ _ _ _ _), HRD0⟩
  case round =>
    clear HF1 HRD0
    obtain ⟨at_, out, rfl, ha, ho, hb0, HF, HV, HRD⟩ := hrel
    obtain ⟨A3, k3, hv3⟩ := Kd.R_slice HV.out
    subst hv3
    by_cases hat : at_ < X.size
    case neg =>
      have hd1 : ¬ (at_ : Int) < (X.size : Int) := by omega
      have HD := Aside0.mk (HRD.out _ _ (by rw [List.drop_of_length_le (by rw [HXZ.out]; omega)]; exact Rd.done))
      go_wp2_with (fail)
      refine bodyPost_ret (results_tmp3 rfl _ _ _) rfl ?_
      exact ⟨⟨_, out, 0, 0, rfl, HV.out, .inr ⟨HK.out, out ++ [], none, HD.out, .inl ⟨rfl, by simp, rfl, rfl⟩⟩⟩, HF.out⟩
    case pos =>
    have HN0 := Aside0.mk (show (10 : UInt8) ∉ (X.data.toList.drop at_).take (at_ - at_) from by simp)
    go_wp2_with (fail)
    go_loopw [11] (fun a W => ∃ i : Nat, a = .int .i64 (i : Int) ∧ at_ ≤ i ∧ i ≤ X.size ∧ Aside0 ((10 : UInt8) ∉ (X.data.toList.drop at_).take (i - at_)) ∧ W = wr) (fun a _ => X.size - (intOf a).toNat)
    case atStart => exact ⟨at_, rfl, Nat.le_refl _, ha, HN0, rfl⟩
    case round =>
      clear HN0
      obtain ⟨i, rfl, hai, hi, HN, rfl⟩ := hrel
      by_cases hg : ∃ hx : i < X.size, X[i]'hx ≠ 10
      · obtain ⟨hx, hb⟩ := hg
        obtain ⟨b, hbe⟩ : ∃ b, X[i]'hx = b := ⟨_, rfl⟩
        rw [hbe] at hb
        have hb10 : ¬ (b.toNat : Int) = 10 := fun e => hb (UInt8.toNat_inj.1 (by show b.toNat = 10; omega))
        have HN1 := Aside0.mk (show (10 : UInt8) ∉ (X.data.toList.drop at_).take (i + 1 - at_) from by
          rw [show i + 1 - at_ = (i - at_) + 1 by omega, List.take_add_one]
          have e : (X.data.toList.drop at_)[i - at_]? = some b := by
            rw [List.getElem?_drop, show at_ + (i - at_) = i by omega, ← hbe, ByteArray.getElem_eq_getElem_data]
            simp
          rw [e]
          simp only [Option.toList, List.mem_append, List.mem_singleton, not_or]
          exact ⟨HN.out, fun e => hb e.symm⟩)
        clear HN hb
        go_wp2_with (fail)
        exact ⟨⟨i + 1, (by go_num), by omega, by omega, HN1, trivial⟩, by simp [intOf]; omega⟩
      · by_cases hx : i < X.size
        · have hb : X[i]'hx = 10 := by
            by_cases c : X[i]'hx = 10
            · exact c
            · exact absurd ⟨hx, c⟩ hg
          have HDR := Aside0.mk (show X.data.toList.drop at_ = (X.data.toList.drop at_).take (i - at_) ++ 10 :: X.data.toList.drop (i + 1) from by
            have e1 : X.data.toList.drop i = 10 :: X.data.toList.drop (i + 1) := by
              rw [List.drop_eq_getElem_cons (by rw [HXZ.out]; exact hx)]
              congr 1
            rw [← e1, show X.data.toList.drop i = (X.data.toList.drop at_).drop (i - at_) by rw [List.drop_drop, show at_ + (i - at_) = i by omega], List.take_append_drop])
          have HPC := Aside0.mk (show (X.extract at_ (i + 1)).data.toList = (X.data.toList.drop at_).take (i - at_) ++ [10] from by
            have e := HDR.out
            rw [Lib.extract_data, show i + 1 - at_ = (i - at_) + 1 by omega]
            have hl : ((X.data.toList.drop at_).take (i - at_)).length = i - at_ := by
              rw [List.length_take, List.length_drop, HXZ.out]
              omega
            generalize (X.data.toList.drop at_).take (i - at_) = p at e hl ⊢
            rw [e, List.take_append, hl, show i - at_ + 1 - (i - at_) = 1 by omega, List.take_of_length_le (by omega)]
            rfl)
          obtain ⟨x, hxe⟩ : ∃ x, (X.data.toList.drop at_).take (i - at_) = x := ⟨_, rfl⟩
          obtain ⟨y, hye⟩ : ∃ y, X.data.toList.drop (i + 1) = y := ⟨_, rfl⟩
          rw [hxe, hye] at HDR
          rw [hxe] at HPC HN
          have HYE := Aside0.mk hye
          have HRD' := Aside0.mk (show ∀ l r, Rd ns src out.length (behind out out.length) (x ++ 10 :: y) l r → Rd ns src 0 0 X.data.toList (out ++ l) r from by rw [← HDR.out]; exact HRD.out)
          obtain ⟨u, hue⟩ : ∃ u, X.extract at_ (i + 1) = u := ⟨_, rfl⟩
          rw [hue] at HPC
          have hu1 : u.size ≤ 1099511627776 := by
            rw [← hue]
            simp
            omega
          have HUE := Aside0.mk hue
          have hd1 : (i : Int) < (X.size : Int) := by omega
          have e12 : (at_ : Int).toNat = at_ := by omega
          have e13 : ((i : Int) + 1).toNat = i + 1 := by omega
          clear HRD hxe hye hue HDR hg
          go_wp2_with (fail)
          rw [HUE.out]
          refine (one_any wr ns A cp (Kd.C_below HA.out HF.out.to_below) hcp HK.out HSS.out src hsr u hu1 (HP.out.go HF.out)).mono ?_
          rintro e W2 ⟨⟨t, b, rfl, hone⟩, hF⟩
          have HF2 := Aside0.mk (HF.out.trans hF (fun _ _ h => h))
          have HV2 := Aside0.mk (Kd.R_below HV.out hF.to_below)
          have HONE := Aside0.mk hone
          clear hF HF HV hone
          have HF3 := Aside0.mk (HF2.out.alloc (.cells #[.int .i64 t.f0, .int .i64 t.f1, .int .i64 t.f2] 55))
          have HT3 := Aside0.mk (blk_new W2 (.cells #[.int .i64 t.f0, .int .i64 t.f1, .int .i64 t.f2] 55))
          have HV3 := Aside0.mk (Kd.R_below HV2.out ((Fr.refl (fun _ => False) W2).alloc (.cells #[.int .i64 t.f0, .int .i64 t.f1, .int .i64 t.f2] 55)).to_below)
          clear HF2 HV2
          go_upto_region 13 with (fail)
          obtain ⟨W3, hW3⟩ : ∃ W, W2.alloc (.cells #[.int .i64 t.f0, .int .i64 t.f1, .int .i64 t.f2] 55) = W := ⟨_, rfl⟩
          obtain ⟨b3, hb3⟩ : ∃ b, W2.heap.size = b := ⟨_, rfl⟩
          rw [hW3] at HF3 HT3 HV3
          rw [hb3] at HT3
          simp only [hW3, hb3]
          clear hW3 hb3
          have z0 := (blk_cell HT3.out 0).trans (show _ = some (Value.int .i64 t.f0) from rfl)
          have z1 := (blk_cell HT3.out 1).trans (show _ = some (Value.int .i64 t.f1) from rfl)
          have z2 := (blk_cell HT3.out 2).trans (show _ = some (Value.int .i64 t.f2) from rfl)
          have hwb : w.heap.size ≤ W3.heap.size := HF3.out.size
          go_upto_region 14 with (at_builtin; go_must (refine Kd.R_append k55 (w0 := W3) w.heap.size rfl (.tmp 53) (.tmp 55) 23 55 (.agg #[(.int .i64 0), (.int .i64 0), (.int .i64 0)]) 24 rfl Tryd.underlying23 info55 rfl (by decide) (by omega) (.slice A3 out.length k3) out t [.int .i64 t.f0, .int .i64 t.f1, .int .i64 t.f2] (fun _ => True) (fun _ => False) rfl rfl (k55_mkM _ _ _ t) (fun _ hk => hk.elim) (fun _ _ => trivial) HV3.out (Below.refl _ _) hwb (by omega) ?_; intro v2 w2 h1 hb h2 _; have HV4 := Aside0.mk h1; have HF4 := Aside0.mk (HF3.out.grown h2 (fun _ h hx => absurd (Kd.R_base HV3.out _ h) (by omega))); clear h1 h2 hb))
          obtain ⟨A4, k4, hv4⟩ := Kd.R_slice HV4.out
          have hol : (out ++ [t]).length = out.length + 1 := by simp
          rw [hol] at hv4
          subst hv4
          have HOL := Aside0.mk hol
          clear z0 z1 z2 HT3 HV3 HF3 hol
          have HLO := Aside0.mk (fun v (hv : (bodyS ns src v).data.toList = x) => show lineS ns src v = u from by
            refine data_inj ?_
            rw [lineS_body, data_append, hv, HPC.out])
          cases b with
          | false =>
            have HBAD := Aside0.mk (HRD'.out _ _ (Rd.bad x y HN.out (.inr (by
              rintro ⟨v, hg, hb⟩
              have := (HONE.out.2 v ⟨hg.1, hg.2.1, by have := hg.2.2.1; omega, hg.2.2.2⟩ (HLO.out v hb)).2
              cases this))))
            clear HRD' HV4
            go_wp2_with (fail)
            refine bodyPost_ret (results_tmp3 rfl _ _ _) rfl ?_
            exact ⟨⟨_, [], 5, (out.length : Int), rfl, Kd.R_nil _ _ _ _ _, .inr ⟨HK.out, _, _, HBAD.out, .inr ⟨out.length, rfl, rfl, rfl, rfl⟩⟩⟩, HF4.out⟩
          | true =>
          by_cases hn : out.length < 65536
          case neg =>
            have hn1 : (65536 : Int) ≤ (out.length : Int) := by omega
            have HBAD := Aside0.mk (HRD'.out _ _ (Rd.bad x y HN.out (.inl (by omega))))
            clear HRD' HV4
            go_wp2_with (fail)
            refine bodyPost_ret (results_tmp3 rfl _ _ _) rfl ?_
            exact ⟨⟨_, [], 5, (out.length : Int), rfl, Kd.R_nil _ _ _ _ _, .inr ⟨HK.out, _, _, HBAD.out, .inr ⟨out.length, rfl, rfl, rfl, rfl⟩⟩⟩, HF4.out⟩
          case pos =>
          have hn1 : ¬ (65536 : Int) ≤ (out.length : Int) := by omega
          have hrr := right_any w2 ns.length src (out ++ [t]) A4 k4 (by rw [HOL.out]; omega) (by first | exact (Kd.R_reads' HV4.out).2.2 | (rw [HOL.out]; exact (Kd.R_reads' HV4.out).2.2)) (by first | exact (Kd.R_reads' HV4.out).2.1 | (rw [HOL.out]; exact (Kd.R_reads' HV4.out).2.1)) out.length (by rw [HOL.out]; omega)
          rw [behind_app, rd_last, HOL.out] at hrr
          have HRR := Aside0.mk hrr
          have HNX := Aside0.mk (behind_next out t)
          have hone1 := HONE.out.1 rfl
          have HFIT := Aside0.mk hone1.2.2.2.2.2
          have hb5 : t.f2 ≤ src.size := hone1.2.2.2.2.1
          have hb6 : 0 ≤ t.f2 := by omega
          have hrt : rightT ns.length src.size (behind out out.length) t = true ↔ Good ns src (behind out out.length) t := by
            unfold rightT Good
            rw [decide_eq_true_iff]
            exact ⟨fun h => ⟨h.1, h.2.1, h.2.2.1, h.2.2.2.1, h.2.2.2.2, HFIT.out.1⟩, fun h => ⟨h.1, h.2.1, h.2.2.1, h.2.2.2.1, h.2.2.2.2.1⟩⟩
          have HRT := Aside0.mk hrt
          clear hrr hrt hone1
          generalize rightT ns.length src.size (behind out out.length) t = rt at HRR HRT
          go_wp2_with (fail)
          refine HRR.out.mono ?_
          rintro e W5 ⟨rfl, hF⟩
          have HF5 := Aside0.mk (HF4.out.trans hF (fun _ _ h => h))
          have HV5 := Aside0.mk (Kd.R_below HV4.out hF.to_below)
          clear hF HF4 HV4 HRR
          cases rt with
          | false =>
            have HF4 := HF5
            have HBAD := Aside0.mk (HRD'.out _ _ (Rd.bad x y HN.out (.inr (by
              rintro ⟨v, hg, hb⟩
              have := (HONE.out.2 v ⟨hg.1, hg.2.1, by have := hg.2.2.1; omega, hg.2.2.2⟩ (HLO.out v hb)).1
              subst this
              have := HRT.out.2 hg
              cases this))))
            clear HRD' HV5
            go_wp2_with (fail)
            refine bodyPost_ret (results_tmp3 rfl _ _ _) rfl ?_
            exact ⟨⟨_, [], 5, (out.length : Int), rfl, Kd.R_nil _ _ _ _ _, .inr ⟨HK.out, _, _, HBAD.out, .inr ⟨out.length, rfl, rfl, rfl, rfl⟩⟩⟩, HF4.out⟩
          | true =>
          have HRD2 := Aside0.mk (show ∀ l r, Rd ns src (out ++ [t]).length (behind (out ++ [t]) (out ++ [t]).length) (X.data.toList.drop (i + 1)) l r → Rd ns src 0 0 X.data.toList ((out ++ [t]) ++ l) r from by
            intro l r h
            rw [HOL.out, HNX.out, HYE.out] at h
            rw [List.append_assoc]
            refine HRD'.out _ _ (Rd.tok x y t l r HN.out hn (HRT.out.1 rfl) ?_ h)
            have h1 := congrArg (fun b : ByteArray => b.data.toList) HFIT.out.2
            simp only [lineS_body, data_append, HPC.out] at h1
            exact List.append_cancel_right h1)
          have hbn : 0 ≤ behind (out ++ [t]) (out ++ [t]).length := by rw [HOL.out, HNX.out]; exact hb6
          clear HRD'
          go_wp2_with (fail)
          exact ⟨⟨i + 1, out ++ [t], (by go_num), by omega, by rw [HOL.out]; omega, hbn, HF5, HV5, HRD2⟩, by simp [intOf]; omega⟩
        · have hxs : i = X.size := by omega
          subst hxs
          have HNL := Aside0.mk (show (10 : UInt8) ∉ X.data.toList.drop at_ from by
            have := HN.out
            rwa [List.take_of_length_le (by rw [List.length_drop, HXZ.out]; omega)] at this)
          have HBAD := Aside0.mk (HRD.out _ _ (Rd.open_ _ (by
            intro e
            have := congrArg List.length e
            rw [List.length_drop, HXZ.out, List.length_nil] at this
            omega) HNL.out))
          have HPC := Aside0.mk (show (X.extract at_ X.size).data.toList = X.data.toList.drop at_ from by
            rw [Lib.extract_data, List.take_of_length_le (by rw [List.length_drop, HXZ.out]; omega)])
          obtain ⟨u, hue⟩ : ∃ u, X.extract at_ X.size = u := ⟨_, rfl⟩
          rw [hue] at HPC
          have hu1 : u.size ≤ 1099511627776 := by
            rw [← hue]
            simp
            omega
          have HUE := Aside0.mk hue
          have hd1 : ¬ (X.size : Int) < (X.size : Int) := by omega
          clear HRD hue hg
          go_wp2_with (fail)
          try rw [HUE.out]
          refine (one_any wr ns A cp (Kd.C_below HA.out HF.out.to_below) hcp HK.out HSS.out src hsr u hu1 (HP.out.go HF.out)).mono ?_
          rintro e W2 ⟨⟨t, b, rfl, hone⟩, hF⟩
          have HF2 := Aside0.mk (HF.out.trans hF (fun _ _ h => h))
          have HV2 := Aside0.mk (Kd.R_below HV.out hF.to_below)
          have HONE := Aside0.mk hone
          clear hF HF HV hone
          have HF3 := Aside0.mk (HF2.out.alloc (.cells #[.int .i64 t.f0, .int .i64 t.f1, .int .i64 t.f2] 55))
          have HT3 := Aside0.mk (blk_new W2 (.cells #[.int .i64 t.f0, .int .i64 t.f1, .int .i64 t.f2] 55))
          have HV3 := Aside0.mk (Kd.R_below HV2.out ((Fr.refl (fun _ => False) W2).alloc (.cells #[.int .i64 t.f0, .int .i64 t.f1, .int .i64 t.f2] 55)).to_below)
          clear HF2 HV2
          go_upto_region 13 with (fail)
          obtain ⟨W3, hW3⟩ : ∃ W, W2.alloc (.cells #[.int .i64 t.f0, .int .i64 t.f1, .int .i64 t.f2] 55) = W := ⟨_, rfl⟩
          obtain ⟨b3, hb3⟩ : ∃ b, W2.heap.size = b := ⟨_, rfl⟩
          rw [hW3] at HF3 HT3 HV3
          rw [hb3] at HT3
          simp only [hW3, hb3]
          clear hW3 hb3
          have z0 := (blk_cell HT3.out 0).trans (show _ = some (Value.int .i64 t.f0) from rfl)
          have z1 := (blk_cell HT3.out 1).trans (show _ = some (Value.int .i64 t.f1) from rfl)
          have z2 := (blk_cell HT3.out 2).trans (show _ = some (Value.int .i64 t.f2) from rfl)
          have hwb : w.heap.size ≤ W3.heap.size := HF3.out.size
          go_upto_region 14 with (at_builtin; go_must (refine Kd.R_append k55 (w0 := W3) w.heap.size rfl (.tmp 53) (.tmp 55) 23 55 (.agg #[(.int .i64 0), (.int .i64 0), (.int .i64 0)]) 24 rfl Tryd.underlying23 info55 rfl (by decide) (by omega) (.slice A3 out.length k3) out t [.int .i64 t.f0, .int .i64 t.f1, .int .i64 t.f2] (fun _ => True) (fun _ => False) rfl rfl (k55_mkM _ _ _ t) (fun _ hk => hk.elim) (fun _ _ => trivial) HV3.out (Below.refl _ _) hwb (by omega) ?_; intro v2 w2 h1 hb h2 _; have HV4 := Aside0.mk h1; have HF4 := Aside0.mk (HF3.out.grown h2 (fun _ h hx => absurd (Kd.R_base HV3.out _ h) (by omega))); clear h1 h2 hb))
          obtain ⟨A4, k4, hv4⟩ := Kd.R_slice HV4.out
          have hol : (out ++ [t]).length = out.length + 1 := by simp
          rw [hol] at hv4
          subst hv4
          have HOL := Aside0.mk hol
          clear z0 z1 z2 HT3 HV3 HF3 hol
          cases b with
          | false =>
            clear HV4
            go_wp2_with (fail)
            refine bodyPost_ret (results_tmp3 rfl _ _ _) rfl ?_
            exact ⟨⟨_, [], 5, (out.length : Int), rfl, Kd.R_nil _ _ _ _ _, .inr ⟨HK.out, _, _, HBAD.out, .inr ⟨out.length, rfl, rfl, rfl, rfl⟩⟩⟩, HF4.out⟩
          | true =>
            exfalso
            have h1 := congrArg (fun b : ByteArray => b.data.toList) (HONE.out.1 rfl).2.2.2.2.2.2
            simp only [lineS_body, data_append] at h1
            refine HNL.out ?_
            rw [← HPC.out, ← h1]
            exact List.mem_append_right _ (by simp)
end Go.Proofs.YtagokdbpgljgjaaDoor.Tok
/-
The law TokenReads, walked: whatever lines (of so many bytes), both Reads answer the same.
-/
set_option linter.unusedSimpArgs false
set_option linter.unusedVariables false
namespace Go.Proofs.YtagokdbpgljgjaaDoor.Tok
open Go.RowKit Go.Proofs.YtagokdbpgljgjaaDoorW.PrintWords Go.Proofs.YtagokdbpgljgjaaDoorW.PrintLast Go.Proofs.YtagokdbpgljgjaaDoorW.PrintMore Go.Proofs.YtagokdbpgljgjaaDoor.Fr Go.Proofs.YtagokdbpgljgjaaDoor.PGramFirsts Go.Proofs.YtagokdbpgljgjaaDoor.TextSet Go.Proofs.YtagokdbpgljgjaaDoor.Bld Go.Proofs.YtagokdbpgljgjaaDoor.Utf
theorem cutC_of {w : World} (hM : Mx w) {N : Nat} (hN : N < 4294967281) : CutC w N := by
  intro W hF s hs
  obtain ⟨m, hm⟩ := hM.fr hF (fun _ _ => id)
  refine (Tryd.strings_Cut s ⟨#[10]⟩ m W (by omega) hm).mono ?_
  rintro e W2 ⟨rfl, n2, rfl⟩
  exact ⟨rfl, (Fr.refl _ _).drewN _⟩
theorem splC_of {w : World} (hM : Mx w) {N : Nat} (hN : N < 4294967281) : SplC w N := by
  intro W hF s hs
  obtain ⟨m, hm⟩ := hM.fr hF (fun _ _ => id)
  refine (Tryd.strings_SplitN s ⟨#[32]⟩ 4 m W (by omega) hm (by decide) (by decide) (by decide)).mono ?_
  rintro e W2 ⟨rfl, rfl⟩
  refine ⟨⟨W.heap.size, _, rfl, ?_⟩, (Fr.refl _ _).alloc _⟩
  intro j x hj
  refine (blk_cell (blk_new W _) j).trans ?_
  have hj' : (Lib.splitB ⟨#[32]⟩ 0 (min 4 (s.size + 1) - 1) s)[j]? = some x := hj
  unfold Lib.cellsOf
  rw [List.getElem?_toArray, List.getElem?_append_left (by rw [List.length_map]; exact (List.getElem?_eq_some_iff.1 hj').1), List.getElem?_map, hj']
  rfl
theorem read_one {ns : List ByteArray} (hs : ∀ s, s ∈ ns → s.size ≤ maxLen) {src : ByteArray} (hsr : src.size ≤ 9223372036854775807) {l : List UInt8} {L L' : List S55} {a b a' b' : Int} (h : ReadIs ns src l L a b) (h' : ReadIs ns src l L' a' b') : L' = L ∧ a' = a ∧ b' = b := by
  rcases h with ⟨hn, rfl, rfl, rfl⟩ | ⟨hk, l0, r, hR, hc⟩
  · rcases h' with ⟨_, rfl, rfl, rfl⟩ | ⟨hk, _⟩
    · exact ⟨rfl, rfl, rfl⟩
    · exact absurd hk hn
  · rcases h' with ⟨hn, _⟩ | ⟨_, l0', r', hR', hc'⟩
    · exact absurd hk hn
    · obtain ⟨rfl, h2⟩ := hR.one hk hs hsr (Int.le_refl _) hR'
      rcases hc with ⟨rfl, rfl, rfl, rfl⟩ | ⟨k, rfl, rfl, rfl, rfl⟩
      · rcases hc' with ⟨_, rfl, rfl, rfl⟩ | ⟨k, hk', _⟩
        · exact ⟨(h2 rfl).symm, rfl, rfl⟩
        · cases hk'
      · rcases hc' with ⟨hk', _⟩ | ⟨k', hk', rfl, rfl, rfl⟩
        · cases hk'
        · injection hk' with hk'
          subst hk'
          exact ⟨rfl, rfl, rfl⟩
theorem read_len {ns : List ByteArray} {src : ByteArray} {l : List UInt8} {L : List S55} {a b : Int} (h : ReadIs ns src l L a b) : L.length ≤ 65536 := by
  rcases h with ⟨hn, rfl, rfl, rfl⟩ | ⟨hk, l0, r, hR, ⟨rfl, rfl, rfl, rfl⟩ | ⟨k, rfl, rfl, rfl, rfl⟩⟩
  · simp
  · have := (hR.lines rfl).2.1 (by omega)
    omega
  · simp
set_option maxHeartbeats 4000000 in
set_option maxRecDepth 100000 in
theorem reads_calls (w : World) (ns : List ByteArray) (A : Option Addr) (cn : Nat) (hA : Kd.string.C w A ns.length ns) (hcn : ns.length ≤ cn) (hs : ∀ s, s ∈ ns → s.size ≤ maxLen) (src : ByteArray) (hsr : src.size < 10995116277760) (X : ByteArray) (hX : X.size < 4294967281) (hE : Errs w) (hP : Pow w) (hM : Mx w) :
    Calls Tryd.prog 5 #[.slice A ns.length cn, .string src, .string X] w fun e w' => e = .returned (.bool true) ∧ Fr (fun _ => False) w w' := by
  have H1 := Aside0.mk (read_any w ns A cn hA hcn hs src (by omega) X (by omega) (cutC_of hM hX) (splC_of hM hX) hE hP)
  have H2 := Aside0.mk (fun W (hF : Fr (fun _ => False) w W) => rread_any W ns A cn (Kd.C_below hA hF.to_below) hcn hs src hsr X (by omega) (hP.go hF))
  have HM := Aside0.mk hM
  have HSS := Aside0.mk hs
  clear hA hs hE hP hM
  go_enter Tryd.func5, Tryd.ntmps5
  go_wp2_with (fail)
  refine H1.out.mono ?_
  rintro e W1 ⟨⟨v, L, why, at_, rfl, hv, hI⟩, hF1⟩
  obtain ⟨A1, c1, rfl⟩ := Kd.R_slice hv
  have HI := Aside0.mk hI
  have HF1 := Aside0.mk hF1
  have hF2 := hF1.alloc (.cells #[.int .i64 why, .int .i64 at_] 43)
  have HB2 := Aside0.mk (blk_new W1 (.cells #[.int .i64 why, .int .i64 at_] 43))
  have HV2 := Aside0.mk (Kd.R_below hv ((Fr.refl (fun _ => False) W1).alloc (.cells #[.int .i64 why, .int .i64 at_] 43)).to_below)
  have HF2 := Aside0.mk hF2
  clear hI hF1 hF2 hv H1 HF1
  go_upto_region 2 with (fail)
  obtain ⟨W2, hW2⟩ : ∃ W, W1.alloc (.cells #[.int .i64 why, .int .i64 at_] 43) = W := ⟨_, rfl⟩
  obtain ⟨b2, hb2⟩ : ∃ b, W1.heap.size = b := ⟨_, rfl⟩
  rw [hW2] at HB2 HV2 HF2
  rw [hb2] at HB2
  simp only [hW2, hb2]
  clear hW2 hb2
  go_wp2_with (fail)
  refine (H2.out W2 HF2.out).mono ?_
  rintro e W3 ⟨⟨v, L', why', at', rfl, hv, hI⟩, hF⟩
  obtain ⟨rfl, rfl, rfl⟩ := read_one HSS.out (by omega) HI.out hI
  have hlen := read_len hI
  obtain ⟨A3, c3, rfl⟩ := Kd.R_slice hv
  have HV3 := Aside0.mk hv
  have HV4 := Aside0.mk (Kd.R_below HV2.out hF.to_below)
  have HB3 := Aside0.mk (hF.blk HB2.out id)
  have HF3 := Aside0.mk (HF2.out.trans hF (fun _ _ h => h))
  clear hF hI hv HV2 HB2 HF2 HI
  have HSM := Aside0.mk (same_calls W3 L' (by omega) A1 c1 (Kd.R_reads' HV4.out).2.1 (Kd.R_reads' HV4.out).2.2 A3 c3 (Kd.R_reads' HV3.out).2.1 (Kd.R_reads' HV3.out).2.2)
  generalize L'.length = ll at HSM HV3 HV4
  go_wp2_with (fail)
  refine HSM.out.mono ?_
  rintro e W4 ⟨rfl, hF⟩
  have HB4 := Aside0.mk (hF.blk HB3.out id)
  have HF4 := Aside0.mk (HF3.out.trans hF (fun _ _ h => h))
  have z0 := (blk_cell HB4.out 0).trans (show _ = some (Value.int .i64 why') from rfl)
  have z1 := (blk_cell HB4.out 1).trans (show _ = some (Value.int .i64 at') from rfl)
  clear hF HF3 HB3 HSM
  go_wp2_with (fail)
  refine (alive_calls W4 (HM.out.fr HF4.out (fun _ _ => id))).mono ?_
  rintro e W5 ⟨rfl, hF⟩
  have HF5 := Aside0.mk (HF4.out.trans hF (fun _ _ h => h))
  clear hF
  go_wp2_with (fail)
  go_ret
  exact ⟨rfl, HF5.out⟩
end Go.Proofs.YtagokdbpgljgjaaDoor.Tok
/- Of the shelf's contracts laid over this program (the kit's lay-shelf): those that are used. -/
set_option linter.unusedSimpArgs false
set_option linter.unusedVariables false
namespace Go.Proofs
open Go.Shelf
def Tryd.lays219_ren_b : Go.Shelf.Ren := ⟨fun | 219 => 58 | 217 => 68 | 225 => 69 | 224 => 70 | 267 => 71 | 266 => 85 | 314 => 86 | n => n, fun | 9 => 9 | 3 => 3 | 4 => 4 | 5 => 5 | 46 => 104 | 146 => 132 | 51 => 112 | n => n, fun | 1 => 0 | n => n⟩
theorem Tryd.lays219_b : Go.Proofs.Lays.n219 Tryd.prog Tryd.lays219_ren_b := {
  mixed := by kernel_rfl
  f217 := Tryd.func68.trans (congrArg some (by kernel_rfl))
  f219 := Tryd.func58.trans (congrArg some (by kernel_rfl))
  f224 := Tryd.func70.trans (congrArg some (by kernel_rfl))
  f225 := Tryd.func69.trans (congrArg some (by kernel_rfl))
  f266 := Tryd.func85.trans (congrArg some (by kernel_rfl))
  f267 := Tryd.func71.trans (congrArg some (by kernel_rfl))
  f314 := Tryd.func86.trans (congrArg some (by kernel_rfl))
  t3 := Tryd.underlying3
  a3 := Tryd.isAgg3
  z3 := Tryd.sizeOf3
  v3 := Tryd.zeroValue3
  t4 := Tryd.underlying4
  a4 := Tryd.isAgg4
  z4 := Tryd.sizeOf4
  v4 := Tryd.zeroValue4
  t5 := Tryd.underlying5
  a5 := Tryd.isAgg5
  z5 := Tryd.sizeOf5
  v5 := Tryd.zeroValue5
  t9 := Tryd.underlying9
  a9 := Tryd.isAgg9
  z9 := Tryd.sizeOf9
  v9 := Tryd.zeroValue9
  t46 := Tryd.underlying104
  a46 := Tryd.isAgg104
  z46 := Tryd.sizeOf104
  v46 := Tryd.zeroValue104
  t51 := Tryd.underlying112
  a51 := Tryd.isAgg112
  z51 := Tryd.sizeOf112
  v51 := Tryd.zeroValue112
  t146 := Tryd.underlying132
  a146 := Tryd.isAgg132
  z146 := Tryd.sizeOf132
  v146 := Tryd.zeroValue132
  g1 := by kernel_rfl }
open Go.RowKit Go.Lib in
theorem Tryd.stringslite_Index_one_b (s : ByteArray) (c : UInt8) (w : World) :
    Calls Tryd.prog 58 #[.string s, .string ⟨#[c]⟩] w fun e w' => e = .returned (.int .i64 (Lib.indexByte s.data.toList c)) ∧ w' = w := Any.stringslite_Index_one Tryd.lays219_b s c w
end Go.Proofs
