/-
Any lines read: token.Read, walked. What strings.Cut and strings.SplitN answer is a contract here.
-/
import Derived.Test.YtagokdbpgljgjaaDoorMAX
import Derived.Test.YtagokdbpgljgjaaDoorMAO
set_option linter.unusedSimpArgs false
set_option linter.unusedVariables false
namespace Go.Proofs.YtagokdbpgljgjaaDoor.Tok
open Go.RowKit Go.Proofs.YtagokdbpgljgjaaDoorW.PrintWords Go.Proofs.YtagokdbpgljgjaaDoorW.PrintLast Go.Proofs.YtagokdbpgljgjaaDoorW.PrintMore Go.Proofs.YtagokdbpgljgjaaDoor.Fr Go.Proofs.YtagokdbpgljgjaaDoor.PGramFirsts Go.Proofs.YtagokdbpgljgjaaDoor.TextSet Go.Proofs.YtagokdbpgljgjaaDoor.Bld Go.Proofs.YtagokdbpgljgjaaDoor.Utf
/-- What strings.Cut at a newline does, from a world on, of texts so long. -/
def CutC (w : World) (N : Nat) : Prop := ∀ W, Fr (fun _ => False) w W → ∀ s : ByteArray, s.size ≤ N → Calls Tryd.prog 40 #[.string s, .string ⟨#[10]⟩] W fun e w' => e = .returned (.tuple #[.string ⟨(Lib.cut s.data.toList [10]).1.toArray⟩, .string ⟨(Lib.cut s.data.toList [10]).2.1.toArray⟩, .bool (Lib.cut s.data.toList [10]).2.2]) ∧ Fr (fun _ => False) W w'
/-- The pieces of a line. -/
def pcs (s : ByteArray) : List ByteArray := Lib.splitB ⟨#[32]⟩ 0 (min 4 (s.size + 1) - 1) s
/-- What strings.SplitN into four at blanks does. -/
def SplC (w : World) (N : Nat) : Prop := ∀ W, Fr (fun _ => False) w W → ∀ s : ByteArray, s.size ≤ N → Calls Tryd.prog 41 #[.string s, .string ⟨#[32]⟩, .int .i64 4] W fun e w' => (∃ B c, e = .returned (.slice (some ⟨B, 0, none⟩) (pcs s).length c) ∧ ∀ (j : Nat) x, (pcs s)[j]? = some x → w'.cell? ⟨B, j, none⟩ = some (.string x)) ∧ Fr (fun _ => False) W w'
theorem CutC.go {w W : World} {N : Nat} (h : CutC w N) (hF : Fr (fun _ => False) w W) : CutC W N := fun W1 h1 s hs => h W1 (hF.trans h1 (fun _ _ h => h)) s hs
theorem SplC.go {w W : World} {N : Nat} (h : SplC w N) (hF : Fr (fun _ => False) w W) : SplC W N := fun W1 h1 s hs => h W1 (hF.trans h1 (fun _ _ h => h)) s hs
theorem pcs_le (s : ByteArray) : (pcs s).length ≤ 4 := by
  have := Lib.splitB_length_le ⟨#[32]⟩ 0 (min 4 (s.size + 1) - 1) s
  unfold pcs
  omega
theorem pcs_size : ∀ (k : Nat) (s : ByteArray) (x : ByteArray), x ∈ Lib.splitB ⟨#[32]⟩ 0 k s → x.size ≤ s.size
  | 0, s, x, h => by
    rw [Lib.splitB_zero] at h
    rw [List.mem_singleton.1 h]
    exact Nat.le_refl _
  | k + 1, s, x, h => by
    rcases Lib.indexB_cases s ⟨#[32]⟩ with hi | ⟨i, hi, hz⟩
    · rw [Lib.splitB_miss _ _ _ _ hi] at h
      rw [List.mem_singleton.1 h]
      exact Nat.le_refl _
    · rw [Lib.splitB_hit _ _ _ _ i hi] at h
      rcases List.mem_cons.1 h with rfl | h
      · simp; omega
      · have := pcs_size k _ x h
        simp at this
        omega
theorem pcs_body {ns : List ByteArray} (hk : KindsOk ns) (hs : ∀ s, s ∈ ns → s.size ≤ maxLen) (src : ByteArray) (t : S55) : pcs (bodyS ns src t) = [rdOf ByteArray.empty ns t.f0, itB t.f1.toNat, itB t.f2.toNat, (quoteF (src.extract t.f1.toNat t.f2.toNat)).1] := by
  have h := body_split hk hs src t
  have hz : 3 ≤ (bodyS ns src t).size := by
    have : (bodyS ns src t).size = (bodyS ns src t).data.toList.length := by simp
    rw [this]
    unfold bodyS
    rw [body_data]
    simp only [List.length_append, List.length_cons]
    omega
  unfold pcs
  rw [show min 4 ((bodyS ns src t).size + 1) - 1 = 3 by omega]
  exact h
/-- What token.Find answers. -/
theorem find_full (s : ByteArray) (l : List ByteArray) (hl : l.length ≤ 9223372036854775807) : ∀ (n i : Nat), i + n = l.length → (∀ j, j < i → rdS l j ≠ s) → ∃ r : Int × Bool, (Fin (fun k => token_Find.l0 k s l (l.length : Int) i) r ∧ Fin (fun k => quoinref07_Find.l0 k l s i) r) ∧ (r.2 = true → 0 ≤ r.1 ∧ r.1 < l.length ∧ rdS l r.1.toNat = s) ∧ (r.2 = false → ∀ j, j < l.length → rdS l j ≠ s)
  | 0, i, h, hp => ⟨(0, false), ⟨Fin.one (fun k => by
      show token_Find.l0 (k + 1) _ _ _ _ = _
      rw [token_Find.l0, if_neg (by omega)]), Fin.one (fun k => by
      show quoinref07_Find.l0 (k + 1) _ _ _ = _
      rw [quoinref07_Find.l0, if_neg (by omega)])⟩, fun h => (by cases h), fun _ j hj => hp j (by omega)⟩
  | n + 1, i, h, hp => by
    by_cases he : (rdOf ByteArray.empty l i).toList = s.toList
    · refine ⟨(i, true), ⟨Fin.one (fun k => ?_), Fin.one (fun k => ?_)⟩, fun _ => ⟨by simp, by simp; omega, ?_⟩, fun h => by cases h⟩
      · show token_Find.l0 (k + 1) _ _ _ _ = _
        rw [token_Find.l0, if_pos (by omega), if_pos (by omega), if_pos (by omega), if_pos he]
      · show quoinref07_Find.l0 (k + 1) _ _ _ = _
        rw [quoinref07_Find.l0, if_pos (by omega), if_pos (by omega), if_pos he]
      · exact toList_inj he
    · obtain ⟨r, ⟨h1, h2⟩, h3, h4⟩ := find_full s l hl n (i + 1) (by omega) (fun j hj => by
        by_cases e : j = i
        · rw [e]
          exact fun k => he (by rw [← k]; rfl)
        · exact hp j (by omega))
      refine ⟨r, ⟨h1.step (fun k => ?_), h2.step (fun k => ?_)⟩, h3, h4⟩
      · show token_Find.l0 (k + 1) _ _ _ _ = _
        rw [token_Find.l0, if_pos (by omega), if_pos (by omega), if_pos (by omega), if_neg he, wrapN _ (by omega)]
      · show quoinref07_Find.l0 (k + 1) _ _ _ = _
        rw [quoinref07_Find.l0, if_pos (by omega), if_pos (by omega), if_neg he, wrapN _ (by omega)]
/-- What a name's number is, as both tell it. -/
def FindIs (ns : List ByteArray) (s : ByteArray) (k : Int) (b : Bool) : Prop := (b = true → 0 ≤ k ∧ k < ns.length ∧ rdS ns k.toNat = s) ∧ (b = false → ∀ j, j < ns.length → rdS ns j ≠ s)
theorem find_is (ns : List ByteArray) (hl : ns.length ≤ 9223372036854775807) (s : ByteArray) : ∃ (k : Int) (b : Bool) (m m2 : Nat), token_Find.f m ns s = some (k, b) ∧ quoinref07_Find.f m2 ns s = some (k, b) ∧ FindIs ns s k b := by
  obtain ⟨⟨k, b⟩, ⟨h1, h2⟩, h3⟩ := find_full s ns hl ns.length 0 (by omega) (fun j hj => by omega)
  obtain ⟨m, hm⟩ := h1.get
  obtain ⟨m2, hm2⟩ := h2.get
  exact ⟨k, b, m, m2, hm, hm2, h3⟩
theorem four {l : List ByteArray} (h : l.length = 4) : ∃ a b c d, l = [a, b, c, d] := by
  match l, h with
  | [a, b, c, d], _ => exact ⟨a, b, c, d, rfl⟩
/-- What is known of a line's pieces, if it is a token's. -/
theorem pieces_good {ns : List ByteArray} (hk : KindsOk ns) (hs : ∀ s, s ∈ ns → s.size ≤ maxLen) {src : ByteArray} (hsr : src.size ≤ 9223372036854775807) {a : Int} (ha : 0 ≤ a) {s w0 w1 w2 w3 : ByteArray} (hp : pcs s = [w0, w1, w2, w3]) {k n1 n2 : Int} {b0 b1 b2 : Bool} (h0 : FindIs ns w0 k b0) (h1 : NumIs w1 n1 b1) (h2 : NumIs w2 n2 b2) (t : S55) (hg : Good ns src a t) (hb : (bodyS ns src t).data.toList = s.data.toList) : b0 = true ∧ b1 = true ∧ b2 = true ∧ 2 ≤ k ∧ a ≤ n1 ∧ n1 ≤ n2 ∧ n2 ≤ src.size ∧ t = ⟨k, n1, n2⟩ := by
  obtain ⟨g0, g1, g2, g3, g4, g5⟩ := hg
  have hs' : bodyS ns src t = s := data_inj hb
  have hpb := pcs_body hk hs src t
  rw [hs', hp] at hpb
  simp only [List.cons.injEq, and_true] at hpb
  obtain ⟨e0, e1, e2, _⟩ := hpb
  obtain ⟨i1, j1⟩ := h1.2 t.f1.toNat (by omega) e1
  obtain ⟨i2, j2⟩ := h2.2 t.f2.toNat (by omega) e2
  have hb0 : b0 = true := by
    cases b0 with
    | true => rfl
    | false => exact absurd e0.symm (h0.2 rfl t.f0.toNat (by omega))
  obtain ⟨k1, k2, k3⟩ := h0.1 hb0
  have hk0 : k.toNat = t.f0.toNat := name_inj hk (by omega) (by omega) (k3.trans e0)
  refine ⟨hb0, j1, j2, by omega, by omega, by omega, by omega, ?_⟩
  obtain ⟨x0, x1, x2⟩ := t
  simp only at *
  congr 1 <;> omega
/-- What is read of lines. -/
def ReadIs (ns : List ByteArray) (src : ByteArray) (l : List UInt8) (L : List S55) (why at_ : Int) : Prop :=
  (¬ KindsOk ns ∧ L = [] ∧ why = 70 ∧ at_ = 0) ∨ (KindsOk ns ∧ ∃ l0 r, Rd ns src 0 0 l l0 r ∧ ((r = none ∧ L = l0 ∧ why = 0 ∧ at_ = 0) ∨ (∃ k : Nat, r = some k ∧ L = [] ∧ why = 5 ∧ at_ = k)))
set_option maxHeartbeats 8000000 in
set_option maxRecDepth 100000 in
theorem read_any (w : World) (ns : List ByteArray) (A : Option Addr) (cp : Nat) (hA : Kd.string.C w A ns.length ns) (hcp : ns.length ≤ cp) (hs : ∀ s, s ∈ ns → s.size ≤ maxLen) (src : ByteArray) (hsr : src.size ≤ 9223372036854775807) (X : ByteArray) (hX : X.size ≤ 281474976710656) (hC : CutC w X.size) (hS : SplC w X.size) (hE : Errs w) (hP : Pow w) :
    Calls Tryd.prog 20 #[.slice A ns.length cp, .string src, .string X] w fun e w' => (∃ v L why at_, e = .returned (.tuple #[v, .agg #[.int .i64 why, .int .i64 at_]]) ∧ k55.R 55 w' w.heap.size (fun _ => True) v L ∧ ReadIs ns src X.data.toList L why at_) ∧ Fr (fun _ => False) w w' := by
  have hmn := Kd.C_max hA
  go_enter Tryd.func20, Tryd.ntmps20
  have HA := Aside0.mk hA
  have HC := Aside0.mk hC
  have HS := Aside0.mk hS
  have HE := Aside0.mk hE
  have HP := Aside0.mk hP
  have HSS := Aside0.mk hs
  clear hA hC hS hE hP
  go_wp2_with (fail)
  have HF0 := Aside0.mk ((Fr.refl (fun _ => False) w).alloc (.cells #[.int .i64 0, .int .i64 0] 43))
  have HR0 := Aside0.mk (blk_new w (.cells #[.int .i64 0, .int .i64 0] 43))
  refine (kinds_calls2 _ ns A cp (HF0.out.C ByteArray.empty HA.out (fun _ _ _ => id)) HSS.out).mono ?_
  rintro e W1 ⟨⟨r, rfl, hr, hr2⟩, hF⟩
  have HF1 := Aside0.mk (HF0.out.trans hF (fun _ _ h => h))
  have HR1 := Aside0.mk (hF.blk HR0.out id)
  clear hF HF0 HR0
  obtain ⟨B, hB⟩ : ∃ B, w.heap.size = B := ⟨_, rfl⟩
  by_cases hk : r = 0
  case neg =>
    have hnk : ¬ KindsOk ns := fun h => hk (hr.2 h)
    have hr70 : r = 70 := by omega
    have HNK := Aside0.mk hnk
    clear hnk hr hr2
    have hc0 : W1.cell? ⟨B, 0, none⟩ = some (.int .i64 0) := (blk_cell (by rw [← hB]; exact HR1.out) 0).trans rfl
    have hc1 : W1.cell? ⟨B, 1, none⟩ = some (.int .i64 0) := (blk_cell (by rw [← hB]; exact HR1.out) 1).trans rfl
    have hf0 := blk_frozen (show W1.heap[B]? = _ by rw [← hB]; exact HR1.out) 0
    have hf1 := blk_frozen (show W1.heap[B]? = _ by rw [← hB]; exact HR1.out) 1
    simp only [hB]
    go_wp2_with (fail)
    have hb0 : W1.heap[B]? = some (.cells #[.int .i64 0, .int .i64 0] 43 (0, 0)) := by rw [← hB]; exact HR1.out
    have hb1 := blk_put hb0 0 (.int .i64 70) rfl
    have hb2 := blk_put hb1 1 (.int .i64 0) rfl
    refine bodyPost_ret (results_tc rfl _ _ B _ _ _ _ rfl hb2 Tryd.underlying43 rfl (by kernel_rfl)) rfl ?_
    exact ⟨⟨_, [], 70, 0, rfl, Kd.R_nil _ _ _ _ _, .inl ⟨HNK.out, rfl, rfl, rfl⟩⟩, (HF1.out.set _ (fun h => absurd h (by omega))).set _ (fun h => absurd h (by omega))⟩
  case pos =>
  have HK := Aside0.mk (hr.1 hk)
  have h2k := (hr.1 hk).max
  subst hk
  clear hr hr2
  go_wp2_with (fail)
  have HRD0 := Aside0.mk (show ∀ l r, Rd ns src ([] : List S55).length 0 X.data.toList l r → Rd ns src 0 0 X.data.toList ([] ++ l) r from fun l r h => h)
  go_loopg [2, 8, 9, 10] X.size (fun g a b c d W => ∃ (x : ByteArray) (out : List S55) (at_ : Int), a = .string x ∧ c = .int .i64 at_ ∧ d = .int .i64 (out.length : Int) ∧ out.length ≤ 65536 ∧ 0 ≤ at_ ∧ at_ ≤ src.size ∧ x.size ≤ g ∧ x.size ≤ X.size ∧ Aside0 (Fr (fun _ => False) w W) ∧ Aside0 (W.heap[w.heap.size]? = some (.cells #[.int .i64 0, .int .i64 0] 43 (0, 0))) ∧ Aside0 (k55.R 55 W w.heap.size (fun _ => True) b out) ∧ Aside0 (∀ l r, Rd ns src out.length at_ x.data.toList l r → Rd ns src 0 0 X.data.toList (out ++ l) r))
  case atStart => exact ⟨X, [], 0, rfl, rfl, rfl, by simp, Int.le_refl _, by omega, Nat.le_refl _, Nat.le_refl _, HF1, HR1, Aside0.mk (Kd.R_nil _ _ _ _ _), HRD0⟩
  case round =>
    clear HF1 HR1 HRD0
    obtain ⟨x, out, at_, rfl, rfl, rfl, ho, ha0, ha1, hxg, hxX, HF, HR, HV, HRD⟩ := hrel
    by_cases hx0 : x.size = 0
    · obtain rfl : x = ⟨#[]⟩ := by
        have e : x.data.toList = [] := List.eq_nil_of_length_eq_zero (by simpa using hx0)
        exact data_inj e
      have HD := Aside0.mk (HRD.out _ _ (Rd.done))
      have hc0 : wr.cell? ⟨B, 0, none⟩ = some (.int .i64 0) := (blk_cell (by rw [← hB]; exact HR.out) 0).trans rfl
      have hc1 : wr.cell? ⟨B, 1, none⟩ = some (.int .i64 0) := (blk_cell (by rw [← hB]; exact HR.out) 1).trans rfl
      have hf0 := blk_frozen (show wr.heap[B]? = _ by rw [← hB]; exact HR.out) 0
      have hf1 := blk_frozen (show wr.heap[B]? = _ by rw [← hB]; exact HR.out) 1
      clear HRD hx0
      go_wp2_with (fail)
      have hb0 : wr.heap[B]? = some (.cells #[.int .i64 0, .int .i64 0] 43 (0, 0)) := by rw [← hB]; exact HR.out
      have hb1 := blk_put hb0 0 (.int .i64 0) rfl
      have hb2 := blk_put hb1 1 (.int .i64 0) rfl
      have hE : ∀ q, q ∈ 55 :: k55.E → q ≠ 43 := (show ∀ q, q ∈ [55] → q ≠ 43 by decide)
      refine bodyPost_ret (results_tc rfl _ _ B _ _ _ _ rfl hb2 Tryd.underlying43 rfl (by kernel_rfl)) rfl ?_
      have HR2 := Kd.R_set (Kd.R_set HV.out hb0 hE 0 (.int .i64 0)) hb1 hE 1 (.int .i64 0)
      rw [hB] at HR2 ⊢
      refine ⟨⟨_, out, 0, 0, rfl, HR2, .inr ⟨HK.out, out ++ [], none, HD.out, .inl ⟨rfl, by simp, rfl, rfl⟩⟩⟩, (HF.out.set _ (fun h => absurd h (by omega))).set _ (fun h => absurd h (by omega))⟩
    · have HX0 := Aside0.mk hx0
      have hne : (x.toList == []) = false := by
        rw [beq_eq_false_iff_ne]
        intro e
        refine HX0.out ?_
        have : x.data.toList.length = 0 := by rw [← dl, e]; rfl
        simpa using this
      have HF1 := Aside0.mk (HF.out.alloc (.cells #[.int .i64 5, .int .i64 (out.length : Int)] 43))
      have HR1 := Aside0.mk (blk_alloc HR.out (.cells #[.int .i64 5, .int .i64 (out.length : Int)] 43))
      have HQ1 := Aside0.mk (blk_new wr (.cells #[.int .i64 5, .int .i64 (out.length : Int)] 43))
      have HV1 := Aside0.mk (Kd.R_below HV.out ((Fr.refl (fun _ => False) wr).alloc (.cells #[.int .i64 5, .int .i64 (out.length : Int)] 43)).to_below)
      clear HF HR hx0
      go_upto_region 9 with (fail)
      obtain ⟨W1, hW1⟩ : ∃ W, wr.alloc (.cells #[.int .i64 5, .int .i64 (out.length : Int)] 43) = W := ⟨_, rfl⟩
      obtain ⟨b1, hb1⟩ : ∃ b, wr.heap.size = b := ⟨_, rfl⟩
      rw [hW1] at HF1 HR1 HQ1 HV1
      rw [hb1] at HQ1
      simp only [hW1, hb1]
      clear hW1 hb1
      rcases line_split x.data.toList with h10 | ⟨p, y, hpy, h10⟩
      · have hcut := HC.out W1 HF1.out x hxX
        rw [cut_no h10] at hcut
        simp only [Lib.mk_data] at hcut
        have HCUT := Aside0.mk hcut
        clear hcut
        have HBAD := Aside0.mk (HRD.out _ _ (Rd.open_ x.data.toList (fun e => HX0.out (by rw [← ByteArray.size_data, ← Array.length_toList, e]; rfl)) h10))
        clear h10
        go_wp2_with (fail)
        refine HCUT.out.mono ?_
        rintro e W2 ⟨rfl, hF⟩
        have HF2 := Aside0.mk (HF1.out.trans hF (fun _ _ h => h))
        have HR2 := Aside0.mk (hF.blk HR1.out id)
        have HQ2 := Aside0.mk (hF.blk HQ1.out id)
        clear hF HCUT HF1 HR1 HQ1 HV1
        go_wp2_with (fail)
        refine (HS.out W2 HF2.out x hxX).mono ?_
        rintro e W3 ⟨⟨B3, c3, rfl, -⟩, hF⟩
        have HF3 := Aside0.mk (HF2.out.trans hF (fun _ _ h => h))
        have HR3 := Aside0.mk (hF.blk HR2.out id)
        have HQ3 := Aside0.mk (hF.blk HQ2.out id)
        clear hF HF2 HR2 HQ2
        have q0 := (blk_cell HQ3.out 0).trans (show _ = some (Value.int .i64 5) from rfl)
        have q1 := (blk_cell HQ3.out 1).trans (show _ = some (Value.int .i64 (out.length : Int)) from rfl)
        have hb0 : W3.heap[B]? = some (.cells #[.int .i64 0, .int .i64 0] 43 (0, 0)) := by rw [← hB]; exact HR3.out
        have HB0 := Aside0.mk hb0
        have hc0 := (blk_cell hb0 0).trans (show _ = some (Value.int .i64 0) from rfl)
        have hc1 := (blk_cell hb0 1).trans (show _ = some (Value.int .i64 0) from rfl)
        have hf0 := blk_frozen hb0 0
        have hf1 := blk_frozen hb0 1
        clear hb0 HR3 HQ3
        go_wp2_with (fail)
        refine wp_region_last_drew (S := fun w' => w'.cell? ⟨b1, 0, none⟩ = some (.int .i64 5) ∧ w'.cell? ⟨b1, 1, none⟩ = some (.int .i64 (out.length : Int))) (ds := [2]) (by kernel_rfl) ⟨q0, q1⟩ (fun hHeld => ?_)
        refine tk 0 ?_
        refine tk 1 ?_
        refine onl 2 (fun K hK => ?_)
        go_simp
        refine hK.out _ _ ?_
        clear hK K
        try simp only [Act.put, List.setIfInBounds_toArray, List.set_cons_zero, List.set_cons_succ]
        refine dn ?_
        go_wp2_with (fail)
        have hb1 := blk_put HB0.out 0 (.int .i64 5) rfl
        have hb2 := blk_put hb1 1 (.int .i64 (out.length : Int)) rfl
        refine bodyPost_ret (results_tc rfl _ _ B _ _ _ _ rfl (((Fr.refl (fun _ => False) _).drew).blk hb2 id) Tryd.underlying43 rfl (by kernel_rfl)) rfl ?_
        exact ⟨⟨_, [], 5, (out.length : Int), rfl, Kd.R_nil _ _ _ _ _, .inr ⟨HK.out, _, _, HBAD.out, .inr ⟨out.length, rfl, rfl, rfl, rfl⟩⟩⟩, ((HF3.out.set _ (fun h => absurd h (by omega))).set _ (fun h => absurd h (by omega))).trans (Fr.refl (fun _ => False) _).drew (fun _ _ h => h)⟩
      · have HRD' := Aside0.mk (show ∀ l r, Rd ns src out.length at_ (p ++ 10 :: y) l r → Rd ns src 0 0 X.data.toList (out ++ l) r from by rw [← hpy]; exact HRD.out)
        have hcut := HC.out W1 HF1.out x hxX
        rw [hpy, cut_at h10] at hcut
        have hxz : x.size = p.length + (y.length + 1) := by
          have : x.data.toList.length = x.size := by simp
          rw [← this, hpy]
          simp
        obtain ⟨s, hse⟩ : ∃ s : ByteArray, ⟨p.toArray⟩ = s := ⟨_, rfl⟩
        obtain ⟨z, hze⟩ : ∃ z : ByteArray, ⟨y.toArray⟩ = z := ⟨_, rfl⟩
        have hsd : s.data.toList = p := by rw [← hse]
        have hzd : z.data.toList = y := by rw [← hze]
        have hsz : s.size = p.length := by rw [← hse]; rfl
        have hzz : z.size = y.length := by rw [← hze]; rfl
        simp only [hse, hze] at hcut
        have HCUT := Aside0.mk hcut
        have HSD := Aside0.mk hsd
        have HZD := Aside0.mk hzd
        have H10 := Aside0.mk h10
        have hsX : s.size ≤ X.size := by omega
        have hzX : z.size ≤ X.size := by omega
        have hzg : z.size ≤ gk - 1 := by omega
        have hgk : 0 < gk := by omega
        have hs1 : ¬ (9223372036854775807 < s.size + 1) := by omega
        clear hcut hsd hzd HRD hpy hse hze hsz hzz hxz h10
        go_wp2_with (fail)
        refine HCUT.out.mono ?_
        rintro e W2 ⟨rfl, hF⟩
        have HF2 := Aside0.mk (HF1.out.trans hF (fun _ _ h => h))
        have HR2 := Aside0.mk (hF.blk HR1.out id)
        have HQ2 := Aside0.mk (hF.blk HQ1.out id)
        have HV2 := Aside0.mk (Kd.R_below HV1.out hF.to_below)
        clear hF HCUT HF1 HR1 HQ1 HV1
        have hspl := HS.out W2 HF2.out s hsX
        by_cases hl4 : (pcs s).length = 4
        case neg =>
          have hl3 : ((pcs s).length : Int) < 4 := by have := pcs_le s; omega
          have HBAD := Aside0.mk (HRD'.out _ _ (Rd.bad p y H10.out (.inr (by
            rintro ⟨t, hg, hb⟩
            have := pcs_body HK.out HSS.out src t
            rw [show bodyS ns src t = s from data_inj (hb.trans HSD.out.symm)] at this
            exact hl4 (by rw [this]; rfl)))))
          generalize (pcs s).length = L at hspl hl3
          have HSPL := Aside0.mk hspl
          clear hspl hl4 HRD' HV2
          go_wp2_with (fail)
          refine HSPL.out.mono ?_
          rintro e W3 ⟨⟨B3, c3, rfl, -⟩, hF⟩
          have HF3 := Aside0.mk (HF2.out.trans hF (fun _ _ h => h))
          have HR3 := Aside0.mk (hF.blk HR2.out id)
          have HQ3 := Aside0.mk (hF.blk HQ2.out id)
          clear hF HF2 HR2 HQ2 HSPL
          go_wp2_with (fail)
          have q0 := (blk_cell HQ3.out 0).trans (show _ = some (Value.int .i64 5) from rfl)
          have q1 := (blk_cell HQ3.out 1).trans (show _ = some (Value.int .i64 (out.length : Int)) from rfl)
          have hb0 : W3.heap[B]? = some (.cells #[.int .i64 0, .int .i64 0] 43 (0, 0)) := by rw [← hB]; exact HR3.out
          have HB0 := Aside0.mk hb0
          have hc0 := (blk_cell hb0 0).trans (show _ = some (Value.int .i64 0) from rfl)
          have hc1 := (blk_cell hb0 1).trans (show _ = some (Value.int .i64 0) from rfl)
          have hf0 := blk_frozen hb0 0
          have hf1 := blk_frozen hb0 1
          clear hb0 HR3 HQ3
          go_wp2_with (fail)
          refine wp_region_last_drew (S := fun w' => w'.cell? ⟨b1, 0, none⟩ = some (.int .i64 5) ∧ w'.cell? ⟨b1, 1, none⟩ = some (.int .i64 (out.length : Int))) (ds := [2]) (by kernel_rfl) ⟨q0, q1⟩ (fun hHeld => ?_)
          refine tk 0 ?_
          refine tk 1 ?_
          refine onl 2 (fun K hK => ?_)
          go_simp
          refine hK.out _ _ ?_
          clear hK K
          try simp only [Act.put, List.setIfInBounds_toArray, List.set_cons_zero, List.set_cons_succ]
          refine dn ?_
          go_wp2_with (fail)
          have hb1 := blk_put HB0.out 0 (.int .i64 5) rfl
          have hb2 := blk_put hb1 1 (.int .i64 (out.length : Int)) rfl
          refine bodyPost_ret (results_tc rfl _ _ B _ _ _ _ rfl (((Fr.refl (fun _ => False) _).drew).blk hb2 id) Tryd.underlying43 rfl (by kernel_rfl)) rfl ?_
          exact ⟨⟨_, [], 5, (out.length : Int), rfl, Kd.R_nil _ _ _ _ _, .inr ⟨HK.out, _, _, HBAD.out, .inr ⟨out.length, rfl, rfl, rfl, rfl⟩⟩⟩, ((HF3.out.set _ (fun h => absurd h (by omega))).set _ (fun h => absurd h (by omega))).trans (Fr.refl (fun _ => False) _).drew (fun _ _ h => h)⟩
        case pos =>
        obtain ⟨w0, w1, w2, w3, hps⟩ := four hl4
        have hw1 : w1.size ≤ 281474976710656 := by
          have := pcs_size (min 4 (s.size + 1) - 1) s w1 (by show w1 ∈ pcs s; rw [hps]; simp)
          omega
        have hw2 : w2.size ≤ 281474976710656 := by
          have := pcs_size (min 4 (s.size + 1) - 1) s w2 (by show w2 ∈ pcs s; rw [hps]; simp)
          omega
        rw [hps] at hspl
        have HPS := Aside0.mk hps
        have HSPL := Aside0.mk hspl
        clear hspl hl4 hps
        go_wp2_with (fail)
        refine HSPL.out.mono ?_
        rintro e W3 ⟨⟨B3, c3, rfl, hcells⟩, hF⟩
        have HF3 := Aside0.mk (HF2.out.trans hF (fun _ _ h => h))
        have HR3 := Aside0.mk (hF.blk HR2.out id)
        have HQ3 := Aside0.mk (hF.blk HQ2.out id)
        have HV3 := Aside0.mk (Kd.R_below HV2.out hF.to_below)
        have x0 := hcells 0 w0 rfl
        have x1 := hcells 1 w1 rfl
        have x2 := hcells 2 w2 rfl
        clear hF HF2 HR2 HQ2 HV2 HSPL hcells
        simp only [List.length_cons, List.length_nil, Nat.zero_add, Nat.reduceAdd]
        by_cases hn : out.length < 65536
        case neg =>
          have hn1 : (65536 : Int) ≤ (out.length : Int) := by omega
          have HBAD := Aside0.mk (HRD'.out _ _ (Rd.bad p y H10.out (.inl (by omega))))
          clear HRD' HV3 x0 x1 x2
          obtain ⟨A3, k3, hv3⟩ := Kd.R_slice HV.out
          subst hv3
          go_wp2_with (fail)
          have q0 := (blk_cell HQ3.out 0).trans (show _ = some (Value.int .i64 5) from rfl)
          have q1 := (blk_cell HQ3.out 1).trans (show _ = some (Value.int .i64 (out.length : Int)) from rfl)
          have hb0 : W3.heap[B]? = some (.cells #[.int .i64 0, .int .i64 0] 43 (0, 0)) := by rw [← hB]; exact HR3.out
          have HB0 := Aside0.mk hb0
          have hc0 := (blk_cell hb0 0).trans (show _ = some (Value.int .i64 0) from rfl)
          have hc1 := (blk_cell hb0 1).trans (show _ = some (Value.int .i64 0) from rfl)
          have hf0 := blk_frozen hb0 0
          have hf1 := blk_frozen hb0 1
          clear hb0 HR3 HQ3
          go_wp2_with (fail)
          refine wp_region_last_drew (S := fun w' => w'.cell? ⟨b1, 0, none⟩ = some (.int .i64 5) ∧ w'.cell? ⟨b1, 1, none⟩ = some (.int .i64 (out.length : Int))) (ds := [2]) (by kernel_rfl) ⟨q0, q1⟩ (fun hHeld => ?_)
          refine tk 0 ?_
          refine tk 1 ?_
          refine onl 2 (fun K hK => ?_)
          go_simp
          refine hK.out _ _ ?_
          clear hK K
          try simp only [Act.put, List.setIfInBounds_toArray, List.set_cons_zero, List.set_cons_succ]
          refine dn ?_
          go_wp2_with (fail)
          have hb1 := blk_put HB0.out 0 (.int .i64 5) rfl
          have hb2 := blk_put hb1 1 (.int .i64 (out.length : Int)) rfl
          refine bodyPost_ret (results_tc rfl _ _ B _ _ _ _ rfl (((Fr.refl (fun _ => False) _).drew).blk hb2 id) Tryd.underlying43 rfl (by kernel_rfl)) rfl ?_
          exact ⟨⟨_, [], 5, (out.length : Int), rfl, Kd.R_nil _ _ _ _ _, .inr ⟨HK.out, _, _, HBAD.out, .inr ⟨out.length, rfl, rfl, rfl, rfl⟩⟩⟩, ((HF3.out.set _ (fun h => absurd h (by omega))).set _ (fun h => absurd h (by omega))).trans (Fr.refl (fun _ => False) _).drew (fun _ _ h => h)⟩
        case pos =>
        obtain ⟨A3, k3, hv3⟩ := Kd.R_slice HV3.out
        subst hv3
        obtain ⟨k, f0, m, -, hfm, -, hfi⟩ := find_is ns (by omega) w0
        have hn1 : ¬ (65536 : Int) ≤ (out.length : Int) := by omega
        have HFI := Aside0.mk hfi
        have hfc := finds_calls W3 ns A cp (HF3.out.C ByteArray.empty HA.out (fun _ _ _ => id)) hcp w0 (k, f0) m hfm
        have HFC := Aside0.mk hfc
        clear hfi hfc hfm
        go_wp2_with (fail)
        refine HFC.out.mono ?_
        rintro e W4 ⟨rfl, hF⟩
        have HF4 := Aside0.mk (HF3.out.trans hF (fun _ _ h => h))
        have HR4 := Aside0.mk (hF.blk HR3.out id)
        have HQ4 := Aside0.mk (hF.blk HQ3.out id)
        have HV4 := Aside0.mk (Kd.R_below HV3.out hF.to_below)
        replace x1 := hF.cell x1 id
        replace x2 := hF.cell x2 id
        clear hF HF3 HR3 HQ3 HV3 HFC x0
        go_wp2_with (fail)
        refine (number_any W4 w1 hw1 (HE.out.go HF4.out) (HP.out.go HF4.out)).mono ?_
        rintro e W5 ⟨⟨n1, b1', rfl, hni⟩, hF⟩
        have HN1 := Aside0.mk hni
        have HF5 := Aside0.mk (HF4.out.trans hF (fun _ _ h => h))
        have HR5 := Aside0.mk (hF.blk HR4.out id)
        have HQ5 := Aside0.mk (hF.blk HQ4.out id)
        have HV5 := Aside0.mk (Kd.R_below HV4.out hF.to_below)
        replace x2 := hF.cell x2 id
        clear hF HF4 HR4 HQ4 HV4 hni x1
        go_wp2_with (fail)
        refine (number_any W5 w2 hw2 (HE.out.go HF5.out) (HP.out.go HF5.out)).mono ?_
        rintro e W6 ⟨⟨n2, b2, rfl, hni⟩, hF⟩
        have HN2 := Aside0.mk hni
        have HF6 := Aside0.mk (HF5.out.trans hF (fun _ _ h => h))
        have HR6 := Aside0.mk (hF.blk HR5.out id)
        have HQ6 := Aside0.mk (hF.blk HQ5.out id)
        have HV6 := Aside0.mk (Kd.R_below HV5.out hF.to_below)
        clear hF HF5 HR5 HQ5 HV5 hni x2
        have HALL := Aside0.mk (fun t (hg : Good ns src at_ t) (hb : (bodyS ns src t).data.toList = s.data.toList) => pieces_good HK.out HSS.out hsr ha0 HPS.out HFI.out HN1.out HN2.out t hg hb)
        have HF7 := Aside0.mk (HF6.out.alloc (.cells #[.int .i64 k, .int .i64 n1, .int .i64 n2] 55))
        have HR7 := Aside0.mk (blk_alloc HR6.out (.cells #[.int .i64 k, .int .i64 n1, .int .i64 n2] 55))
        have HQ7 := Aside0.mk (blk_alloc HQ6.out (.cells #[.int .i64 k, .int .i64 n1, .int .i64 n2] 55))
        have HT7 := Aside0.mk (blk_new W6 (.cells #[.int .i64 k, .int .i64 n1, .int .i64 n2] 55))
        have HV7 := Aside0.mk (Kd.R_below HV6.out ((Fr.refl (fun _ => False) W6).alloc (.cells #[.int .i64 k, .int .i64 n1, .int .i64 n2] 55)).to_below)
        clear HF6 HR6 HQ6 HV6
        go_upto_region 17 with (fail)
        obtain ⟨W7, hW7⟩ : ∃ W, W6.alloc (.cells #[.int .i64 k, .int .i64 n1, .int .i64 n2] 55) = W := ⟨_, rfl⟩
        obtain ⟨b7, hb7⟩ : ∃ b, W6.heap.size = b := ⟨_, rfl⟩
        rw [hW7] at HF7 HR7 HQ7 HV7 HT7
        rw [hb7] at HT7
        simp only [hW7, hb7]
        clear hW7 hb7
        by_cases hall : f0 = true ∧ b1' = true ∧ b2 = true ∧ 2 ≤ k ∧ at_ ≤ n1 ∧ n1 ≤ n2 ∧ n2 ≤ src.size
        case neg =>
          have HBAD := Aside0.mk (HRD'.out _ _ (Rd.bad p y H10.out (.inr (by
            rintro ⟨t, hg, hb⟩
            obtain ⟨h0, h1, h2, h3, h4, h5, h6, _⟩ := HALL.out t hg (hb.trans HSD.out.symm)
            exact hall ⟨h0, h1, h2, h3, h4, h5, h6⟩))))
          have hcase : f0 = false ∨ (f0 = true ∧ b1' = false) ∨ (f0 = true ∧ b1' = true ∧ b2 = false) ∨ (f0 = true ∧ b1' = true ∧ b2 = true ∧ k < 2) ∨ (f0 = true ∧ b1' = true ∧ b2 = true ∧ 2 ≤ k ∧ n1 < at_) ∨ (f0 = true ∧ b1' = true ∧ b2 = true ∧ 2 ≤ k ∧ at_ ≤ n1 ∧ n2 < n1) ∨ (f0 = true ∧ b1' = true ∧ b2 = true ∧ 2 ≤ k ∧ at_ ≤ n1 ∧ n1 ≤ n2 ∧ (src.size : Int) < n2) := by
            cases f0 <;> cases b1' <;> cases b2 <;> simp at hall ⊢
            omega
          clear hall HRD' HT7 HV7 HALL HFI HN1 HN2
          rcases hcase with rfl | ⟨rfl, rfl⟩ | ⟨rfl, rfl, rfl⟩ | ⟨rfl, rfl, rfl, c1⟩ | ⟨rfl, rfl, rfl, c1, c2⟩ | ⟨rfl, rfl, rfl, c1, c2, c3⟩ | ⟨rfl, rfl, rfl, c1, c2, c3, c4⟩
          · go_wp2_with (fail)
            have q0 := (blk_cell HQ7.out 0).trans (show _ = some (Value.int .i64 5) from rfl)
            have q1 := (blk_cell HQ7.out 1).trans (show _ = some (Value.int .i64 (out.length : Int)) from rfl)
            have hb0 : W7.heap[B]? = some (.cells #[.int .i64 0, .int .i64 0] 43 (0, 0)) := by rw [← hB]; exact HR7.out
            have HB0 := Aside0.mk hb0
            have hc0 := (blk_cell hb0 0).trans (show _ = some (Value.int .i64 0) from rfl)
            have hc1 := (blk_cell hb0 1).trans (show _ = some (Value.int .i64 0) from rfl)
            have hf0 := blk_frozen hb0 0
            have hf1 := blk_frozen hb0 1
            clear hb0 HR7 HQ7
            go_wp2_with (fail)
            refine wp_region_last_drew (S := fun w' => w'.cell? ⟨b1, 0, none⟩ = some (.int .i64 5) ∧ w'.cell? ⟨b1, 1, none⟩ = some (.int .i64 (out.length : Int))) (ds := [2]) (by kernel_rfl) ⟨q0, q1⟩ (fun hHeld => ?_)
            refine tk 0 ?_
            refine tk 1 ?_
            refine onl 2 (fun K hK => ?_)
            go_simp
            refine hK.out _ _ ?_
            clear hK K
            try simp only [Act.put, List.setIfInBounds_toArray, List.set_cons_zero, List.set_cons_succ]
            refine dn ?_
            go_wp2_with (fail)
            have hb1 := blk_put HB0.out 0 (.int .i64 5) rfl
            have hb2 := blk_put hb1 1 (.int .i64 (out.length : Int)) rfl
            refine bodyPost_ret (results_tc rfl _ _ B _ _ _ _ rfl (((Fr.refl (fun _ => False) _).drew).blk hb2 id) Tryd.underlying43 rfl (by kernel_rfl)) rfl ?_
            exact ⟨⟨_, [], 5, (out.length : Int), rfl, Kd.R_nil _ _ _ _ _, .inr ⟨HK.out, _, _, HBAD.out, .inr ⟨out.length, rfl, rfl, rfl, rfl⟩⟩⟩, ((HF7.out.set _ (fun h => absurd h (by omega))).set _ (fun h => absurd h (by omega))).trans (Fr.refl (fun _ => False) _).drew (fun _ _ h => h)⟩
          · go_wp2_with (fail)
            have q0 := (blk_cell HQ7.out 0).trans (show _ = some (Value.int .i64 5) from rfl)
            have q1 := (blk_cell HQ7.out 1).trans (show _ = some (Value.int .i64 (out.length : Int)) from rfl)
            have hb0 : W7.heap[B]? = some (.cells #[.int .i64 0, .int .i64 0] 43 (0, 0)) := by rw [← hB]; exact HR7.out
            have HB0 := Aside0.mk hb0
            have hc0 := (blk_cell hb0 0).trans (show _ = some (Value.int .i64 0) from rfl)
            have hc1 := (blk_cell hb0 1).trans (show _ = some (Value.int .i64 0) from rfl)
            have hf0 := blk_frozen hb0 0
            have hf1 := blk_frozen hb0 1
            clear hb0 HR7 HQ7
            go_wp2_with (fail)
            refine wp_region_last_drew (S := fun w' => w'.cell? ⟨b1, 0, none⟩ = some (.int .i64 5) ∧ w'.cell? ⟨b1, 1, none⟩ = some (.int .i64 (out.length : Int))) (ds := [2]) (by kernel_rfl) ⟨q0, q1⟩ (fun hHeld => ?_)
            refine tk 0 ?_
            refine tk 1 ?_
            refine onl 2 (fun K hK => ?_)
            go_simp
            refine hK.out _ _ ?_
            clear hK K
            try simp only [Act.put, List.setIfInBounds_toArray, List.set_cons_zero, List.set_cons_succ]
            refine dn ?_
            go_wp2_with (fail)
            have hb1 := blk_put HB0.out 0 (.int .i64 5) rfl
            have hb2 := blk_put hb1 1 (.int .i64 (out.length : Int)) rfl
            refine bodyPost_ret (results_tc rfl _ _ B _ _ _ _ rfl (((Fr.refl (fun _ => False) _).drew).blk hb2 id) Tryd.underlying43 rfl (by kernel_rfl)) rfl ?_
            exact ⟨⟨_, [], 5, (out.length : Int), rfl, Kd.R_nil _ _ _ _ _, .inr ⟨HK.out, _, _, HBAD.out, .inr ⟨out.length, rfl, rfl, rfl, rfl⟩⟩⟩, ((HF7.out.set _ (fun h => absurd h (by omega))).set _ (fun h => absurd h (by omega))).trans (Fr.refl (fun _ => False) _).drew (fun _ _ h => h)⟩
          · go_wp2_with (fail)
            have q0 := (blk_cell HQ7.out 0).trans (show _ = some (Value.int .i64 5) from rfl)
            have q1 := (blk_cell HQ7.out 1).trans (show _ = some (Value.int .i64 (out.length : Int)) from rfl)
            have hb0 : W7.heap[B]? = some (.cells #[.int .i64 0, .int .i64 0] 43 (0, 0)) := by rw [← hB]; exact HR7.out
            have HB0 := Aside0.mk hb0
            have hc0 := (blk_cell hb0 0).trans (show _ = some (Value.int .i64 0) from rfl)
            have hc1 := (blk_cell hb0 1).trans (show _ = some (Value.int .i64 0) from rfl)
            have hf0 := blk_frozen hb0 0
            have hf1 := blk_frozen hb0 1
            clear hb0 HR7 HQ7
            go_wp2_with (fail)
            refine wp_region_last_drew (S := fun w' => w'.cell? ⟨b1, 0, none⟩ = some (.int .i64 5) ∧ w'.cell? ⟨b1, 1, none⟩ = some (.int .i64 (out.length : Int))) (ds := [2]) (by kernel_rfl) ⟨q0, q1⟩ (fun hHeld => ?_)
            refine tk 0 ?_
            refine tk 1 ?_
            refine onl 2 (fun K hK => ?_)
            go_simp
            refine hK.out _ _ ?_
            clear hK K
            try simp only [Act.put, List.setIfInBounds_toArray, List.set_cons_zero, List.set_cons_succ]
            refine dn ?_
            go_wp2_with (fail)
            have hb1 := blk_put HB0.out 0 (.int .i64 5) rfl
            have hb2 := blk_put hb1 1 (.int .i64 (out.length : Int)) rfl
            refine bodyPost_ret (results_tc rfl _ _ B _ _ _ _ rfl (((Fr.refl (fun _ => False) _).drew).blk hb2 id) Tryd.underlying43 rfl (by kernel_rfl)) rfl ?_
            exact ⟨⟨_, [], 5, (out.length : Int), rfl, Kd.R_nil _ _ _ _ _, .inr ⟨HK.out, _, _, HBAD.out, .inr ⟨out.length, rfl, rfl, rfl, rfl⟩⟩⟩, ((HF7.out.set _ (fun h => absurd h (by omega))).set _ (fun h => absurd h (by omega))).trans (Fr.refl (fun _ => False) _).drew (fun _ _ h => h)⟩
          · go_wp2_with (fail)
            have q0 := (blk_cell HQ7.out 0).trans (show _ = some (Value.int .i64 5) from rfl)
            have q1 := (blk_cell HQ7.out 1).trans (show _ = some (Value.int .i64 (out.length : Int)) from rfl)
            have hb0 : W7.heap[B]? = some (.cells #[.int .i64 0, .int .i64 0] 43 (0, 0)) := by rw [← hB]; exact HR7.out
            have HB0 := Aside0.mk hb0
            have hc0 := (blk_cell hb0 0).trans (show _ = some (Value.int .i64 0) from rfl)
            have hc1 := (blk_cell hb0 1).trans (show _ = some (Value.int .i64 0) from rfl)
            have hf0 := blk_frozen hb0 0
            have hf1 := blk_frozen hb0 1
            clear hb0 HR7 HQ7
            go_wp2_with (fail)
            refine wp_region_last_drew (S := fun w' => w'.cell? ⟨b1, 0, none⟩ = some (.int .i64 5) ∧ w'.cell? ⟨b1, 1, none⟩ = some (.int .i64 (out.length : Int))) (ds := [2]) (by kernel_rfl) ⟨q0, q1⟩ (fun hHeld => ?_)
            refine tk 0 ?_
            refine tk 1 ?_
            refine onl 2 (fun K hK => ?_)
            go_simp
            refine hK.out _ _ ?_
            clear hK K
            try simp only [Act.put, List.setIfInBounds_toArray, List.set_cons_zero, List.set_cons_succ]
            refine dn ?_
            go_wp2_with (fail)
            have hb1 := blk_put HB0.out 0 (.int .i64 5) rfl
            have hb2 := blk_put hb1 1 (.int .i64 (out.length : Int)) rfl
            refine bodyPost_ret (results_tc rfl _ _ B _ _ _ _ rfl (((Fr.refl (fun _ => False) _).drew).blk hb2 id) Tryd.underlying43 rfl (by kernel_rfl)) rfl ?_
            exact ⟨⟨_, [], 5, (out.length : Int), rfl, Kd.R_nil _ _ _ _ _, .inr ⟨HK.out, _, _, HBAD.out, .inr ⟨out.length, rfl, rfl, rfl, rfl⟩⟩⟩, ((HF7.out.set _ (fun h => absurd h (by omega))).set _ (fun h => absurd h (by omega))).trans (Fr.refl (fun _ => False) _).drew (fun _ _ h => h)⟩
          · go_wp2_with (fail)
            have q0 := (blk_cell HQ7.out 0).trans (show _ = some (Value.int .i64 5) from rfl)
            have q1 := (blk_cell HQ7.out 1).trans (show _ = some (Value.int .i64 (out.length : Int)) from rfl)
            have hb0 : W7.heap[B]? = some (.cells #[.int .i64 0, .int .i64 0] 43 (0, 0)) := by rw [← hB]; exact HR7.out
            have HB0 := Aside0.mk hb0
            have hc0 := (blk_cell hb0 0).trans (show _ = some (Value.int .i64 0) from rfl)
            have hc1 := (blk_cell hb0 1).trans (show _ = some (Value.int .i64 0) from rfl)
            have hf0 := blk_frozen hb0 0
            have hf1 := blk_frozen hb0 1
            clear hb0 HR7 HQ7
            go_wp2_with (fail)
            refine wp_region_last_drew (S := fun w' => w'.cell? ⟨b1, 0, none⟩ = some (.int .i64 5) ∧ w'.cell? ⟨b1, 1, none⟩ = some (.int .i64 (out.length : Int))) (ds := [2]) (by kernel_rfl) ⟨q0, q1⟩ (fun hHeld => ?_)
            refine tk 0 ?_
            refine tk 1 ?_
            refine onl 2 (fun K hK => ?_)
            go_simp
            refine hK.out _ _ ?_
            clear hK K
            try simp only [Act.put, List.setIfInBounds_toArray, List.set_cons_zero, List.set_cons_succ]
            refine dn ?_
            go_wp2_with (fail)
            have hb1 := blk_put HB0.out 0 (.int .i64 5) rfl
            have hb2 := blk_put hb1 1 (.int .i64 (out.length : Int)) rfl
            refine bodyPost_ret (results_tc rfl _ _ B _ _ _ _ rfl (((Fr.refl (fun _ => False) _).drew).blk hb2 id) Tryd.underlying43 rfl (by kernel_rfl)) rfl ?_
            exact ⟨⟨_, [], 5, (out.length : Int), rfl, Kd.R_nil _ _ _ _ _, .inr ⟨HK.out, _, _, HBAD.out, .inr ⟨out.length, rfl, rfl, rfl, rfl⟩⟩⟩, ((HF7.out.set _ (fun h => absurd h (by omega))).set _ (fun h => absurd h (by omega))).trans (Fr.refl (fun _ => False) _).drew (fun _ _ h => h)⟩
          · go_wp2_with (fail)
            have q0 := (blk_cell HQ7.out 0).trans (show _ = some (Value.int .i64 5) from rfl)
            have q1 := (blk_cell HQ7.out 1).trans (show _ = some (Value.int .i64 (out.length : Int)) from rfl)
            have hb0 : W7.heap[B]? = some (.cells #[.int .i64 0, .int .i64 0] 43 (0, 0)) := by rw [← hB]; exact HR7.out
            have HB0 := Aside0.mk hb0
            have hc0 := (blk_cell hb0 0).trans (show _ = some (Value.int .i64 0) from rfl)
            have hc1 := (blk_cell hb0 1).trans (show _ = some (Value.int .i64 0) from rfl)
            have hf0 := blk_frozen hb0 0
            have hf1 := blk_frozen hb0 1
            clear hb0 HR7 HQ7
            go_wp2_with (fail)
            refine wp_region_last_drew (S := fun w' => w'.cell? ⟨b1, 0, none⟩ = some (.int .i64 5) ∧ w'.cell? ⟨b1, 1, none⟩ = some (.int .i64 (out.length : Int))) (ds := [2]) (by kernel_rfl) ⟨q0, q1⟩ (fun hHeld => ?_)
            refine tk 0 ?_
            refine tk 1 ?_
            refine onl 2 (fun K hK => ?_)
            go_simp
            refine hK.out _ _ ?_
            clear hK K
            try simp only [Act.put, List.setIfInBounds_toArray, List.set_cons_zero, List.set_cons_succ]
            refine dn ?_
            go_wp2_with (fail)
            have hb1 := blk_put HB0.out 0 (.int .i64 5) rfl
            have hb2 := blk_put hb1 1 (.int .i64 (out.length : Int)) rfl
            refine bodyPost_ret (results_tc rfl _ _ B _ _ _ _ rfl (((Fr.refl (fun _ => False) _).drew).blk hb2 id) Tryd.underlying43 rfl (by kernel_rfl)) rfl ?_
            exact ⟨⟨_, [], 5, (out.length : Int), rfl, Kd.R_nil _ _ _ _ _, .inr ⟨HK.out, _, _, HBAD.out, .inr ⟨out.length, rfl, rfl, rfl, rfl⟩⟩⟩, ((HF7.out.set _ (fun h => absurd h (by omega))).set _ (fun h => absurd h (by omega))).trans (Fr.refl (fun _ => False) _).drew (fun _ _ h => h)⟩
          · go_wp2_with (fail)
            have q0 := (blk_cell HQ7.out 0).trans (show _ = some (Value.int .i64 5) from rfl)
            have q1 := (blk_cell HQ7.out 1).trans (show _ = some (Value.int .i64 (out.length : Int)) from rfl)
            have hb0 : W7.heap[B]? = some (.cells #[.int .i64 0, .int .i64 0] 43 (0, 0)) := by rw [← hB]; exact HR7.out
            have HB0 := Aside0.mk hb0
            have hc0 := (blk_cell hb0 0).trans (show _ = some (Value.int .i64 0) from rfl)
            have hc1 := (blk_cell hb0 1).trans (show _ = some (Value.int .i64 0) from rfl)
            have hf0 := blk_frozen hb0 0
            have hf1 := blk_frozen hb0 1
            clear hb0 HR7 HQ7
            go_wp2_with (fail)
            refine wp_region_last_drew (S := fun w' => w'.cell? ⟨b1, 0, none⟩ = some (.int .i64 5) ∧ w'.cell? ⟨b1, 1, none⟩ = some (.int .i64 (out.length : Int))) (ds := [2]) (by kernel_rfl) ⟨q0, q1⟩ (fun hHeld => ?_)
            refine tk 0 ?_
            refine tk 1 ?_
            refine onl 2 (fun K hK => ?_)
            go_simp
            refine hK.out _ _ ?_
            clear hK K
            try simp only [Act.put, List.setIfInBounds_toArray, List.set_cons_zero, List.set_cons_succ]
            refine dn ?_
            go_wp2_with (fail)
            have hb1 := blk_put HB0.out 0 (.int .i64 5) rfl
            have hb2 := blk_put hb1 1 (.int .i64 (out.length : Int)) rfl
            refine bodyPost_ret (results_tc rfl _ _ B _ _ _ _ rfl (((Fr.refl (fun _ => False) _).drew).blk hb2 id) Tryd.underlying43 rfl (by kernel_rfl)) rfl ?_
            exact ⟨⟨_, [], 5, (out.length : Int), rfl, Kd.R_nil _ _ _ _ _, .inr ⟨HK.out, _, _, HBAD.out, .inr ⟨out.length, rfl, rfl, rfl, rfl⟩⟩⟩, ((HF7.out.set _ (fun h => absurd h (by omega))).set _ (fun h => absurd h (by omega))).trans (Fr.refl (fun _ => False) _).drew (fun _ _ h => h)⟩
        case pos =>
        obtain ⟨rfl, rfl, rfl, c1, c2, c3, c4⟩ := hall
        have hk00 := (HFI.out.1 rfl).1
        have hk0 := (HFI.out.1 rfl).2.1
        have hn10 : 0 ≤ n1 := by omega
        have hln : Calls Tryd.prog 36 #[.slice A ns.length cp, .string src, .agg #[.int .i64 k, .int .i64 n1, .int .i64 n2]] W7 fun e w' => e = .returned (.tuple #[.string (lineS ns src ⟨k, n1, n2⟩), .bool (fitT ⟨k, n1, n2⟩)]) ∧ Fr (fun _ => False) W7 w' := by
          have h := line_any W7 ns A cp (Kd.C_below HA.out HF7.out.to_below) src k.toNat n1.toNat n2.toNat (by omega) (name_size HK.out _) (by omega) (by omega) hsr (itc_of (HP.out.go HF7.out)) ⟨itB_size (by omega), itB_size (by omega)⟩
          rw [Int.toNat_of_nonneg (show 0 ≤ k by omega), Int.toNat_of_nonneg hn10, Int.toNat_of_nonneg (show 0 ≤ n2 by omega)] at h
          have hq := quote_fit src ⟨k, n1, n2⟩ hn10 c3 c4
          simp only at hq
          rw [hq] at h
          exact h
        have HLB := Aside0.mk (lineS_body ns src ⟨k, n1, n2⟩)
        have HGD := Aside0.mk (show fitT ⟨k, n1, n2⟩ = true → Good ns src at_ ⟨k, n1, n2⟩ from fun h => ⟨c1, hk0, c2, c3, c4, h⟩)
        obtain ⟨want, hwant⟩ : ∃ x, lineS ns src ⟨k, n1, n2⟩ = x := ⟨_, rfl⟩
        obtain ⟨fits, hfits⟩ : ∃ x, fitT ⟨k, n1, n2⟩ = x := ⟨_, rfl⟩
        rw [hwant, hfits] at hln
        have HWANT := Aside0.mk hwant
        have HFITS := Aside0.mk hfits
        have HLN := Aside0.mk hln
        clear hln hwant hfits
        have z0 := (blk_cell HT7.out 0).trans (show _ = some (Value.int .i64 k) from rfl)
        have z1 := (blk_cell HT7.out 1).trans (show _ = some (Value.int .i64 n1) from rfl)
        have z2 := (blk_cell HT7.out 2).trans (show _ = some (Value.int .i64 n2) from rfl)
        have d1 : ¬ k < 2 := by omega
        have d2 : ¬ n1 < at_ := by omega
        have d3 : ¬ n2 < n1 := by omega
        have d4 : ¬ (src.size : Int) < n2 := by omega
        go_wp2_with (fail)
        refine HLN.out.mono ?_
        rintro e W8 ⟨rfl, hF⟩
        have HF8 := Aside0.mk (HF7.out.trans hF (fun _ _ h => h))
        have HR8 := Aside0.mk (hF.blk HR7.out id)
        have HQ8 := Aside0.mk (hF.blk HQ7.out id)
        have HT8 := Aside0.mk (hF.blk HT7.out id)
        have HV8 := Aside0.mk (Kd.R_below HV7.out hF.to_below)
        clear hF HF7 HR7 HQ7 HT7 HV7 HLN z0 z1 z2
        cases fits with
        | false =>
          have HBAD := Aside0.mk (HRD'.out _ _ (Rd.bad p y H10.out (.inr (by
            rintro ⟨t, hg, hb⟩
            obtain ⟨_, _, _, _, _, _, _, rfl⟩ := HALL.out t hg (hb.trans HSD.out.symm)
            have := hg.2.2.2.2.2
            rw [HFITS.out] at this
            cases this))))
          clear HRD' HT8 HV8
          go_wp2_with (fail)
          have q0 := (blk_cell HQ8.out 0).trans (show _ = some (Value.int .i64 5) from rfl)
          have q1 := (blk_cell HQ8.out 1).trans (show _ = some (Value.int .i64 (out.length : Int)) from rfl)
          have hb0 : W8.heap[B]? = some (.cells #[.int .i64 0, .int .i64 0] 43 (0, 0)) := by rw [← hB]; exact HR8.out
          have HB0 := Aside0.mk hb0
          have hc0 := (blk_cell hb0 0).trans (show _ = some (Value.int .i64 0) from rfl)
          have hc1 := (blk_cell hb0 1).trans (show _ = some (Value.int .i64 0) from rfl)
          have hf0 := blk_frozen hb0 0
          have hf1 := blk_frozen hb0 1
          clear hb0 HR8 HQ8
          go_wp2_with (fail)
          refine wp_region_last_drew (S := fun w' => w'.cell? ⟨b1, 0, none⟩ = some (.int .i64 5) ∧ w'.cell? ⟨b1, 1, none⟩ = some (.int .i64 (out.length : Int))) (ds := [2]) (by kernel_rfl) ⟨q0, q1⟩ (fun hHeld => ?_)
          refine tk 0 ?_
          refine tk 1 ?_
          refine onl 2 (fun K hK => ?_)
          go_simp
          refine hK.out _ _ ?_
          clear hK K
          try simp only [Act.put, List.setIfInBounds_toArray, List.set_cons_zero, List.set_cons_succ]
          refine dn ?_
          go_wp2_with (fail)
          have hb1 := blk_put HB0.out 0 (.int .i64 5) rfl
          have hb2 := blk_put hb1 1 (.int .i64 (out.length : Int)) rfl
          refine bodyPost_ret (results_tc rfl _ _ B _ _ _ _ rfl (((Fr.refl (fun _ => False) _).drew).blk hb2 id) Tryd.underlying43 rfl (by kernel_rfl)) rfl ?_
          exact ⟨⟨_, [], 5, (out.length : Int), rfl, Kd.R_nil _ _ _ _ _, .inr ⟨HK.out, _, _, HBAD.out, .inr ⟨out.length, rfl, rfl, rfl, rfl⟩⟩⟩, ((HF8.out.set _ (fun h => absurd h (by omega))).set _ (fun h => absurd h (by omega))).trans (Fr.refl (fun _ => False) _).drew (fun _ _ h => h)⟩
        | true =>
        by_cases heq : want = s ++ ⟨#[10]⟩
        case neg =>
          have hq : (want.toList == (s ++ ⟨#[10]⟩).toList) = false := by
            rw [beq_eq_false_iff_ne]
            exact fun e => heq (toList_inj e)
          have HBAD := Aside0.mk (HRD'.out _ _ (Rd.bad p y H10.out (.inr (by
            rintro ⟨t, hg, hb⟩
            obtain ⟨_, _, _, _, _, _, _, rfl⟩ := HALL.out t hg (hb.trans HSD.out.symm)
            refine heq ?_
            rw [← HWANT.out, HLB.out, show bodyS ns src ⟨k, n1, n2⟩ = s from data_inj (hb.trans HSD.out.symm)]))))
          clear HRD' HT8 HV8 heq
          go_wp2_with (fail)
          have q0 := (blk_cell HQ8.out 0).trans (show _ = some (Value.int .i64 5) from rfl)
          have q1 := (blk_cell HQ8.out 1).trans (show _ = some (Value.int .i64 (out.length : Int)) from rfl)
          have hb0 : W8.heap[B]? = some (.cells #[.int .i64 0, .int .i64 0] 43 (0, 0)) := by rw [← hB]; exact HR8.out
          have HB0 := Aside0.mk hb0
          have hc0 := (blk_cell hb0 0).trans (show _ = some (Value.int .i64 0) from rfl)
          have hc1 := (blk_cell hb0 1).trans (show _ = some (Value.int .i64 0) from rfl)
          have hf0 := blk_frozen hb0 0
          have hf1 := blk_frozen hb0 1
          clear hb0 HR8 HQ8
          go_wp2_with (fail)
          refine wp_region_last_drew (S := fun w' => w'.cell? ⟨b1, 0, none⟩ = some (.int .i64 5) ∧ w'.cell? ⟨b1, 1, none⟩ = some (.int .i64 (out.length : Int))) (ds := [2]) (by kernel_rfl) ⟨q0, q1⟩ (fun hHeld => ?_)
          refine tk 0 ?_
          refine tk 1 ?_
          refine onl 2 (fun K hK => ?_)
          go_simp
          refine hK.out _ _ ?_
          clear hK K
          try simp only [Act.put, List.setIfInBounds_toArray, List.set_cons_zero, List.set_cons_succ]
          refine dn ?_
          go_wp2_with (fail)
          have hb1 := blk_put HB0.out 0 (.int .i64 5) rfl
          have hb2 := blk_put hb1 1 (.int .i64 (out.length : Int)) rfl
          refine bodyPost_ret (results_tc rfl _ _ B _ _ _ _ rfl (((Fr.refl (fun _ => False) _).drew).blk hb2 id) Tryd.underlying43 rfl (by kernel_rfl)) rfl ?_
          exact ⟨⟨_, [], 5, (out.length : Int), rfl, Kd.R_nil _ _ _ _ _, .inr ⟨HK.out, _, _, HBAD.out, .inr ⟨out.length, rfl, rfl, rfl, rfl⟩⟩⟩, ((HF8.out.set _ (fun h => absurd h (by omega))).set _ (fun h => absurd h (by omega))).trans (Fr.refl (fun _ => False) _).drew (fun _ _ h => h)⟩
        case pos =>
        have hq : (want.toList == (s ++ ⟨#[10]⟩).toList) = true := by
          rw [heq]
          simp
        have hbd : (bodyS ns src ⟨k, n1, n2⟩).data.toList = p := by
          have := HWANT.out
          rw [HLB.out, heq] at this
          have := congrArg (fun b : ByteArray => b.data.toList) this
          simp only [data_append] at this
          rw [← HSD.out]
          exact List.append_cancel_right this
        have HRD2 := Aside0.mk (show ∀ l r, Rd ns src (out ++ [(⟨k, n1, n2⟩ : S55)]).length n2 z.data.toList l r → Rd ns src 0 0 X.data.toList ((out ++ [(⟨k, n1, n2⟩ : S55)]) ++ l) r from by
          intro l r h
          rw [List.append_assoc]
          refine HRD'.out _ _ (Rd.tok p y ⟨k, n1, n2⟩ l r H10.out hn (HGD.out HFITS.out) hbd ?_)
          rw [HZD.out] at h
          simpa using h)
        clear HRD' heq hbd
        have z0 := (blk_cell HT8.out 0).trans (show _ = some (Value.int .i64 k) from rfl)
        have z1 := (blk_cell HT8.out 1).trans (show _ = some (Value.int .i64 n1) from rfl)
        have z2 := (blk_cell HT8.out 2).trans (show _ = some (Value.int .i64 n2) from rfl)
        have hwb : w.heap.size ≤ W8.heap.size := HF8.out.size
        go_wp2_with (at_builtin; go_must (refine Kd.R_append k55 (w0 := W8) w.heap.size rfl (.tmp 129) (.tmp 131) 23 55 (.agg #[(.int .i64 0), (.int .i64 0), (.int .i64 0)]) 24 rfl Tryd.underlying23 info55 rfl (by decide) (by omega) (.slice A3 out.length k3) out ⟨k, n1, n2⟩ [.int .i64 k, .int .i64 n1, .int .i64 n2] (fun _ => True) (fun _ => False) rfl rfl (k55_mkM _ _ _ ⟨k, n1, n2⟩) (fun _ hk => hk.elim) (fun _ _ => trivial) HV8.out (Below.refl _ _) hwb (by omega) ?_; intro v2 w2 h1 hb h2 _; have HV9 := Aside0.mk h1; have HF9 := Aside0.mk (HF8.out.grown h2 (fun _ h hx => absurd (Kd.R_base HV8.out _ h) (by omega))); have HR9 := Aside0.mk (blk_grown HR8.out h2 (Kd.R_ne HV8.out HR8.out (by decide))); clear h1 h2 hb))
        go_roundg (gk - 1)
        case measure => omega
        case rel => exact ⟨z, out ++ [(⟨k, n1, n2⟩ : S55)], n2, rfl, rfl, (by simp), by simp; omega, by omega, c4, hzg, hzX, HF9, HR9, HV9, HRD2⟩
end Go.Proofs.YtagokdbpgljgjaaDoor.Tok
