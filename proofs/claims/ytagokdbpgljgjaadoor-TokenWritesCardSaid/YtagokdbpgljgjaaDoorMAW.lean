/-
What strconv.Itoa answers, from a world on that holds its table.
-/
import Derived.Lib.AppendIntMem
import Derived.Lib.ItoaLen
import Derived.Test.YtagokdbpgljgjaaDoorMAV
import Derived.Test.YtagokdbpgljgjaaDoorMAL
import Derived.Test.YtagokdbpgljgjaaDoorMAP
import Derived.Test.YtagokdbpgljgjaaDoorMAM
import Derived.Test.YtagokdbpgljgjaaDoorMAN
import Derived.Test.YtagokdbpgljgjaaDoorMAO
import Derived.Test.YtagokdbpgljgjaaDoorMAS
set_option linter.unusedSimpArgs false
set_option linter.unusedVariables false
namespace Go.Proofs.YtagokdbpgljgjaaDoor.Tok
open Go.RowKit Go.Proofs.YtagokdbpgljgjaaDoorW.PrintWords Go.Proofs.YtagokdbpgljgjaaDoorW.PrintLast Go.Proofs.YtagokdbpgljgjaaDoorW.PrintMore Go.Proofs.YtagokdbpgljgjaaDoor.Fr Go.Proofs.YtagokdbpgljgjaaDoor.PGramFirsts Go.Proofs.YtagokdbpgljgjaaDoor.TextSet Go.Proofs.YtagokdbpgljgjaaDoor.Bld Go.Proofs.YtagokdbpgljgjaaDoor.Utf
theorem grew_fr (w : World) (k : Nat) (os : Array Obj) : Fr (fun _ => False) w (Go.Sort.grow (w.drewN k) os) :=
  ⟨rfl, rfl, rfl, Lib.size_grow w k os, fun i hi _ => by show (w.heap ++ os)[i]? = _; rw [Array.getElem?_append_left hi]⟩
/-- The table of powers of ten stands. -/
def Pow (w : World) : Prop := Lib.TabIs Tryd.prog w "internal/strconv.uint64pow10" .u64 Lib.pow10Tab
theorem Pow.go {w W : World} (h : Pow w) (hF : Fr (fun _ => False) w W) : Pow W := Lib.tabBelow_of_tabIs h W hF.to_below
theorem itc_of {w : World} (h : Pow w) : ItC w := by
  intro W hF n hn
  refine (Tryd.strconv_Itoa (n : Int) (by omega) (by omega) W (h.go hF)).mono ?_
  rintro e w' ⟨rfl, k, os, rfl⟩
  exact ⟨rfl, grew_fr W k os⟩
theorem itB_size {n : Nat} (h : n ≤ 9223372036854775807) : (itB n).size ≤ 21 := by
  have := Lib.itoa_length_le (n : Int) (by omega) (by omega)
  show ((Lib.itoa (n : Int)).toArray).size ≤ 21
  simpa using this
end Go.Proofs.YtagokdbpgljgjaaDoor.Tok
/-
A row's lines in general, by the document: quoinref07.Lines, walked where the row may be.
-/
set_option linter.unusedSimpArgs false
set_option linter.unusedVariables false
namespace Go.Proofs.YtagokdbpgljgjaaDoor.Tok
open Go.RowKit Go.Proofs.YtagokdbpgljgjaaDoorW.PrintWords Go.Proofs.YtagokdbpgljgjaaDoorW.PrintLast Go.Proofs.YtagokdbpgljgjaaDoorW.PrintMore Go.Proofs.YtagokdbpgljgjaaDoor.Fr Go.Proofs.YtagokdbpgljgjaaDoor.PGramFirsts Go.Proofs.YtagokdbpgljgjaaDoor.TextSet Go.Proofs.YtagokdbpgljgjaaDoor.Bld Go.Proofs.YtagokdbpgljgjaaDoor.Utf
/-- Is a token's text short enough to be quoted? -/
def fitT (t : S55) : Bool := decide (t.f2 - t.f1 ≤ 4096)
theorem text_of (X : List UInt8) : strOfNums (bytesI X) = ⟨X.toArray⟩ := by
  have h := nums_text X
  rw [dl] at h
  exact ByteArray.ext (Array.ext' h)
set_option maxHeartbeats 8000000 in
set_option maxRecDepth 100000 in
theorem rlines_any (w : World) (ns : List ByteArray) (A : Option Addr) (cp : Nat) (src : ByteArray) (l : List S55) (A2 : Option Addr) (c2 : Nat) (hC : Kd.C k55 w A2 l.length l) (hle : l.length ≤ 65536)
    (hok : ∀ i : Nat, i < l.length → 0 ≤ (rd_T55 l i).f1 ∧ (rd_T55 l i).f1 ≤ (rd_T55 l i).f2 ∧ (rd_T55 l i).f2 ≤ 9223372036854775807)
    (hck : Calls Tryd.prog 14 #[.slice A ns.length cp, .string src, .slice A2 l.length c2] w fun e w' => e = .returned (.tuple #[.int .i64 0, .int .i64 0]) ∧ Fr (fun _ => False) w w') (L : S55 → ByteArray) (hLs : ∀ i : Nat, i < l.length → (L (rd_T55 l i)).size ≤ 100000)
    (hL : ∀ i : Nat, i < l.length → ∀ W, Fr (fun q => w.heap.size ≤ q) w W → Calls Tryd.prog 39 #[.slice A ns.length cp, .string src, .agg #[.int .i64 (rd_T55 l i).f0, .int .i64 (rd_T55 l i).f1, .int .i64 (rd_T55 l i).f2]] W fun e w' => e = .returned (.string (L (rd_T55 l i))) ∧ Fr (fun _ => False) W w') :
    Calls Tryd.prog 19 #[.slice A ns.length cp, .string src, .slice A2 l.length c2] w fun e w' => LinesAns L fitT l e ∧ Fr (fun _ => False) w w' := by
  have HC := Aside0.mk hC
  have HL := Aside0.mk hL
  have HLS := Aside0.mk hLs
  have HCK := Aside0.mk hck
  have HOK := Aside0.mk hok
  clear hC hL hLs hck hok
  go_enter Tryd.func19, Tryd.ntmps19
  go_wp2_with (fail)
  refine HCK.out.mono ?_
  rintro e W1 ⟨rfl, hF⟩
  have HF0 := Aside0.mk hF
  clear hF
  go_wp2_with (fail)
  go_loopw [9, 10] (fun v a W => ∃ (i : Nat) (ev : Int), v = .int .i64 ev ∧ a = .int .i64 i ∧ i ≤ l.length ∧ Aside0 (ev = 0 → ∀ j : Nat, j < i → fitT (rd_T55 l j) = true) ∧ Aside0 (ev ≠ 0 → ev = 3 ∧ ∃ j : Nat, j < l.length ∧ fitT (rd_T55 l j) = false) ∧ Aside0 (Fr (fun _ => False) w W)) (fun _ a _ => l.length - (intOf a).toNat)
  case atStart => exact ⟨0, 0, rfl, rfl, Nat.zero_le _, ⟨fun _ j hj => by omega⟩, ⟨fun h => absurd rfl h⟩, HF0⟩
  case round =>
    clear HF0
    obtain ⟨i, ev, rfl, rfl, hi, HY, HN, HF⟩ := hrel
    by_cases hgo : i < l.length ∧ ev = 0
    case pos =>
      obtain ⟨hlt, rfl⟩ := hgo
      obtain ⟨ad, hA2, hx0, hx1, hx2⟩ := at_T55 HC.out (i : Int) (by omega) (by omega)
      subst hA2
      replace hx1 := HF.out.cell hx1 id
      replace hx2 := HF.out.cell hx2 id
      clear hx0
      simp only [Int.toNat_natCast] at hx1 hx2
      obtain ⟨ho1, ho2, ho3⟩ := HOK.out i hlt
      have HFI := Aside0.mk (show fitT (rd_T55 l i) = decide ((rd_T55 l i).f2 - (rd_T55 l i).f1 ≤ 4096) from rfl)
      have HYI := Aside0.mk (show fitT (rd_T55 l i) = true → ∀ j : Nat, j < i + 1 → fitT (rd_T55 l j) = true from fun h j hj => by
        by_cases e : j = i
        · subst e
          exact h
        · exact HY.out rfl j (by omega))
      have HNI := Aside0.mk (show fitT (rd_T55 l i) = false → ∃ j : Nat, j < l.length ∧ fitT (rd_T55 l j) = false from fun h => ⟨i, hlt, h⟩)
      generalize fitT (rd_T55 l i) = fb at HFI HYI HNI
      rw [show rd_T55 l i = rd_T55 l (i : Int) from rfl] at HFI ho1 ho2 ho3
      generalize rd_T55 l (i : Int) = t at hx1 hx2 HFI ho1 ho2 ho3
      obtain ⟨k, f, u⟩ := t
      simp only at hx1 hx2 ho1 ho2 ho3
      have HFD := Aside0.mk (fun m => HF.out.drewN m)
      have hsub : IntKind.i64.wrap (u - f) = u - f := by rw [IntKind.wrap_i64]; omega
      by_cases hft : u - f ≤ 4096
      · have HY2 := Aside0.mk (HYI.out (by rw [HFI.out]; exact decide_eq_true hft))
        have hcm : decide (4096 < u - f) = false := decide_eq_false (by omega)
        go_wp2_with (fail)
        go_quiet (fail)
        go_wp2_with (fail)
        exact ⟨⟨i + 1, 0, rfl, by go_num, by omega, ⟨fun _ => HY2.out⟩, ⟨fun h => absurd rfl h⟩, ⟨HFD.out nq⟩⟩, by simp [intOf]; omega⟩
      · have HE2 := Aside0.mk (HNI.out (by rw [HFI.out]; exact decide_eq_false hft))
        have hcm : decide (4096 < u - f) = true := decide_eq_true (by omega)
        go_wp2_with (fail)
        go_quiet (fail)
        go_wp2_with (fail)
        exact ⟨⟨i + 1, 3, rfl, by go_num, by omega, ⟨fun h => absurd h (by decide)⟩, ⟨fun _ => ⟨rfl, HE2.out⟩⟩, ⟨HFD.out nq⟩⟩, by simp [intOf]; omega⟩
    case neg =>
    by_cases he : ev = 0
    case neg =>
      obtain ⟨rfl, hE⟩ := HN.out he
      have HE := Aside0.mk hE
      clear hE
      by_cases hlt : i < l.length
      · go_wp2_with (fail)
        go_ret2
        exact ⟨.inr ⟨HE.out, rfl⟩, HF.out⟩
      · go_wp2_with (fail)
        go_ret2
        exact ⟨.inr ⟨HE.out, rfl⟩, HF.out⟩
    case pos =>
    subst he
    obtain rfl : i = l.length := by omega
    have HFT := Aside0.mk (HY.out rfl)
    have HR0 := Aside0.mk (show kB.R 5 wr w.heap.size (fun _ => True) (.slice none 0 0) (bytesI (linesB L (l.take 0))) from Kd.R_nil _ _ _ _ _)
    have HF1 := Aside0.mk (HF.out.mono (T := fun q => w.heap.size ≤ q) (fun _ h => h.elim))
    clear HF HY HN hgo
    go_wp2_with (fail)
    go_loopw [11, 12] (fun v a W => ∃ i : Nat, a = .int .i64 i ∧ i ≤ l.length ∧ Aside0 (kB.R 5 W w.heap.size (fun _ => True) v (bytesI (linesB L (l.take i)))) ∧ Aside0 (Fr (fun q => w.heap.size ≤ q) w W)) (fun _ a _ => l.length - (intOf a).toNat)
    case atStart => exact ⟨0, rfl, Nat.zero_le _, HR0, HF1⟩
    case round =>
      clear HR0 HF1
      obtain ⟨i, rfl, hi2, HR, HF⟩ := hrel
      by_cases hlt : i < l.length
      case neg =>
        obtain rfl : i = l.length := by omega
        obtain ⟨CA, cc, hv⟩ := Kd.R_slice HR.out
        subst hv
        have hcv := Kd.C_string (P := Tryd.prog) (A := CA) (c := cc) Tryd.underlying77 Tryd.underlying5 Tryd.underlying9 (Kd.R_reads' HR.out).2.2
        rw [text_of, List.take_length] at hcv
        rw [List.take_length]
        generalize (bytesI (linesB L l)).length = bl at hcv ⊢
        have HFE := Aside0.mk (none_of HF.out)
        clear HR HF
        go_wp2_with (fail)
        go_ret2
        exact ⟨.inl ⟨HFT.out, rfl⟩, HFE.out⟩
      case pos =>
      obtain ⟨ad, hA2, hx0, hx1, hx2⟩ := at_T55 HC.out (i : Int) (by omega) (by omega)
      subst hA2
      have hb0 := World.block_lt_of_cell? w _ hx0
      have hb1 := World.block_lt_of_cell? w _ hx1
      have hb2 := World.block_lt_of_cell? w _ hx2
      replace hx0 := HF.out.cell hx0 (by omega)
      replace hx1 := HF.out.cell hx1 (by omega)
      replace hx2 := HF.out.cell hx2 (by omega)
      clear hb0 hb1 hb2
      simp only [Int.toNat_natCast] at hx0 hx1 hx2
      have HT := Aside0.mk (linesB_take L l i hlt)
      have hl1 := linesB_size L l HLS.out i hi2
      have hl2 := HLS.out i hlt
      have HC1 := Aside0.mk (HL.out i hlt wr HF.out)
      generalize L (rd_T55 l i) = lt at HT HC1 hl2
      rw [show rd_T55 l i = rd_T55 l (i : Int) from rfl] at HC1
      generalize rd_T55 l (i : Int) = t at hx0 hx1 hx2 HC1
      obtain ⟨k, f, u⟩ := t
      go_wp2_with (fail)
      refine HC1.out.mono ?_
      rintro e W2 ⟨rfl, hF2⟩
      have HR2 := Aside0.mk (Kd.R_below HR.out hF2.to_below)
      have HF2 := Aside0.mk (HF.out.trans hF2 (fun _ _ h => h.elim))
      have hsz := HF2.out.size
      clear hF2 HR HF HC1
      go_wp2_with (first | ((with_reducible refine gate_builtin (b := .append) (xs := #[.tmp 51, .tmp 58]) rfl ?_); at_builtin; refine app_text w.heap.size rfl (.tmp 51) (.tmp 58) 9 rfl Tryd.underlying9 _ _ lt rfl rfl HR2.out hsz (by omega) ?_; intro v3 W3 h3 hg3; rw [HT.out] at h3; have HR3 := Aside0.mk h3; have HF3 := Aside0.mk (HF2.out.grown hg3 (fun k hk _ => Kd.R_base HR2.out k hk)); clear h3 hg3))
      exact ⟨⟨i + 1, by go_num, by omega, HR3, HF3⟩, by simp [intOf]; omega⟩
end Go.Proofs.YtagokdbpgljgjaaDoor.Tok
/-
What the reference says of names, kinds and rows is what the program says: in plain Lean.
-/
set_option linter.unusedSimpArgs false
set_option linter.unusedVariables false
namespace Go.Proofs.YtagokdbpgljgjaaDoor.Tok
open Go.RowKit Go.Proofs.YtagokdbpgljgjaaDoorW.PrintWords Go.Proofs.YtagokdbpgljgjaaDoorW.PrintLast Go.Proofs.YtagokdbpgljgjaaDoorW.PrintMore Go.Proofs.YtagokdbpgljgjaaDoor.PGramFirsts Go.Proofs.YtagokdbpgljgjaaDoor.TextSet
theorem Fin.bind {α β : Type} {f : Nat → Option α} {a : α} {g : Nat → α → Option β} {r : β} (h : Fin f a) (hg : Fin (fun k => g k a) r) : Fin (fun k => (f k).bind (g k)) r := by
  obtain ⟨K, hK⟩ := h
  obtain ⟨M, hM⟩ := hg
  exact ⟨max K M, fun k hk => by
    show (f k).bind (g k) = _
    rw [hK k (by omega), Option.bind_some]; exact hM k (by omega)⟩
/-- May a byte stand at a place of a name? -/
def okc (c i : Int) : Bool := decide ((97 ≤ c ∧ c ≤ 122) ∨ (65 ≤ c ∧ c ≤ 90) ∨ c = 95 ∨ (0 < i ∧ 48 ≤ c ∧ c ≤ 57))
theorem named_step (k : Nat) (s : ByteArray) (i : Nat) (h : i < s.size) : token_named.l0 (k + 1) s i = if okc (bt s i) i = true then token_named.l0 k s (wrap64 ((i : Int) + 1)) else some false := by
  rw [token_named.l0, if_pos (by omega), if_pos (by omega)]
  generalize bt s i = c
  generalize token_named.l0 k s (wrap64 ((i : Int) + 1)) = r
  by_cases hc : okc c i = true
  · rw [if_pos hc]
    unfold okc at hc
    have hc := of_decide_eq_true hc
    repeat' split
    all_goals first | rfl | omega
  · rw [if_neg hc]
    unfold okc at hc
    have hc := fun h => hc (decide_eq_true h)
    repeat' split
    all_goals first | rfl | (exfalso; apply hc; omega)
theorem refname_step (k : Nat) (s : ByteArray) (i : Nat) (h : i < s.size) : quoinref07_name.l0 (k + 1) s i = if okc (bt s i) i = true then quoinref07_name.l0 k s (wrap64 ((i : Int) + 1)) else some false := by
  rw [quoinref07_name.l0, if_pos (by omega), if_pos (by omega)]
  generalize bt s i = c
  generalize quoinref07_name.l0 k s (wrap64 ((i : Int) + 1)) = r
  by_cases hc : okc c i = true
  · rw [if_pos hc]
    unfold okc at hc
    have hc := of_decide_eq_true hc
    repeat' split
    all_goals first | rfl | omega
  · rw [if_neg hc]
    unfold okc at hc
    have hc := fun h => hc (decide_eq_true h)
    repeat' split
    all_goals first | rfl | (exfalso; apply hc; omega)
theorem name_fin (s : ByteArray) (hs : s.size ≤ maxLen) (h1 : 1 ≤ s.size) : ∀ (n i : Nat) (r : Bool), i + n = s.size → token_named.l0 (n + 1) s i = some r → (s.size ≤ 64 → Fin (fun k => quoinref07_name.l0 k s i) r) ∧ (64 < s.size → r = false)
  | 0, i, r, h, he => by
    rw [token_named.l0, if_neg (by omega), if_pos (by omega)] at he
    injection he with he
    refine ⟨fun h2 => Fin.one (fun k => ?_), fun h2 => ?_⟩
    · show quoinref07_name.l0 (k + 1) _ _ = _
      rw [quoinref07_name.l0, if_neg (by omega), ← he]
      congr 1
      exact (decide_eq_true (by omega)).symm
    · rw [← he]
      exact decide_eq_false (by omega)
  | n + 1, i, r, h, he => by
    have hm : maxLen ≤ 9223372036854775807 := by decide
    rw [named_step _ _ _ (by omega)] at he
    by_cases hc : okc (bt s i) i = true
    · rw [if_pos hc, wrapN _ (by omega)] at he
      obtain ⟨h2, h3⟩ := name_fin s hs h1 n (i + 1) r (by omega) he
      refine ⟨fun h4 => (h2 h4).step (fun k => ?_), h3⟩
      show quoinref07_name.l0 (k + 1) _ _ = _
      rw [refname_step _ _ _ (by omega), if_pos hc, wrapN _ (by omega)]
    · rw [if_neg hc] at he
      injection he with he
      refine ⟨fun _ => Fin.one (fun k => ?_), fun _ => he.symm⟩
      show quoinref07_name.l0 (k + 1) _ _ = _
      rw [refname_step _ _ _ (by omega), if_neg hc, he]
theorem name_some (s : ByteArray) (hs : s.size ≤ maxLen) : Fin (fun k => quoinref07_name.f k s) (named s) := by
  have hn := named_some s hs
  have hn : token_named.l0 (s.size + 1) s 0 = some (named s) := hn
  by_cases h1 : s.size < 1
  · have h0 : s.size = 0 := by omega
    rw [h0, token_named.l0, if_neg (by omega), if_neg (by omega)] at hn
    injection hn with hn
    rw [← hn]
    refine Fin.one (fun k => ?_)
    show quoinref07_name.f (k + 1) s = _
    rw [quoinref07_name.f, if_pos (by omega), quoinref07_name.j0, if_pos rfl]
  · obtain ⟨h2, h3⟩ := name_fin s hs (by omega) s.size 0 (named s) (by omega) hn
    by_cases h4 : 64 < s.size
    · rw [h3 h4]
      refine Fin.one (fun k => ?_)
      show quoinref07_name.f (k + 1) s = _
      rw [quoinref07_name.f, if_neg (by omega), decide_eq_true (by omega), quoinref07_name.j0, if_pos rfl]
    · refine (h2 (by omega)).step (fun k => ?_)
      show quoinref07_name.f (k + 1) s = _
      rw [quoinref07_name.f, if_neg (by omega), decide_eq_false (by omega), quoinref07_name.j0, if_neg (by decide)]
      rfl
theorem toList_inj {a b : ByteArray} (h : a.toList = b.toList) : a = b := by
  refine ByteArray.ext (Array.toList_inj.mp ?_)
  rw [← ByteArray.toList_eq, ← ByteArray.toList_eq, h]
/-- The names before a place are names, and no two are the same. -/
def Upto (ns : List ByteArray) (i : Nat) : Prop := ∀ j, j < i → named (rdS ns j) = true ∧ ∀ k, k < j → rdS ns k ≠ rdS ns j
theorem upto_ok {ns : List ByteArray} (h2 : 2 ≤ ns.length) (h3 : ns.length ≤ 1024) (e0 : (rdS ns 0).toList = [101, 110, 100]) (e1 : (rdS ns 1).toList = [101, 114, 114, 111, 114]) (h : Upto ns ns.length) : KindsOk ns := by
  refine ⟨h2, h3, e0, e1, fun s hs => ?_, ?_⟩
  · obtain ⟨i, hi, rfl⟩ := List.mem_iff_getElem.1 hs
    have := (h i hi).1
    simpa [rdS, rdOf, List.getD_eq_getElem?_getD, hi] using this
  · rw [List.nodup_iff_pairwise_ne, List.pairwise_iff_getElem]
    intro i j hi hj hij
    have := (h j hj).2 i hij
    simpa [rdS, rdOf, List.getD_eq_getElem?_getD, hi, hj] using this
theorem ok_upto {ns : List ByteArray} (h : KindsOk ns) : Upto ns ns.length := by
  intro j hj
  refine ⟨h.all _ (rdS_mem hj), fun k hk he => ?_⟩
  have := h.nodup
  rw [List.nodup_iff_pairwise_ne, List.pairwise_iff_getElem] at this
  refine this k j (by omega) hj hk ?_
  simpa [rdS, rdOf, List.getD_eq_getElem?_getD, hj, show k < ns.length by omega] using he
def RK (ns : List ByteArray) (r : Bool) : Prop := r = true ↔ Upto ns ns.length
theorem l1_fin (ns : List ByteArray) (h3 : ns.length ≤ 1024) (i : Nat) (hi : i < ns.length) (hn : named (rdS ns i) = true) (r : Bool) (hr : RK ns r) (hU : Upto ns (i + 1) → Fin (fun k => quoinref07_Kinds.l0 k ns ((i + 1 : Nat) : Int)) r) (h0 : Upto ns i) : ∀ (n j : Nat), j + n = i → (∀ k, k < j → rdS ns k ≠ rdS ns i) → Fin (fun k => quoinref07_Kinds.l1 k ns i j) r
  | 0, j, h, hj => by
    have hu : Upto ns (i + 1) := fun a ha => by
      by_cases hai : a = i
      · subst hai
        exact ⟨hn, fun k hk => hj k (by omega)⟩
      · exact h0 a (by omega)
    refine (hU hu).step (fun k => ?_)
    show quoinref07_Kinds.l1 (k + 1) _ _ _ = _
    rw [quoinref07_Kinds.l1, if_neg (by omega), wrapN _ (by omega)]
  | n + 1, j, h, hj => by
    by_cases he : (rdOf ByteArray.empty ns j).toList = (rdOf ByteArray.empty ns i).toList
    · have hr0 : r = false := by
        rw [← Bool.not_eq_true]
        intro hrt
        exact (hr.1 hrt i hi).2 j (by omega) (toList_inj he)
      rw [hr0]
      refine Fin.one (fun k => ?_)
      show quoinref07_Kinds.l1 (k + 1) _ _ _ = _
      rw [quoinref07_Kinds.l1, if_pos (by omega), if_pos (by omega), if_pos (by omega), if_pos (by omega), if_pos (by omega), if_pos he]
    · refine (l1_fin ns h3 i hi hn r hr hU h0 n (j + 1) (by omega) (fun k hk => ?_)).step (fun k => ?_)
      · by_cases hkj : k = j
        · subst hkj
          intro e
          exact he (by rw [show rdOf ByteArray.empty ns (k : Int) = rdS ns k from rfl, e]; rfl)
        · exact hj k (by omega)
      · show quoinref07_Kinds.l1 (k + 1) _ _ _ = _
        rw [quoinref07_Kinds.l1, if_pos (by omega), if_pos (by omega), if_pos (by omega), if_pos (by omega), if_pos (by omega), if_neg he, wrapN _ (by omega)]
theorem l0_fin (ns : List ByteArray) (h3 : ns.length ≤ 1024) (hs : ∀ s, s ∈ ns → s.size ≤ maxLen) (r : Bool) (hr : RK ns r) : ∀ (n i : Nat), i + n = ns.length → Upto ns i → Fin (fun k => quoinref07_Kinds.l0 k ns i) r
  | 0, i, h, hu => by
    obtain rfl : i = ns.length := by omega
    rw [hr.2 hu]
    refine Fin.one (fun k => ?_)
    show quoinref07_Kinds.l0 (k + 1) _ _ = _
    rw [quoinref07_Kinds.l0, if_neg (by omega)]
  | n + 1, i, h, hu => by
    have hi : i < ns.length := by omega
    have hf := name_some (rdS ns i) (hs _ (rdS_mem hi))
    by_cases hn : named (rdS ns i) = true
    · rw [hn] at hf
      have hl := l1_fin ns h3 i hi hn r hr (fun hu' => l0_fin ns h3 hs r hr n (i + 1) (by omega) hu') hu i 0 (by omega) (fun k hk => absurd hk (by omega))
      refine Fin.step (g := fun k => (quoinref07_name.f k (rdS ns i)).bind fun t108 => (if t108 = true then (quoinref07_Kinds.l1 k ns i ((0 : Nat) : Int)) else (some false))) (hf.bind (by simpa using hl)) (fun k => ?_)
      show quoinref07_Kinds.l0 (k + 1) _ _ = _
      rw [quoinref07_Kinds.l0, if_pos (by omega), if_pos (by omega)]
      rfl
    · have hr0 : r = false := by
        rw [← Bool.not_eq_true]
        intro hrt
        exact hn (hr.1 hrt i hi).1
      rw [Bool.not_eq_true] at hn
      rw [hn] at hf
      rw [hr0]
      refine Fin.step (g := fun k => (quoinref07_name.f k (rdS ns i)).bind fun t108 => (if t108 = true then (quoinref07_Kinds.l1 k ns i ((0 : Nat) : Int)) else (some false))) (hf.bind (Fin.one (fun k => by simp))) (fun k => ?_)
      show quoinref07_Kinds.l0 (k + 1) _ _ = _
      rw [quoinref07_Kinds.l0, if_pos (by omega), if_pos (by omega)]
      rfl
/-- The reference's Kinds. -/
theorem kinds_fin (ns : List ByteArray) (hs : ∀ s, s ∈ ns → s.size ≤ maxLen) : ∃ r : Bool, (r = true ↔ KindsOk ns) ∧ Fin (fun k => quoinref07_Kinds.f k ns) r := by
  have no : ∀ b : Bool, b = true → Fin (fun k => quoinref07_Kinds.j0 k ns b) false := fun b hb => Fin.one (fun k => by
    show quoinref07_Kinds.j0 (k + 1) _ _ = _
    rw [quoinref07_Kinds.j0, if_pos hb])
  by_cases h2 : ns.length < 2
  · refine ⟨false, ⟨fun h => (by cases h), fun h => by have := h.two; omega⟩, ?_⟩
    simp only [quoinref07_Kinds.f, if_pos (show (ns.length : Int) < 2 by omega)]
    exact no _ rfl
  by_cases h3 : 1024 < ns.length
  · refine ⟨false, ⟨fun h => (by cases h), fun h => by have := h.max; omega⟩, ?_⟩
    simp only [quoinref07_Kinds.f, if_neg (show ¬ (ns.length : Int) < 2 by omega), if_pos (show (ns.length : Int) > 1024 by omega)]
    exact no _ rfl
  by_cases e0 : (rdOf ByteArray.empty ns 0).toList = [101, 110, 100]
  case neg =>
    refine ⟨false, ⟨fun h => (by cases h), fun h => absurd h.fst e0⟩, ?_⟩
    simp only [quoinref07_Kinds.f, if_neg (show ¬ (ns.length : Int) < 2 by omega), if_neg (show ¬ (ns.length : Int) > 1024 by omega), if_pos (show 0 < (ns.length : Int) by omega), if_neg e0]
    exact no _ rfl
  by_cases e1 : (rdOf ByteArray.empty ns 1).toList = [101, 114, 114, 111, 114]
  case neg =>
    refine ⟨false, ⟨fun h => (by cases h), fun h => absurd h.snd e1⟩, ?_⟩
    simp only [quoinref07_Kinds.f, if_neg (show ¬ (ns.length : Int) < 2 by omega), if_neg (show ¬ (ns.length : Int) > 1024 by omega), if_pos (show 0 < (ns.length : Int) by omega), if_pos e0, if_pos (show 1 < (ns.length : Int) by omega)]
    exact no _ (by rw [bne_iff_ne]; exact e1)
  obtain ⟨r, hr⟩ : ∃ r : Bool, RK ns r := by
    by_cases hu : Upto ns ns.length
    · exact ⟨true, ⟨fun _ => hu, fun _ => rfl⟩⟩
    · exact ⟨false, ⟨fun h => (by cases h), fun h => absurd h hu⟩⟩
  refine ⟨r, ⟨fun h => upto_ok (by omega) (by omega) e0 e1 (hr.1 h), fun h => hr.2 (ok_upto h)⟩, ?_⟩
  have hf := l0_fin ns (by omega) hs r hr ns.length 0 (by omega) (fun j hj => absurd hj (by omega))
  simp only [quoinref07_Kinds.f, if_neg (show ¬ (ns.length : Int) < 2 by omega), if_neg (show ¬ (ns.length : Int) > 1024 by omega), if_pos (show 0 < (ns.length : Int) by omega), if_pos e0, if_pos (show 1 < (ns.length : Int) by omega)]
  refine hf.step (fun k => ?_)
  show quoinref07_Kinds.j0 (k + 1) _ _ = _
  rw [quoinref07_Kinds.j0, if_neg (by rw [Bool.not_eq_true, bne_eq_false_iff_eq]; exact e1)]
  rfl
/-- The place behind the token ahead. -/
def behind (l : List S55) (i : Nat) : Int := if i = 0 then 0 else (rd_T55 l ((i - 1 : Nat) : Int)).f2
theorem right_some (kinds : Nat) (src : ByteArray) (l : List S55) (hl : l.length ≤ 65536) (i : Nat) (hi : i < l.length) : quoinref07_right.f kinds src l i = some (rightT kinds src.size (behind l i) (rd_T55 l i)) := by
  unfold quoinref07_right.f
  rw [if_pos (by omega), if_pos (by omega)]
  unfold behind rightT
  generalize rd_T55 l i = t
  by_cases h0 : i = 0
  · subst h0
    rw [if_neg (by omega), if_pos rfl]
    by_cases g1 : t.f0 ≥ 2
    · rw [if_pos g1]
      by_cases g2 : t.f0 < kinds
      · rw [if_pos g2]
        by_cases g3 : t.f1 ≥ 0
        · rw [if_pos g3]
          by_cases g4 : t.f1 ≤ t.f2
          · rw [if_pos g4]
            congr 1
            exact decide_eq_decide.2 (by omega)
          · rw [if_neg g4, decide_eq_false (by omega)]
        · rw [if_neg g3, decide_eq_false (by omega)]
      · rw [if_neg g2, decide_eq_false (by omega)]
    · rw [if_neg g1, decide_eq_false (by omega)]
  · rw [if_pos (by omega), if_neg h0]
    have hw : wrap64 ((i : Int) - 1) = ((i - 1 : Nat) : Int) := by simp only [wrap64]; omega
    rw [hw, if_pos (by omega), if_pos (by omega)]
    generalize rd_T55 l ((i - 1 : Nat) : Int) = u
    by_cases g1 : t.f0 ≥ 2
    · rw [if_pos g1]
      by_cases g2 : t.f0 < kinds
      · rw [if_pos g2]
        by_cases g3 : t.f1 ≥ u.f2
        · rw [if_pos g3]
          by_cases g4 : t.f1 ≤ t.f2
          · rw [if_pos g4]
            congr 1
            exact decide_eq_decide.2 (by omega)
          · rw [if_neg g4, decide_eq_false (by omega)]
        · rw [if_neg g3, decide_eq_false (by omega)]
      · rw [if_neg g2, decide_eq_false (by omega)]
    · rw [if_neg g1, decide_eq_false (by omega)]
theorem chk_fin (ns : List ByteArray) (src : ByteArray) (l : List S55) (hl : l.length ≤ 65536) : ∀ (n i : Nat), i + n = l.length → Fin (fun k => quoinref07_Check.l0 k ns src l i) (checkF ns.length src.size (behind l i) i (l.drop i))
  | 0, i, h => by
    rw [List.drop_of_length_le (by omega)]
    refine Fin.one (fun k => ?_)
    show quoinref07_Check.l0 (k + 1) _ _ _ _ = _
    rw [quoinref07_Check.l0, if_neg (by omega)]
    rfl
  | n + 1, i, h => by
    have hr := right_some ns.length src l hl i (by omega)
    have hb : behind l (i + 1) = (rd_T55 l i).f2 := by unfold behind; rw [if_neg (by omega)]; rfl
    rw [rdT_drop (by omega : i < l.length), checkF]
    cases ht : rightT ns.length src.size (behind l i) (rd_T55 l i) with
    | true =>
      rw [ht] at hr
      have ih := chk_fin ns src l hl n (i + 1) (by omega)
      rw [hb] at ih
      rw [if_pos rfl]
      refine ih.step (fun k => ?_)
      show quoinref07_Check.l0 (k + 1) _ _ _ _ = _
      rw [quoinref07_Check.l0, if_pos (by omega), hr, Option.bind_some, if_pos rfl, wrapN _ (by omega)]
    | false =>
      rw [ht] at hr
      rw [if_neg (by decide)]
      refine Fin.one (fun k => ?_)
      show quoinref07_Check.l0 (k + 1) _ _ _ _ = _
      rw [quoinref07_Check.l0, if_pos (by omega), hr, Option.bind_some, if_neg (by decide)]
/-- The reference's Check. -/
theorem check_fin (ns : List ByteArray) (hs : ∀ s, s ∈ ns → s.size ≤ maxLen) (src : ByteArray) (l : List S55) : ∃ a b : Int, (KindsOk ns → l.length ≤ 65536 → (a, b) = checkF ns.length src.size 0 0 l) ∧ (KindsOk ns → 65536 < l.length → (a, b) = (65536, 71)) ∧ (¬ KindsOk ns → (a, b) = (0, 70)) ∧ ∃ k, quoinref07_Check.f k ns src l = some (a, b) := by
  obtain ⟨r, hr, hf⟩ := kinds_fin ns hs
  cases r with
  | false =>
    have hn : ¬ KindsOk ns := fun h => by have := hr.2 h; cases this
    refine ⟨0, 70, fun h => absurd h hn, fun h => absurd h hn, fun _ => rfl, ?_⟩
    obtain ⟨k, hk⟩ := hf.get
    exact ⟨k, by rw [quoinref07_Check.f, hk, Option.bind_some, if_neg (by decide)]⟩
  | true =>
    have hy := hr.1 rfl
    by_cases hl : 65536 < l.length
    · refine ⟨65536, 71, fun _ h => by omega, fun _ _ => rfl, fun h => absurd hy h, ?_⟩
      obtain ⟨k, hk⟩ := hf.get
      exact ⟨k, by rw [quoinref07_Check.f, hk, Option.bind_some, if_pos rfl, if_pos (by omega)]⟩
    · have hc := chk_fin ns src l (by omega) l.length 0 (by omega)
      rw [List.drop_zero] at hc
      have hc : Fin (fun k => quoinref07_Check.l0 k ns src l 0) (checkF ns.length src.size 0 0 l) := hc
      refine ⟨(checkF ns.length src.size 0 0 l).1, (checkF ns.length src.size 0 0 l).2, fun _ _ => rfl, fun _ h => absurd h hl, fun h => absurd hy h, ?_⟩
      have h2 := hf.bind (g := fun k t => if t = true then (if (l.length : Int) > 65536 then (some (65536, 71)) else (quoinref07_Check.l0 k ns src l 0)) else (some (0, 70))) (r := checkF ns.length src.size 0 0 l) (by
        simp only [if_pos, if_neg (show ¬ ((l.length : Int) > 65536) by omega)]
        exact hc)
      exact h2.get
end Go.Proofs.YtagokdbpgljgjaaDoor.Tok
/-
The law of what is a row, walked.
-/
set_option linter.unusedSimpArgs false
set_option linter.unusedVariables false
namespace Go.Proofs.YtagokdbpgljgjaaDoor.Tok
open Go.RowKit Go.Proofs.YtagokdbpgljgjaaDoorW.PrintWords Go.Proofs.YtagokdbpgljgjaaDoorW.PrintLast Go.Proofs.YtagokdbpgljgjaaDoorW.PrintMore Go.Proofs.YtagokdbpgljgjaaDoor.Fr Go.Proofs.YtagokdbpgljgjaaDoor.PGramFirsts Go.Proofs.YtagokdbpgljgjaaDoor.TextSet Go.Proofs.YtagokdbpgljgjaaDoor.Bld
/-- What Check answers. -/
def ckF (ns : List ByteArray) (src : ByteArray) (l : List S55) (p : Int × Int) : Prop := (KindsOk ns → l.length ≤ 65536 → p = checkF ns.length src.size 0 0 l) ∧ (KindsOk ns → 65536 < l.length → p = (65536, 71)) ∧ (¬ KindsOk ns → p = (0, 70))
theorem ckF_one {ns : List ByteArray} {src : ByteArray} {l : List S55} {p q : Int × Int} (h : ckF ns src l p) (k : ckF ns src l q) : p = q := by
  by_cases h1 : KindsOk ns
  · by_cases h2 : l.length ≤ 65536
    · rw [h.1 h1 h2, k.1 h1 h2]
    · rw [h.2.1 h1 (by omega), k.2.1 h1 (by omega)]
  · rw [h.2.2 h1, k.2.2 h1]
def CheckPost (w : World) (p : Int × Int) (e : Ending) (w' : World) : Prop := e = .returned (.tuple #[.int .i64 p.1, .int .i64 p.2]) ∧ Fr (fun _ => False) w w'
theorem refcheck_calls (w : World) (ns : List ByteArray) (A : Option Addr) (c : Nat) (hA : Kd.string.C w A ns.length ns) (hc : ns.length ≤ c) (hs : ∀ s, s ∈ ns → s.size ≤ maxLen) (src : ByteArray) (l : List S55) (A2 : Option Addr) (c2 : Nat) (hC : Kd.C k55 w A2 l.length l) (hc2 : l.length ≤ c2) (p : Int × Int) (hp : ckF ns src l p) :
    Calls Tryd.prog 14 #[.slice A ns.length c, .string src, .slice A2 l.length c2] w (CheckPost w p) := by
  obtain ⟨a, b, h1, h2, h3, k, hk⟩ := check_fin ns hs src l
  obtain rfl : p = (a, b) := ckF_one hp ⟨h1, h2, h3⟩
  exact (quoinref07_Check.calls k A c ns src A2 c2 l a b w hA hc hC hc2 hk).mono fun _ _ ⟨h, hd⟩ => ⟨h, Fr.of_below hd⟩
theorem mycheck_calls (w : World) (ns : List ByteArray) (A : Option Addr) (c : Nat) (hA : Kd.string.C w A ns.length ns) (hs : ∀ s, s ∈ ns → s.size ≤ maxLen) (src : ByteArray) (l : List S55) (A2 : Option Addr) (c2 : Nat) (hC : Kd.C k55 w A2 l.length l) (p : Int × Int) (hp : ckF ns src l p) :
    Calls Tryd.prog 13 #[.slice A ns.length c, .string src, .slice A2 l.length c2] w (CheckPost w p) := by
  refine (check_calls w ns A c hA hs src l A2 c2 hC).mono ?_
  rintro e w' ⟨⟨a, b, he, h1, h2, h3⟩, hF⟩
  obtain rfl : p = (a, b) := ckF_one hp ⟨h1, h2, h3⟩
  exact ⟨he, hF⟩
theorem ckF_some (ns : List ByteArray) (src : ByteArray) (l : List S55) : ∃ p, ckF ns src l p := by
  by_cases h1 : KindsOk ns
  · by_cases h2 : l.length ≤ 65536
    · exact ⟨_, fun _ _ => rfl, fun _ h => absurd h2 (by omega), fun h => absurd h1 h⟩
    · exact ⟨(65536, 71), fun _ h => absurd h h2, fun _ _ => rfl, fun h => absurd h1 h⟩
  · exact ⟨(0, 70), fun h => absurd h h1, fun h => absurd h h1, fun _ => rfl⟩
end Go.Proofs.YtagokdbpgljgjaaDoor.Tok
/-
The law TokenWrites, walked: what both Lines answer of any row is the same.
-/
set_option linter.unusedSimpArgs false
set_option linter.unusedVariables false
namespace Go.Proofs.YtagokdbpgljgjaaDoor.Tok
open Go.RowKit Go.Proofs.YtagokdbpgljgjaaDoorW.PrintWords Go.Proofs.YtagokdbpgljgjaaDoorW.PrintLast Go.Proofs.YtagokdbpgljgjaaDoorW.PrintMore Go.Proofs.YtagokdbpgljgjaaDoor.Fr Go.Proofs.YtagokdbpgljgjaaDoor.PGramFirsts Go.Proofs.YtagokdbpgljgjaaDoor.TextSet Go.Proofs.YtagokdbpgljgjaaDoor.Bld Go.Proofs.YtagokdbpgljgjaaDoor.Utf
theorem checkF_all {kinds n : Nat} : ∀ (l : List S55) (at_ i : Int) (a : Int), 0 ≤ at_ → checkF kinds n at_ i l = (a, 0) → a = 0 ∧ ∀ t, t ∈ l → 2 ≤ t.f0 ∧ t.f0 < kinds ∧ 0 ≤ t.f1 ∧ t.f1 ≤ t.f2 ∧ t.f2 ≤ n
  | [], at_, i, a, _, h => by
    have : a = 0 := by simpa [checkF] using (congrArg Prod.fst h).symm
    exact ⟨this, fun t ht => by cases ht⟩
  | t :: l, at_, i, a, h0, h => by
    by_cases hr : 2 ≤ t.f0 ∧ t.f0 < kinds ∧ at_ ≤ t.f1 ∧ t.f1 ≤ t.f2 ∧ t.f2 ≤ n
    · rw [checkF_yes hr] at h
      obtain ⟨h1, h2⟩ := checkF_all l t.f2 (i + 1) a (by omega) h
      refine ⟨h1, fun x hx => ?_⟩
      rcases List.mem_cons.1 hx with rfl | hx
      · exact ⟨hr.1, hr.2.1, by omega, hr.2.2.2.1, hr.2.2.2.2⟩
      · exact h2 x hx
    · rw [checkF_no hr] at h
      have := congrArg Prod.snd h
      simp at this
theorem ck_ok {ns : List ByteArray} {src : ByteArray} {l : List S55} {p : Int × Int} (h : ckF ns src l p) (h0 : p.2 = 0) : p = (0, 0) ∧ KindsOk ns ∧ l.length ≤ 65536 ∧ checkF ns.length src.size 0 0 l = (0, 0) ∧ ∀ t, t ∈ l → 2 ≤ t.f0 ∧ t.f0 < ns.length ∧ 0 ≤ t.f1 ∧ t.f1 ≤ t.f2 ∧ t.f2 ≤ src.size := by
  by_cases h1 : KindsOk ns
  · by_cases h2 : l.length ≤ 65536
    · have h3 := h.1 h1 h2
      obtain ⟨a, b⟩ := p
      simp only at h0
      subst h0
      obtain ⟨h4, h5⟩ := checkF_all l 0 0 a (Int.le_refl _) h3.symm
      subst h4
      exact ⟨rfl, h1, h2, h3.symm, h5⟩
    · rw [h.2.1 h1 (by omega)] at h0
      simp at h0
  · rw [h.2.2 h1] at h0
    simp at h0
set_option maxRecDepth 100000 in
theorem lines_no (w : World) (ns : List ByteArray) (A : Option Addr) (cp : Nat) (hA : Kd.string.C w A ns.length ns) (hs : ∀ s, s ∈ ns → s.size ≤ maxLen) (src : ByteArray) (l : List S55) (A2 : Option Addr) (c2 : Nat) (hC : Kd.C k55 w A2 l.length l) (a b : Int) (hp : ckF ns src l (a, b)) (hb : ¬ b = 0) :
    Calls Tryd.prog 18 #[.slice A ns.length cp, .string src, .slice A2 l.length c2] w fun e w' => e = .returned (.tuple #[.string ⟨#[]⟩, .int .i64 b]) ∧ Fr (fun _ => False) w w' := by
  have HK := Aside0.mk (mycheck_calls w ns A cp hA hs src l A2 c2 hC (a, b) hp)
  clear hA hC hs hp
  go_enter Tryd.func18, Tryd.ntmps18
  go_wp2_with (fail)
  refine HK.out.mono ?_
  rintro e W1 ⟨rfl, hF⟩
  have HF := Aside0.mk hF
  clear hF HK
  go_wp2_with (fail)
  go_ret2
  exact ⟨rfl, HF.out⟩
set_option maxRecDepth 100000 in
theorem rlines_no (w : World) (ns : List ByteArray) (A : Option Addr) (cp : Nat) (hA : Kd.string.C w A ns.length ns) (hcp : ns.length ≤ cp) (hs : ∀ s, s ∈ ns → s.size ≤ maxLen) (src : ByteArray) (l : List S55) (A2 : Option Addr) (c2 : Nat) (hC : Kd.C k55 w A2 l.length l) (hc2 : l.length ≤ c2) (a b : Int) (hp : ckF ns src l (a, b)) (hb : ¬ b = 0) :
    Calls Tryd.prog 19 #[.slice A ns.length cp, .string src, .slice A2 l.length c2] w fun e w' => e = .returned (.tuple #[.string ⟨#[]⟩, .int .i64 b]) ∧ Fr (fun _ => False) w w' := by
  have HK := Aside0.mk (refcheck_calls w ns A cp hA hcp hs src l A2 c2 hC hc2 (a, b) hp)
  clear hA hC hs hp
  go_enter Tryd.func19, Tryd.ntmps19
  go_wp2_with (fail)
  refine HK.out.mono ?_
  rintro e W1 ⟨rfl, hF⟩
  have HF := Aside0.mk hF
  clear hF HK
  go_wp2_with (fail)
  by_cases hl : 0 < l.length
  · refine wp_loop_rounds 1 ?_
    rw [rounds_succ]
    go_wp2_with (fail)
    go_ret2
    exact ⟨rfl, HF.out⟩
  · refine wp_loop_rounds 1 ?_
    rw [rounds_succ]
    go_wp2_with (fail)
    go_ret2
    exact ⟨rfl, HF.out⟩
theorem named_l64 : ∀ (k : Nat) (s : ByteArray) (i : Int), token_named.l0 k s i = some true → s.size ≤ 64
  | 0, _, _, h => by simp [token_named.l0] at h
  | k + 1, s, i, h => by
    unfold token_named.l0 at h
    repeat' split at h
    all_goals first | exact named_l64 k s _ h | (simp at h; omega) | (simp at h; done)
theorem named_64 {s : ByteArray} (h : named s = true) : s.size ≤ 64 := by
  unfold named at h
  cases hf : token_named.f (s.size + 1) s with
  | none => rw [hf] at h; cases h
  | some b =>
    rw [hf] at h
    have hb : b = true := h
    subst hb
    exact named_l64 _ _ _ hf
/-- A token's line, by the token. -/
def lineS (ns : List ByteArray) (src : ByteArray) (t : S55) : ByteArray := lineG (rdOf ByteArray.empty ns t.f0) t.f1.toNat t.f2.toNat (quoteF (src.extract t.f1.toNat t.f2.toNat)).1
theorem quote_fit (src : ByteArray) (t : S55) (h0 : 0 ≤ t.f1) (h1 : t.f1 ≤ t.f2) (h2 : t.f2 ≤ src.size) : ((quoteF (src.extract t.f1.toNat t.f2.toNat)).2 == 0) = fitT t := by
  have hz : (src.extract t.f1.toNat t.f2.toNat).size = (t.f2 - t.f1).toNat := by simp; omega
  unfold quoteF fitT
  rw [hz]
  by_cases c : t.f2 - t.f1 ≤ 4096
  · rw [if_pos (by omega), decide_eq_true c]
    rfl
  · rw [if_neg (by omega), decide_eq_false c]
    rfl
theorem mem_T55 {l : List S55} {i : Nat} (h : i < l.length) : rd_T55 l i ∈ l := by
  simp [rd_T55, List.getD_eq_getElem?_getD, h]
theorem name_size {ns : List ByteArray} (hk : KindsOk ns) (x : Int) : (rdOf ByteArray.empty ns x).size ≤ 4096 := by
  by_cases h : x.toNat < ns.length
  · have h1 : rdOf ByteArray.empty ns x ∈ ns := by
      unfold rdOf
      rw [List.getD_eq_getElem?_getD, List.getElem?_eq_getElem h]
      exact List.getElem_mem h
    have := named_64 (hk.all _ h1)
    omega
  · unfold rdOf
    rw [List.getD_eq_getElem?_getD, List.getElem?_eq_none (by omega)]
    decide
/-- Both Lines answer the same. -/
theorem both_lines (w : World) (ns : List ByteArray) (A : Option Addr) (cp : Nat) (hA : Kd.string.C w A ns.length ns) (hcp : ns.length ≤ cp) (hs : ∀ s, s ∈ ns → s.size ≤ maxLen) (src : ByteArray) (l : List S55) (A2 : Option Addr) (c2 : Nat) (hC : Kd.C k55 w A2 l.length l) (hc2 : l.length ≤ c2) (hsr : src.size ≤ 9223372036854775807) (hP : Pow w) :
    ∃ (S : ByteArray) (b : Int), Calls Tryd.prog 18 #[.slice A ns.length cp, .string src, .slice A2 l.length c2] w (fun e w' => e = .returned (.tuple #[.string S, .int .i64 b]) ∧ Fr (fun _ => False) w w') ∧
      ∀ W, Fr (fun _ => False) w W → Calls Tryd.prog 19 #[.slice A ns.length cp, .string src, .slice A2 l.length c2] W (fun e w' => e = .returned (.tuple #[.string S, .int .i64 b]) ∧ Fr (fun _ => False) W w') := by
  obtain ⟨⟨a, b⟩, hp⟩ := ckF_some ns src l
  by_cases hb : b = 0
  case neg => exact ⟨_, b, lines_no w ns A cp hA hs src l A2 c2 hC a b hp hb, fun W hF => rlines_no W ns A cp (Kd.C_below hA hF.to_below) hcp hs src l A2 c2 (Kd.C_below hC hF.to_below) hc2 a b hp hb⟩
  case pos =>
  subst hb
  obtain ⟨he, hk, hle, hch, hall⟩ := ck_ok hp rfl
  injection he with he
  subst he
  have hln : ∀ i : Nat, i < l.length → ∀ W, Fr (fun q => w.heap.size ≤ q) w W → Calls Tryd.prog 36 #[.slice A ns.length cp, .string src, .agg #[.int .i64 (rd_T55 l i).f0, .int .i64 (rd_T55 l i).f1, .int .i64 (rd_T55 l i).f2]] W fun e w' => e = .returned (.tuple #[.string (lineS ns src (rd_T55 l i)), .bool (fitT (rd_T55 l i))]) ∧ Fr (fun _ => False) W w' := by
    intro i hi W hF
    have hF0 := none_of hF
    obtain ⟨h0, h1, h2, h3, h4⟩ := hall _ (mem_T55 hi)
    generalize rd_T55 l i = t at h0 h1 h2 h3 h4 ⊢
    have h := line_any W ns A cp (Kd.C_below hA hF0.to_below) src t.f0.toNat t.f1.toNat t.f2.toNat (by omega) (name_size hk _) (by omega) (by omega) hsr (itc_of (hP.go hF0)) ⟨itB_size (by omega), itB_size (by omega)⟩
    rw [Int.toNat_of_nonneg (show 0 ≤ t.f0 by omega), Int.toNat_of_nonneg h2, Int.toNat_of_nonneg (show 0 ≤ t.f2 by omega)] at h
    rw [quote_fit src t h2 h3 h4] at h
    exact h
  have hrl : ∀ W0, Fr (fun _ => False) w W0 → ∀ i : Nat, i < l.length → ∀ W, Fr (fun q => W0.heap.size ≤ q) W0 W → Calls Tryd.prog 39 #[.slice A ns.length cp, .string src, .agg #[.int .i64 (rd_T55 l i).f0, .int .i64 (rd_T55 l i).f1, .int .i64 (rd_T55 l i).f2]] W fun e w' => e = .returned (.string (lineS ns src (rd_T55 l i))) ∧ Fr (fun _ => False) W w' := by
    intro W0 hW0 i hi W hF
    have hF0 := hW0.trans (none_of hF) (fun _ _ h => h)
    obtain ⟨h0, h1, h2, h3, h4⟩ := hall _ (mem_T55 hi)
    generalize rd_T55 l i = t at h0 h1 h2 h3 h4 ⊢
    have h := rline_any W ns A cp (Kd.C_below hA hF0.to_below) src t.f0.toNat t.f1.toNat t.f2.toNat (by omega) (name_size hk _) (by omega) (by omega) hsr (itc_of (hP.go hF0)) ⟨itB_size (by omega), itB_size (by omega)⟩
    rw [Int.toNat_of_nonneg (show 0 ≤ t.f0 by omega), Int.toNat_of_nonneg h2, Int.toNat_of_nonneg (show 0 ≤ t.f2 by omega)] at h
    exact h
  have hsz : ∀ i : Nat, i < l.length → (lineS ns src (rd_T55 l i)).size ≤ 100000 := by
    intro i hi
    obtain ⟨h0, h1, h2, h3, h4⟩ := hall _ (mem_T55 hi)
    generalize rd_T55 l i = t at h0 h1 h2 h3 h4 ⊢
    have e1 := name_size hk t.f0
    have e2 := itB_size (n := t.f1.toNat) (by omega)
    have e3 := itB_size (n := t.f2.toNat) (by omega)
    have e4 := quoteF_size (src.extract t.f1.toNat t.f2.toNat)
    have e5 : (⟨#[32]⟩ : ByteArray).size = 1 := rfl
    have e6 : (⟨#[10]⟩ : ByteArray).size = 1 := rfl
    unfold lineS lineG
    simp only [ByteArray.size_append]
    omega
  have L1 := lines_any w ns A cp hA hs src l A2 c2 hC hk hle hch (lineS ns src) fitT hsz hln
  have L2 := fun W (hF : Fr (fun _ => False) w W) => rlines_any W ns A cp src l A2 c2 (Kd.C_below hC hF.to_below) hle (fun i hi => by
    obtain ⟨h0, h1, h2, h3, h4⟩ := hall _ (mem_T55 hi)
    exact ⟨h2, h3, by omega⟩) (refcheck_calls W ns A cp (Kd.C_below hA hF.to_below) hcp hs src l A2 c2 (Kd.C_below hC hF.to_below) hc2 (0, 0) hp) (lineS ns src) hsz (hrl W hF)
  by_cases hf : ∀ j : Nat, j < l.length → fitT (rd_T55 l j) = true
  · have key : ∀ e, LinesAns (lineS ns src) fitT l e → e = .returned (.tuple #[.string ⟨(linesB (lineS ns src) l).toArray⟩, .int .i64 0]) := by
      rintro e (⟨_, h⟩ | ⟨⟨j, hj, h⟩, _⟩)
      · exact h
      · rw [hf j hj] at h
        cases h
    exact ⟨_, _, L1.mono fun e w' h => ⟨key e h.1, h.2⟩, fun W hF => (L2 W hF).mono fun e w' h => ⟨key e h.1, h.2⟩⟩
  · have key : ∀ e, LinesAns (lineS ns src) fitT l e → e = .returned (.tuple #[.string ⟨#[]⟩, .int .i64 3]) := by
      rintro e (⟨h, _⟩ | ⟨_, h⟩)
      · exact absurd h hf
      · exact h
    exact ⟨_, _, L1.mono fun e w' h => ⟨key e h.1, h.2⟩, fun W hF => (L2 W hF).mono fun e w' h => ⟨key e h.1, h.2⟩⟩
set_option maxHeartbeats 4000000 in
set_option maxRecDepth 100000 in
theorem writes_calls (w : World) (ns : List ByteArray) (A : Option Addr) (cn : Nat) (hA : Kd.string.C w A ns.length ns) (hcn : ns.length ≤ cn) (hs : ∀ s, s ∈ ns → s.size ≤ maxLen) (src : ByteArray) (l : List S55) (A2 : Option Addr) (c2 : Nat) (hC : Kd.C k55 w A2 l.length l) (hc2 : l.length ≤ c2) (hsr : src.size ≤ 9223372036854775807) (hP : Pow w) (hM : Mx w) :
    Calls Tryd.prog 4 #[.agg #[.slice A ns.length cn, .string src, .slice A2 l.length c2]] w fun e w' => e = .returned (.bool true) ∧ Fr (fun _ => False) w w' := by
  have hu := Tryd.underlying25
  have hF0 := (Fr.refl (fun _ => False) w).alloc (.cells #[.slice A ns.length cn, .string src, .slice A2 l.length c2] 25)
  have hB0 := blk_new w (.cells #[.slice A ns.length cn, .string src, .slice A2 l.length c2] 25)
  obtain ⟨W0, hW0⟩ : ∃ W, w.alloc (.cells #[.slice A ns.length cn, .string src, .slice A2 l.length c2] 25) = W := ⟨_, rfl⟩
  rw [hW0] at hF0 hB0
  obtain ⟨S, b, h1, h2⟩ := both_lines W0 ns A cn (Kd.C_below hA hF0.to_below) hcn hs src l A2 c2 (Kd.C_below hC hF0.to_below) hc2 hsr (hP.go hF0)
  have H1 := Aside0.mk h1
  have H2 := Aside0.mk h2
  have HF0 := Aside0.mk hF0
  have HB0 := Aside0.mk hB0
  have HM := Aside0.mk hM
  have HW0 := Aside0.mk hW0
  clear h1 h2 hF0 hB0 hM hW0 hA hC hs hP
  go_enter Tryd.func4, Tryd.ntmps4
  go_upto_region 1 with (fail)
  rw [HW0.out]
  obtain ⟨q, hq⟩ : ∃ q, w.heap.size = q := ⟨_, rfl⟩
  rw [hq] at HB0
  simp only [hq]
  clear hq
  have k0 := (blk_cell HB0.out 0).trans (show _ = some (Value.slice A ns.length cn) from rfl)
  have k1 := (blk_cell HB0.out 1).trans (show _ = some (Value.string src) from rfl)
  have k2 := (blk_cell HB0.out 2).trans (show _ = some (Value.slice A2 l.length c2) from rfl)
  go_wp2_with (fail)
  refine H1.out.mono ?_
  rintro e W1 ⟨rfl, hF1⟩
  have HF1 := Aside0.mk hF1
  have HB1 := Aside0.mk (hF1.blk HB0.out id)
  clear hF1 k0 k1 k2 H1 HB0
  have k0 := (blk_cell HB1.out 0).trans (show _ = some (Value.slice A ns.length cn) from rfl)
  have k1 := (blk_cell HB1.out 1).trans (show _ = some (Value.string src) from rfl)
  have k2 := (blk_cell HB1.out 2).trans (show _ = some (Value.slice A2 l.length c2) from rfl)
  go_wp2_with (fail)
  refine (H2.out W1 HF1.out).mono ?_
  rintro e W2 ⟨rfl, hF2⟩
  have HF2 := Aside0.mk (HF0.out.trans (HF1.out.trans hF2 (fun _ _ h => h)) (fun _ _ h => h))
  clear hF2 k0 k1 k2
  go_wp2_with (fail)
  refine (alive_calls W2 (HM.out.fr HF2.out (fun _ _ => id))).mono ?_
  rintro e W3 ⟨rfl, hF3⟩
  have HF3 := Aside0.mk (HF2.out.trans hF3 (fun _ _ h => h))
  clear hF3
  go_wp2_with (fail)
  go_ret
  exact ⟨rfl, HF3.out⟩
end Go.Proofs.YtagokdbpgljgjaaDoor.Tok
