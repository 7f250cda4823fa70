/-
A rule's shortest row: gram.Row, walked.
-/
import Derived.Test.YtdngobjcdajogaaT9QU
import Derived.Test.YtdngobjcdajogaaT9QM
import Derived.Test.YtdngobjcdajogaaT9QG
import Derived.Test.YtdngobjcdajogaaT9PGramFirstsx0
namespace Go.Proofs.Ytdngobjcdajogaa.Gram
open Go.RowKit Go.Proofs.YtdngobjcdajogaaW.PrintWords Go.Proofs.YtdngobjcdajogaaW.PrintLast Go.Proofs.YtdngobjcdajogaaW.PrintMore Go.Proofs.Ytdngobjcdajogaa.Fr Go.Proofs.Ytdngobjcdajogaa.PGramFirsts Go.Proofs.Ytdngobjcdajogaa.TextSet
/-- What Row tells, where the rule is one. -/
structure RowTold (G : Gr) (L : List Int) (rule : Int) (r : Int) (l : List Int) : Prop where
  none : rd L rule < 0 → r = 8 ∧ l = []
  long : 65536 < rd L rule → r = 3 ∧ l = []
  good : 0 ≤ rd L rule → rd L rule ≤ 65536 → r = 0 ∧ (l.length : Int) = rd L rule ∧ ∃ T, TP G L T ∧ SpellS G L T (G.kinds.length + rule) l ∧ TakX G L T
def RowPost (w : World) (G : Gr) (rule : Int) (e : Ending) (w' : World) : Prop :=
  ∃ v r l, e = .returned (.tuple #[v, .int .i64 r]) ∧ kI.R 3 w' w.heap.size (fun _ => True) v l ∧
    ((¬ (CheckOk G ∧ 0 ≤ rule ∧ rule < G.rules.length) ∧ l = [] ∧ (CheckOk G → r = 1) ∧ (¬ CheckOk G → r = 130)) ∨ ((CheckOk G ∧ 0 ≤ rule ∧ rule < G.rules.length) ∧ ∃ L, LeastOk G L ∧ RowTold G L rule r l))
set_option maxHeartbeats 4000000 in
set_option maxRecDepth 100000 in
theorem grow_calls (w : World) (G : Gr) (A0 A1 A2 A3 : Option Addr) (c0 c1 c2 c3 : Nat) (h : GAt w G A0 A1 A2 A3 c0 c1 c2 c3) (rule : Int) :
    Calls Try.prog 17 #[.agg #[.slice A0 G.kinds.length c0, .slice A1 G.precs.length c1, .slice A2 G.rules.length c2, .slice A3 G.prods.length c3, .int .i64 G.start], .int .i64 rule] w fun e w' => RowPost w G rule e w' ∧ Fr (fun _ => False) w w' := by
  have hu := Try.underlying26
  have HG := Aside0.mk h
  have HW := Aside0.mk (show ChkW w (w.alloc (.cells #[.slice A0 G.kinds.length c0, .slice A1 G.precs.length c1, .slice A2 G.rules.length c2, .slice A3 G.prods.length c3, .int .i64 G.start] 26)) G A0 A1 A2 A3 c0 c1 c2 c3 from ⟨blk_new w _, (Fr.refl _ w).alloc _⟩)
  clear h
  go_enter Try.func17, Try.ntmps17
  go_upto_region 1 with fail
  generalize w.alloc (.cells #[.slice A0 G.kinds.length c0, .slice A1 G.precs.length c1, .slice A2 G.rules.length c2, .slice A3 G.prods.length c3, .int .i64 G.start] 26) = W0 at HW ⊢
  obtain ⟨e0, e1, e2, e3, e4⟩ := HW.out.cells
  go_wp2_with (fail)
  refine (least_calls W0 G A0 A1 A2 A3 c0 c1 c2 c3 (HG.out.go HW.out.fr) rule).mono ?_
  rintro e W1 ⟨⟨n, sm, r, rfl, h1, h2, h3⟩, hF⟩
  have HW1 := Aside0.mk (HW.out.go hF)
  clear HW hF e0 e1 e2 e3 e4
  by_cases hr0 : r = 0
  · subst hr0
    obtain ⟨hck, hp0, hp1⟩ := h1.1 rfl
    obtain ⟨L, hL, hn, hs⟩ := h3 rfl
    have HC := Aside0.mk hck
    have HL := Aside0.mk hL
    have hb := hL.bound rule
    have HTO := Aside0.mk (show ∀ (v : Value) (r : Int) (l : List Int) (w' : World), kI.R 3 w' w.heap.size (fun _ => True) v l → RowTold G L rule r l → RowPost w G rule (.returned (.tuple #[v, .int .i64 r])) w' from fun v r l w' q1 q2 => ⟨v, r, l, rfl, q1, .inr ⟨⟨hck, hp0, hp1⟩, L, hL, q2⟩⟩)
    clear h1 h2 h3 hck hL
    by_cases hz : 0 ≤ rd L rule
    · obtain rfl : sm = true := by rw [hs]; exact decide_eq_true hz
      obtain rfl : n = rd L rule := by rw [hn]; unfold mx; split <;> omega
      by_cases hlong : 65536 < rd L rule
      · have HE := Aside0.mk (fun w' => HTO.out (.slice none 0 0) 3 [] w' (Kd.R_nil _ _ _ _ _) ⟨fun h => absurd h (by omega), fun _ => ⟨rfl, rfl⟩, fun _ h => absurd h (by omega)⟩)
        clear HTO hn hs
        generalize rd L rule = z at hz hlong hb ⊢
        go_wp2_with (fail)
        go_ret2
        exact ⟨HE.out _, HW1.out.fr⟩
      · have hR2 := (base_true HC.out.base).2.2.1
        have hK1 := HC.out.kinds.two
        have hK2 := HC.out.kinds.max
        obtain ⟨e0, e1, e2, e3, e4⟩ := HW1.out.cells
        have HGD := Aside0.mk (show ∀ (L2 T : List Int) (v : Value) (l : List Int) (w' : World), LeastOk G L2 → TP G L2 T → SpellS G L2 T (G.kinds.length + rule) l → (l.length : Int) = rd L rule → kI.R 3 w' w.heap.size (fun _ => True) v l → TakX G L2 T → RowPost w G rule (.returned (.tuple #[v, .int .i64 0])) w' from fun L2 T v l w' k1 k2 k3 k4 k5 k7 => by
          obtain ⟨a, rfl⟩ := Int.eq_ofNat_of_zero_le hp0
          have k6 := least_same k1 HL.out (a := a) (by omega)
          exact ⟨v, 0, l, rfl, k5, .inr ⟨⟨HC.out, hp0, hp1⟩, L2, k1, ⟨fun h => absurd h (by omega), fun h => absurd h (by omega), fun _ _ => ⟨rfl, by omega, T, k2, k3, k7⟩⟩⟩⟩)
        have HSP := Aside0.mk (show ∀ (L2 T : List Int), LeastOk G L2 → TP G L2 T → (∀ i, i < G.prods.length → Shut0 G L2 T i) → ∃ u, SpellS G L2 T (G.kinds.length + rule) u ∧ u.length ≤ 65536 ∧ (u.length : Int) = rd L rule from fun L2 T k1 k2 k3 => by
          obtain ⟨a, rfl⟩ := Int.eq_ofNat_of_zero_le hp0
          have k4 := least_same k1 HL.out (a := a) (by omega)
          have k5 := spell_row k1 k2 HC.out.prodsOk k3 hK1 (a := a) (by omega) (by omega) (by omega)
          obtain ⟨u, q1, q2⟩ := k5
          exact ⟨u, q1, by omega, by omega⟩)
        clear HTO hn hs
        generalize hz2 : rd L rule = z at hz hlong hb HGD HSP ⊢
        have HZ := Aside0.mk hz2
        clear hz2
        go_wp2_with (fail)
        refine (leasts_calls W1 G A0 A1 A2 A3 c0 c1 c2 c3 (HG.out.go HW1.out.fr) HC.out).mono ?_
        rintro e W2 ⟨⟨v2, L2, rfl, hR, hL2⟩, hF2⟩
        have hl2 := hL2.len
        obtain ⟨gl, cl, rfl⟩ := ints_form hR (by omega)
        have HL2 := Aside0.mk hL2
        have HC2 := Aside0.mk ((Kd.R_reads' hR).2.2)
        have HK2 := Aside0.mk ((Kd.R_reads' hR).2.1)
        have HW2 := Aside0.mk (HW1.out.go hF2)
        have hwr : IntKind.i64.wrap ((G.kinds.length : Int) + rule) = (G.kinds.length : Int) + rule := by rw [i64_w]; simp only [wrap64]; omega
        rw [hl2]
        clear hR hL2 hF2 hl2 HW1 e0 e1 e2 e3 e4
        obtain ⟨e0, e1, e2, e3, e4⟩ := HW2.out.cells
        go_wp2_with (fail)
        go_region_held3 (fun w' => w'.cell? ⟨w.heap.size, 0, none⟩ = some (.slice A0 G.kinds.length c0) ∧ w'.cell? ⟨w.heap.size, 1, none⟩ = some (.slice A1 G.precs.length c1) ∧ w'.cell? ⟨w.heap.size, 2, none⟩ = some (.slice A2 G.rules.length c2) ∧ w'.cell? ⟨w.heap.size, 3, none⟩ = some (.slice A3 G.prods.length c3) ∧ w'.cell? ⟨w.heap.size, 4, none⟩ = some (.int .i64 G.start)) (go_keep)
          (first | (go_at_call 49; refine (taken_calls _ G A0 A1 A2 A3 (some ⟨gl, 0, none⟩) c0 c1 c2 c3 cl (HG.out.go (HW2.out.fr.trans (Fr.refl (fun _ => False) W2).drew (fun _ _ h => h))) HC.out L2 (Kd.C_below HC2.out ((Fr.refl (fun _ => False) W2).drew).to_below) HK2.out HL2.out).mono ?_; rintro e W3 ⟨⟨v3, T, rfl, hR3, hT3, hS3, hX3⟩, hF3⟩; have HX3 := Aside0.mk hX3; obtain ⟨TA, tc, rfl⟩ := Kd.R_slice hR3; have HT3 := Aside0.mk hT3; have HR3 := Aside0.mk hR3; have HSU := Aside0.mk (HSP.out L2 T HL2.out hT3 hS3); have HF3 := Aside0.mk (((Fr.refl (fun _ => False) W2).drew).trans hF3 (fun _ _ h => h)); obtain ⟨f0, f1, f2, f3, f4⟩ := (HW2.out.go HF3.out).cells; rw [hT3.len]; clear hR3 hT3 hS3 hX3 hF3) | (go_at_call 48; obtain ⟨u, hu1, hu2, hu3⟩ := HSU.out; have hs := spell_calls W3 G A0 A1 A2 A3 (some ⟨gl, 0, none⟩) TA c0 c1 c2 c3 cl tc (HG.out.go (HW2.out.fr.trans HF3.out (fun _ _ h => h))) hK2 hR2 L2 T (Kd.C_below HC2.out HF3.out.to_below) (Kd.R_reads' HR3.out).2.2 HL2.out.len HT3.out.len HC.out.prodsOk hu1 (by omega) (by omega) W3 (.slice none 0 0) [] (Below.refl _ _) (Kd.R_nil _ _ _ _ _) (by simp only [List.length_nil]; omega); refine hs.mono ?_; rintro e W4 ⟨v4, rfl, hR4, hF4, _⟩; have HU1 := Aside0.mk hu1; have HU3 := Aside0.mk hu3; have HR4 := Aside0.mk (show kI.R 3 W4 W3.heap.size (fun _ => True) v4 u from hR4); have HF4 := Aside0.mk (HF3.out.trans (hF4.mono (T := fun _ => False) (fun k hk => by cases hk)) (fun _ _ h => h)); obtain ⟨g0, g1, g2, g3, g4⟩ := (HW2.out.go HF4.out).cells; clear hs hR4 hF4 hu1 hu2 hu3))
        have HFE := Aside0.mk (HW2.out.fr.trans HF4.out (fun _ _ h => h))
        have HE := Aside0.mk (HGD.out L2 T v4 u W4 HL2.out HT3.out HU1.out HU3.out (Kd.R_lower HR4.out (HW2.out.fr.trans HF3.out (fun _ _ h => h)).size) HX3.out)
        go_wp2_with (fail)
        go_ret2
        exact ⟨HE.out, HFE.out⟩
    · obtain rfl : sm = false := by rw [hs]; exact decide_eq_false hz
      have HE := Aside0.mk (fun w' => HTO.out (.slice none 0 0) 8 [] w' (Kd.R_nil _ _ _ _ _) ⟨fun _ => ⟨rfl, rfl⟩, fun h => absurd h (by omega), fun h => absurd h hz⟩)
      clear HTO hn hs
      generalize rd L rule = z at hz hb
      go_wp2_with (fail)
      go_ret2
      exact ⟨HE.out _, HW1.out.fr⟩
  · have HE := Aside0.mk (show ∀ w', RowPost w G rule (.returned (.tuple #[.slice none 0 0, .int .i64 r])) w' from fun w' => ⟨_, r, [], rfl, Kd.R_nil _ _ _ _ _, .inl ⟨fun h => hr0 (h1.2 h), rfl, (h2 hr0).2.2.1, (h2 hr0).2.2.2⟩⟩)
    clear h1 h2 h3
    go_wp2_with (fail)
    go_ret2
    exact ⟨HE.out _, HW1.out.fr⟩
end Go.Proofs.Ytdngobjcdajogaa.Gram
namespace Go.Proofs.Ytdngobjcdajogaa.Gram
open Go.RowKit Go.Proofs.YtdngobjcdajogaaW.PrintWords Go.Proofs.YtdngobjcdajogaaW.PrintLast Go.Proofs.YtdngobjcdajogaaW.PrintMore Go.Proofs.Ytdngobjcdajogaa.Fr Go.Proofs.Ytdngobjcdajogaa.PGramFirsts Go.Proofs.Ytdngobjcdajogaa.TextSet
set_option maxHeartbeats 2000000 in
set_option maxRecDepth 100000 in
theorem same_calls (w : World) (A B : Option Addr) (n m ca cb : Nat) (l : List Int) (hA : kI.C w A l.length l) (hB : kI.C w B l.length l) (hn : n = l.length) (hm : m = l.length) (hl : l.length ≤ 1000000) :
    Calls Try.prog 19 #[.slice A n ca, .slice B m cb] w fun e w' => e = .returned (.bool true) ∧ Fr (fun _ => False) w w' := by
  subst hn hm
  have HA := Aside0.mk hA
  have HB := Aside0.mk hB
  clear hA hB
  go_enter Try.func19, Try.ntmps19
  go_wp2_with (fail)
  go_loopw [5] (fun a W => ∃ i : Nat, a = .int .i64 i ∧ i ≤ l.length ∧ Aside0 (Fr (fun _ => False) w W)) (fun a _ => l.length - (intOf a).toNat)
  case atStart => exact ⟨0, rfl, Nat.zero_le _, ⟨Fr.refl _ _⟩⟩
  case round =>
    obtain ⟨i, rfl, hi, HF⟩ := hrel
    by_cases hlt : i < l.length
    · have HLT := Aside0.mk hlt
      obtain ⟨aa, rfl, hxa⟩ := Kd.at_int (Kd.C_below HA.out HF.out.to_below) (i : Int) (by omega) (by omega)
      obtain ⟨ab, rfl, hxb⟩ := Kd.at_int (Kd.C_below HB.out HF.out.to_below) (i : Int) (by omega) (by omega)
      simp only [Int.toNat_natCast] at hxa hxb
      generalize rd l (i : Int) = y at hxa hxb
      go_wp2_with (fail)
      go_region_held3 (fun w' => w'.cell? (aa.add i) = some (.int .i64 y) ∧ w'.cell? (ab.add i) = some (.int .i64 y)) (go_keep) (fail)
      have HF2 := Aside0.mk (HF.out.trans (Fr.refl (fun _ => False) wr).drew (fun _ _ h => h))
      clear hxa hxb HF
      go_wp2_with (fail)
      exact ⟨⟨i + 1, by go_num, HLT.out, HF2⟩, by have := HLT.out; simp [intOf]; omega⟩
    · obtain rfl : i = l.length := by omega
      go_wp2_with (fail)
      go_ret
      exact ⟨rfl, HF.out⟩
theorem siz_all {G : Gr} {n0 : Bool} : ∀ {l : List Int}, (∀ x, x ∈ l → (x < G.kinds.length ∧ n0 = false) ∨ (¬ x < G.kinds.length ∧ ∃ n, Siz G [x] n ∧ (n0 = true → n = 0))) → ∃ n, Siz G l n ∧ (n0 = true → n = 0)
  | [], _ => ⟨0, .nil, fun _ => rfl⟩
  | x :: l, h => by
    obtain ⟨n, h1, h2⟩ := siz_all (l := l) (fun y hy => h y (List.mem_cons_of_mem _ hy))
    rcases h x List.mem_cons_self with ⟨hk, hf⟩ | ⟨hk, m, hm, hm0⟩
    · exact ⟨n + 1, .kind hk h1, fun e => by rw [hf] at e; cases e⟩
    · exact ⟨m + n, hm.cons hk h1, fun e => by rw [hm0 e, h2 e]⟩
theorem der_siz {G : Gr} (hP : ProdsOk G) {kinds : Bool} {a : Nat} (h : Der G kinds a) : ∃ n, Siz G [(G.kinds.length : Int) + a] n ∧ (kinds = false → n = 0) := by
  induction h with
  | mk i hi hk hr ih =>
    have hp := hP i hi
    obtain ⟨n, h1, h2⟩ := siz_all (G := G) (n0 := !kinds) (l := (rd_T57 G.prods i).f1) (fun x hx => by
      obtain ⟨j, hj, rfl⟩ := mem_rd hx
      have hro := hp.2.2.2 j hj
      by_cases hlt : rd (rd_T57 G.prods i).f1 j < G.kinds.length
      · exact .inl ⟨hlt, by rw [hk j hj hlt]; rfl⟩
      · obtain ⟨n, h1, h2⟩ := ih j hj hlt
        rw [show (G.kinds.length : Int) + ((rd (rd_T57 G.prods i).f1 j - G.kinds.length).toNat : Nat) = rd (rd_T57 G.prods i).f1 j by omega] at h1
        exact .inr ⟨hlt, n, h1, fun e => h2 (by simpa using e)⟩)
    refine ⟨n + 0, .rule (i := i) (by omega) hi (by omega) h1 .nil, fun e => by rw [h2 (by rw [e]; rfl)]⟩
theorem siz_der {G : Gr} {l : List Int} {n : Nat} (h : Siz G l n) : ∀ x, x ∈ l → ¬ x < G.kinds.length → Der G true (x - G.kinds.length).toNat := by
  induction h with
  | nil => exact fun x hx => by cases hx
  | kind hk _ ih =>
    intro y hy hky
    rcases List.mem_cons.1 hy with rfl | hy
    · exact absurd hk hky
    · exact ih y hy hky
  | @rule x l i m n hk hi hf _ _ ih1 ih2 =>
    intro y hy hky
    rcases List.mem_cons.1 hy with rfl | hy
    · rw [← hf]
      exact .mk i hi (fun _ _ _ => rfl) (fun j hj hn => ih1 _ (rd_mem hj) hn)
    · exact ih2 y hy hky
/-- What is told of one rule. -/
structure Told (G : Gr) (L : List Int) (a : Int) : Prop where
  nul : rdOf false (closedL G false) a = true ↔ rd L a = 0
  pro : rdOf false (closedL G true) a = true ↔ 0 ≤ rd L a
theorem told {G : Gr} {L : List Int} (hL : LeastOk G L) (hP : ProdsOk G) {a : Nat} (ha : a < G.rules.length) : Told G L (a : Int) := by
  constructor
  · rw [closedL_at ha]
    constructor
    · intro h
      obtain ⟨n, h1, h2⟩ := der_siz hP h
      have h3 := hL.least a n h1
      rw [h2 rfl] at h3
      have : minF 0 = 0 := rfl
      omega
    · intro h
      obtain ⟨n, h1, e⟩ := hL.sound a ha (by omega)
      have e0 : n = 0 := by
        rw [h] at e
        unfold minF at e
        split at e <;> omega
      have := (siz_zero h1 e0 _ (List.mem_singleton.2 rfl)).2
      rwa [show ((G.kinds.length : Int) + a - G.kinds.length).toNat = a by omega] at this
  · rw [closedL_at ha]
    constructor
    · intro h
      obtain ⟨n, h1, _⟩ := der_siz hP h
      exact (hL.least a n h1).1
    · intro h
      obtain ⟨n, h1, _⟩ := hL.sound a ha h
      have := siz_der h1 _ (List.mem_singleton.2 rfl) (by omega)
      rwa [show ((G.kinds.length : Int) + a - G.kinds.length).toNat = a by omega] at this
end Go.Proofs.Ytdngobjcdajogaa.Gram
