/-
A rule's shortest row: gram.Row, walked.
-/
import Derived.Test.YtdngobjcdajogaaT7QU
import Derived.Test.YtdngobjcdajogaaT7QM
import Derived.Test.YtdngobjcdajogaaT7QN
namespace Go.Proofs.Ytdngobjcdajogaa.Gram
open Go.RowKit Go.Proofs.YtdngobjcdajogaaW.PrintWords Go.Proofs.YtdngobjcdajogaaW.PrintLast Go.Proofs.YtdngobjcdajogaaW.PrintMore Go.Proofs.Ytdngobjcdajogaa.Fr Go.Proofs.Ytdngobjcdajogaa.PGramFirsts Go.Proofs.Ytdngobjcdajogaa.TextSet
end Go.Proofs.Ytdngobjcdajogaa.Gram
namespace Go.Proofs.Ytdngobjcdajogaa.Gram
open Go.RowKit Go.Proofs.YtdngobjcdajogaaW.PrintWords Go.Proofs.YtdngobjcdajogaaW.PrintLast Go.Proofs.YtdngobjcdajogaaW.PrintMore Go.Proofs.Ytdngobjcdajogaa.Fr Go.Proofs.Ytdngobjcdajogaa.PGramFirsts Go.Proofs.Ytdngobjcdajogaa.TextSet
set_option maxHeartbeats 2000000 in
set_option maxRecDepth 100000 in
theorem same_calls (w : World) (A B : Option Addr) (n m ca cb : Nat) (l : List Int) (hA : kI.C w A l.length l) (hB : kI.C w B l.length l) (hn : n = l.length) (hm : m = l.length) (hl : l.length ≤ 1000000) :
    Calls Try.prog 19 #[.slice A n ca, .slice B m cb] w fun e w' => e = .returned (.bool true) ∧ Fr (fun _ => False) w w' := by
  subst hn hm
  have HA := Aside0.mk hA
  have HB := Aside0.mk hB
  clear hA hB
  go_enter Try.func19, Try.ntmps19
  go_wp2_with (fail)
  go_loopw [5] (fun a W => ∃ i : Nat, a = .int .i64 i ∧ i ≤ l.length ∧ Aside0 (Fr (fun _ => False) w W)) (fun a _ => l.length - (intOf a).toNat)
  case atStart => exact ⟨0, rfl, Nat.zero_le _, ⟨Fr.refl _ _⟩⟩
  case round =>
    obtain ⟨i, rfl, hi, HF⟩ := hrel
    by_cases hlt : i < l.length
    · have HLT := Aside0.mk hlt
      obtain ⟨aa, rfl, hxa⟩ := Kd.at_int (Kd.C_below HA.out HF.out.to_below) (i : Int) (by omega) (by omega)
      obtain ⟨ab, rfl, hxb⟩ := Kd.at_int (Kd.C_below HB.out HF.out.to_below) (i : Int) (by omega) (by omega)
      simp only [Int.toNat_natCast] at hxa hxb
      generalize rd l (i : Int) = y at hxa hxb
      go_wp2_with (fail)
      go_region_held3 (fun w' => w'.cell? (aa.add i) = some (.int .i64 y) ∧ w'.cell? (ab.add i) = some (.int .i64 y)) (go_keep) (fail)
      have HF2 := Aside0.mk (HF.out.trans (Fr.refl (fun _ => False) wr).drew (fun _ _ h => h))
      clear hxa hxb HF
      go_wp2_with (fail)
      exact ⟨⟨i + 1, by go_num, HLT.out, HF2⟩, by have := HLT.out; simp [intOf]; omega⟩
    · obtain rfl : i = l.length := by omega
      go_wp2_with (fail)
      go_ret
      exact ⟨rfl, HF.out⟩
theorem siz_all {G : Gr} {n0 : Bool} : ∀ {l : List Int}, (∀ x, x ∈ l → (x < G.kinds.length ∧ n0 = false) ∨ (¬ x < G.kinds.length ∧ ∃ n, Siz G [x] n ∧ (n0 = true → n = 0))) → ∃ n, Siz G l n ∧ (n0 = true → n = 0)
  | [], _ => ⟨0, .nil, fun _ => rfl⟩
  | x :: l, h => by
    obtain ⟨n, h1, h2⟩ := siz_all (l := l) (fun y hy => h y (List.mem_cons_of_mem _ hy))
    rcases h x List.mem_cons_self with ⟨hk, hf⟩ | ⟨hk, m, hm, hm0⟩
    · exact ⟨n + 1, .kind hk h1, fun e => by rw [hf] at e; cases e⟩
    · exact ⟨m + n, hm.cons hk h1, fun e => by rw [hm0 e, h2 e]⟩
theorem der_siz {G : Gr} (hP : ProdsOk G) {kinds : Bool} {a : Nat} (h : Der G kinds a) : ∃ n, Siz G [(G.kinds.length : Int) + a] n ∧ (kinds = false → n = 0) := by
  induction h with
  | mk i hi hk hr ih =>
    have hp := hP i hi
    obtain ⟨n, h1, h2⟩ := siz_all (G := G) (n0 := !kinds) (l := (rd_T57 G.prods i).f1) (fun x hx => by
      obtain ⟨j, hj, rfl⟩ := mem_rd hx
      have hro := hp.2.2.2 j hj
      by_cases hlt : rd (rd_T57 G.prods i).f1 j < G.kinds.length
      · exact .inl ⟨hlt, by rw [hk j hj hlt]; rfl⟩
      · obtain ⟨n, h1, h2⟩ := ih j hj hlt
        rw [show (G.kinds.length : Int) + ((rd (rd_T57 G.prods i).f1 j - G.kinds.length).toNat : Nat) = rd (rd_T57 G.prods i).f1 j by omega] at h1
        exact .inr ⟨hlt, n, h1, fun e => h2 (by simpa using e)⟩)
    refine ⟨n + 0, .rule (i := i) (by omega) hi (by omega) h1 .nil, fun e => by rw [h2 (by rw [e]; rfl)]⟩
theorem siz_der {G : Gr} {l : List Int} {n : Nat} (h : Siz G l n) : ∀ x, x ∈ l → ¬ x < G.kinds.length → Der G true (x - G.kinds.length).toNat := by
  induction h with
  | nil => exact fun x hx => by cases hx
  | kind hk _ ih =>
    intro y hy hky
    rcases List.mem_cons.1 hy with rfl | hy
    · exact absurd hk hky
    · exact ih y hy hky
  | @rule x l i m n hk hi hf _ _ ih1 ih2 =>
    intro y hy hky
    rcases List.mem_cons.1 hy with rfl | hy
    · rw [← hf]
      exact .mk i hi (fun _ _ _ => rfl) (fun j hj hn => ih1 _ (rd_mem hj) hn)
    · exact ih2 y hy hky
/-- What is told of one rule. -/
structure Told (G : Gr) (L : List Int) (a : Int) : Prop where
  nul : rdOf false (closedL G false) a = true ↔ rd L a = 0
  pro : rdOf false (closedL G true) a = true ↔ 0 ≤ rd L a
theorem told {G : Gr} {L : List Int} (hL : LeastOk G L) (hP : ProdsOk G) {a : Nat} (ha : a < G.rules.length) : Told G L (a : Int) := by
  constructor
  · rw [closedL_at ha]
    constructor
    · intro h
      obtain ⟨n, h1, h2⟩ := der_siz hP h
      have h3 := hL.least a n h1
      rw [h2 rfl] at h3
      have : minF 0 = 0 := rfl
      omega
    · intro h
      obtain ⟨n, h1, e⟩ := hL.sound a ha (by omega)
      have e0 : n = 0 := by
        rw [h] at e
        unfold minF at e
        split at e <;> omega
      have := (siz_zero h1 e0 _ (List.mem_singleton.2 rfl)).2
      rwa [show ((G.kinds.length : Int) + a - G.kinds.length).toNat = a by omega] at this
  · rw [closedL_at ha]
    constructor
    · intro h
      obtain ⟨n, h1, _⟩ := der_siz hP h
      exact (hL.least a n h1).1
    · intro h
      obtain ⟨n, h1, _⟩ := hL.sound a ha h
      have := siz_der h1 _ (List.mem_singleton.2 rfl) (by omega)
      rwa [show ((G.kinds.length : Int) + a - G.kinds.length).toNat = a by omega] at this
end Go.Proofs.Ytdngobjcdajogaa.Gram
