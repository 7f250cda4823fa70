/-
The law of what is whose, walked.
-/
import Derived.Test.YtagokdbpgljgjaaDoorVU
import Derived.Test.YtagokdbpgljgjaaDoorCZ
namespace Go.Proofs.YtagokdbpgljgjaaDoor.Tok
open Go.RowKit Go.Proofs.YtagokdbpgljgjaaDoorW.PrintWords Go.Proofs.YtagokdbpgljgjaaDoorW.PrintLast Go.Proofs.YtagokdbpgljgjaaDoorW.PrintMore Go.Proofs.YtagokdbpgljgjaaDoor.Fr Go.Proofs.YtagokdbpgljgjaaDoor.PGramFirsts Go.Proofs.YtagokdbpgljgjaaDoor.TextSet Go.Proofs.YtagokdbpgljgjaaDoor.Bld Go.Proofs.YtagokdbpgljgjaaDoor.Cur
attribute [local go_sem high] eqA55

theorem adb (a : Addr) (j : Nat) : (a.add j).block = a.block := by unfold Addr.add; split <;> rfl
def mk9 : S55 := ⟨-9, 0, 0⟩
theorem toks2_C (W : World) (b : Nat) (x y : S55) {t : TypeId} (h : W.heap[b]? = some (.cells #[.int .i64 x.f0, .int .i64 x.f1, .int .i64 x.f2, .int .i64 y.f0, .int .i64 y.f1, .int .i64 y.f2] t (0, 0))) : Kd.C k55 W (some ⟨b, 0, none⟩) 2 [x, y] := by
  refine ⟨rfl, by decide, fun _ => ⟨_, rfl, fun j p hj => ?_⟩⟩
  rcases j with _ | _ | j
  · obtain rfl : x = p := by simpa using hj
    refine ⟨_, rfl, k55_mk W x, fun i u hu => ?_⟩
    rcases (by have := (List.getElem?_eq_some_iff.1 hu).1; simp at this; omega : i = 0 ∨ i = 1 ∨ i = 2) with rfl | rfl | rfl
    · exact (blk_cell h 0).trans hu
    · exact (blk_cell h 1).trans hu
    · exact (blk_cell h 2).trans hu
  · obtain rfl : y = p := by simpa using hj
    refine ⟨_, rfl, k55_mk W y, fun i u hu => ?_⟩
    rcases (by have := (List.getElem?_eq_some_iff.1 hu).1; simp at this; omega : i = 0 ∨ i = 1 ∨ i = 2) with rfl | rfl | rfl
    · exact (blk_cell h 3).trans hu
    · exact (blk_cell h 4).trans hu
    · exact (blk_cell h 5).trans hu
  · simp at hj
section
variable {ops : Array Oper} {rest : List Oper} {o : Oper} {a : Act} {Q : Exit → Act → World → Prop}
/-- A token of a row of one's own is written over. -/
theorem put_tok {W : World} {B g n cap : Nat} {ok : Nat → Prop} {xs : List S55} (H : k55.R 55 W B ok (.slice (some ⟨g, 0, none⟩) n cap) xs) (i : Nat) (hi : i < n) (p x : Operand) (hN : o.dst = none) (hgd : o.guard = none) (ho : o.op = .store 55 p x) (hp : a.eval p = .pointer (some ⟨g, i * 3, none⟩)) (hx : a.eval x = .agg #[.int .i64 (-9), .int .i64 0, .int .i64 0])
    (h : ∀ w1, k55.R 55 w1 B ok (.slice (some ⟨g, 0, none⟩) n cap) (xs.set i mk9) → Fr (fun k => k = g) W w1 → wpList Tryd.prog ops Q rest a w1) : wpList Tryd.prog ops Q (o :: rest) a W := by
  obtain ⟨c, hcl, _, hcc, _⟩ := Kd.R_elem H mk9 (i : Int) (by omega) (by omega)
  have h3 : c.length = 3 := hcl
  refine Kd.R_store k55 (w0 := W) B hN hgd 55 p x ho 55 (i : Int) 0 xs mk9 _ [.int .i64 (-9), .int .i64 0, .int .i64 0] c ok (fun _ => False) hp ?_ hx rfl (by kernel_rfl) (by decide) H (by omega) (by omega) hcl hcc (by rw [show k55.sz = 3 from rfl]; decide) ?_ (fun _ h => h.elim) (Below.refl _ _) ?_
  · rw [show k55.sz = 3 from rfl]
    omega
  · have e : c.take 0 ++ [Value.int .i64 (-9), .int .i64 0, .int .i64 0] ++ c.drop (0 + [Value.int .i64 (-9), .int .i64 0, .int .i64 0].length) = [.int .i64 (-9), .int .i64 0, .int .i64 0] := by
      rw [List.drop_of_length_le (by simp [h3])]
      rfl
    rw [e]
    exact k55_mkM _ _ _ mk9
  · intro w1 h1 _ h2
    rw [show (i : Int).toNat = i by omega] at h1
    exact h w1 h1 ⟨h2.os, h2.tape, h2.output, h2.size, fun k hk hn => h2.block k hk (fun e => hn (by injection e))⟩
end
set_option maxHeartbeats 8000000 in
set_option maxRecDepth 100000 in
theorem own_calls (w : World) (l : List S55) (hl : l.length ≤ MaxT) (A : Option Addr) (c : Nat) (hc : l.length ≤ c) (hC : Kd.C k55 w A l.length l) (ks : List Int) (hk : ks.length ≤ 9223372036854775806) (A1 : Option Addr) (c1 : Nat) (hc1 : ks.length ≤ c1) (hC1 : Kd.C (Kd.int .i64) w A1 ks.length ks) (hm : Mx w) :
    Calls Tryd.prog 10 #[.slice A l.length c, .slice A1 ks.length c1] w fun e w' => e = .returned (.bool true) ∧ Below w.heap.size w w' := by
  have hM : MaxT = 5864062014634 := rfl
  go_enter Tryd.func10, Tryd.ntmps10
  have HC := Aside0.mk hC
  have HC1 := Aside0.mk hC1
  have HM := Aside0.mk hm
  clear hC hC1 hm
  go_wp2_with (fail)
  have HF0 := Aside0.mk ((Fr.refl (fun _ => False) w).alloc (.cells #[.int .i64 (-9), .int .i64 0, .int .i64 0] 55))
  have HT0 := Aside0.mk (blk_new w (.cells #[.int .i64 (-9), .int .i64 0, .int .i64 0] 55))
  obtain ⟨W0, hW0⟩ : ∃ W0, w.alloc (.cells #[.int .i64 (-9), .int .i64 0, .int .i64 0] 55) = W0 := ⟨_, rfl⟩
  obtain ⟨mb, hmb⟩ : ∃ mb, w.heap.size = mb := ⟨_, rfl⟩
  simp only [hW0, hmb] at HF0 HT0 ⊢
  have hs1 : W0.heap.size ≤ mb + 1 := by rw [← hW0, World.size_alloc]; omega
  clear hW0
  have hs0 : mb < W0.heap.size := blk_lt HT0.out
  have ht0 := (blk_cell HT0.out 0).trans (show _ = some (Value.int .i64 (-9)) from rfl)
  have ht1 := (blk_cell HT0.out 1).trans (show _ = some (Value.int .i64 0) from rfl)
  have ht2 := (blk_cell HT0.out 2).trans (show _ = some (Value.int .i64 0) from rfl)
  go_cut [6] from 19 to 24 (fun o wx => ∃ (G : Option Addr) (cp : Nat), o = .slice G (l.length + 2) cp ∧ Aside0 (k55.R 55 wx w.heap.size (fun k => W0.heap.size ≤ k) o (l ++ [mk9, mk9])) ∧ Aside0 (Fr (fun _ => False) W0 wx))
  case first =>
    refine wp_region_last_drew (S := fun w' => w'.cell? ⟨mb, 0, none⟩ = some (.int .i64 (-9)) ∧ w'.cell? ⟨mb, 1, none⟩ = some (.int .i64 0) ∧ w'.cell? ⟨mb, 2, none⟩ = some (.int .i64 0)) (ds := []) (by kernel_rfl) ⟨ht0, ht1, ht2⟩ (fun hHeld => ?_)
    have HF1 := Aside0.mk (Fr.refl (fun _ => False) W0).drew
    have hsA := HF1.out.size
    refine tk 0 ?_
    refine tk 2 ?_
    refine tk 3 ?_
    refine on2 1 4 ?p1 ?q1
    case p1 =>
      intro K hK
      refine Kd.R_append_rows_step k55 (w0 := W0.drew) (W := W0.drew) w.heap.size (by rfl) (.const (.slice none 0 0)) (.tmp 19) 23 55 (.agg #[(.int .i64 0), (.int .i64 0), (.int .i64 0)]) 24 rfl Tryd.underlying23 info55 rfl (by decide) (by decide) (.slice none 0 0) [] l A l.length c (fun k => W0.heap.size ≤ k) (fun _ => False) rfl rfl (Kd.R_nil _ _ _ _ _) (Kd.C_below HC.out (HF0.out.trans HF1.out (fun _ _ h => h)).to_below) (fun x cs h => by rw [k55_open h]; exact k55_mkM _ _ _ x) (fun _ hk => hk.elim) (fun _ h => by omega) (Below.refl _ _) (by omega) (by simp; omega) ?_
      intro v1 W1 h1 hb h2 _
      obtain ⟨A2, c2, rfl⟩ := Kd.R_slice h1
      have HV := Aside0.mk (show k55.R 55 W1 w.heap.size (fun k => W0.heap.size ≤ k) (.slice A2 l.length c2) l from by simpa using h1)
      have hF := (Fr.of_below (S := fun _ => False) (Fr.grown (S := fun _ => False) (Fr.refl _ _) h2 (fun k hk _ => by cases hk)).to_below)
      have HF2 := Aside0.mk (HF1.out.trans hF (fun _ _ h => h))
      clear h1 h2 hb hF
      refine hK.out _ _ ⟨HF2.out.cell ht0 id, HF2.out.cell ht1 id, HF2.out.cell ht2 id⟩ (fun hHeld => ?_)
      clear hK K
      try simp only [Act.put, List.setIfInBounds_toArray, List.set_cons_zero, List.set_cons_succ]
      refine on 4 (fun K hK => ?_)
      go_simp
      have HF3 := Aside0.mk (HF2.out.alloc (.cells #[.int .i64 (-9), .int .i64 0, .int .i64 0, .int .i64 (-9), .int .i64 0, .int .i64 0] 55))
      have HV2 := Aside0.mk (Kd.R_alloc HV.out (.cells #[.int .i64 (-9), .int .i64 0, .int .i64 0, .int .i64 (-9), .int .i64 0, .int .i64 0] 55))
      have HR2 := Aside0.mk (toks2_C (W1.alloc (.cells #[.int .i64 (-9), .int .i64 0, .int .i64 0, .int .i64 (-9), .int .i64 0, .int .i64 0] 55)) W1.heap.size mk9 mk9 (blk_new W1 _))
      refine hK.out _ _ ⟨HF3.out.cell ht0 id, HF3.out.cell ht1 id, HF3.out.cell ht2 id⟩ (fun hHeld => ?_)
      clear hK K
      try simp only [Act.put, List.setIfInBounds_toArray, List.set_cons_zero, List.set_cons_succ]
      have hsB := HF3.out.size
      refine on 5 (fun K hK => ?_)
      refine Kd.R_append_rows_step k55 (w0 := W1.alloc (.cells #[.int .i64 (-9), .int .i64 0, .int .i64 0, .int .i64 (-9), .int .i64 0, .int .i64 0] 55)) (W := W1.alloc (.cells #[.int .i64 (-9), .int .i64 0, .int .i64 0, .int .i64 (-9), .int .i64 0, .int .i64 0] 55)) w.heap.size (by rfl) (.tmp 20) (.tmp 23) 23 55 (.agg #[(.int .i64 0), (.int .i64 0), (.int .i64 0)]) 24 rfl Tryd.underlying23 info55 rfl (by decide) (by decide) (.slice A2 l.length c2) l [mk9, mk9] _ 2 2 (fun k => W0.heap.size ≤ k) (fun _ => False) rfl rfl HV2.out HR2.out (fun x cs h => by rw [k55_open h]; exact k55_mkM _ _ _ x) (fun _ hk => hk.elim) (fun _ h => by omega) (Below.refl _ _) (by omega) (by omega) ?_
      intro v3 W3 h1 hb h2 _
      obtain ⟨A3, c3, rfl⟩ := Kd.R_slice h1
      have HV3 := Aside0.mk (show k55.R 55 W3 w.heap.size (fun k => W0.heap.size ≤ k) (.slice A3 (l.length + 2) c3) (l ++ [mk9, mk9]) from by simpa using h1)
      have HF9 := Aside0.mk (HF3.out.grown h2 (fun k hk hl => by have := HV2.out.1 k hk; omega))
      clear h1 h2 hb
      refine hK.out _ _ ⟨HF9.out.cell ht0 id, HF9.out.cell ht1 id, HF9.out.cell ht2 id⟩ (fun hHeld => ?_)
      clear hK K
      try simp only [Act.put, List.setIfInBounds_toArray, List.set_cons_zero, List.set_cons_succ]
      refine tk 6 ?_
      refine dn ?_
      go_wp2_with (fail)
      go_meet
      exact ⟨_, _, rfl, HV3, HF9⟩
    case q1 =>
      intro K hK
      go_simp
      have HF2 := Aside0.mk (HF1.out.alloc (.cells #[.int .i64 (-9), .int .i64 0, .int .i64 0, .int .i64 (-9), .int .i64 0, .int .i64 0] 55))
      have HR1 := Aside0.mk (blk_new W0.drew (.cells #[.int .i64 (-9), .int .i64 0, .int .i64 0, .int .i64 (-9), .int .i64 0, .int .i64 0] 55))
      refine hK.out _ _ ⟨HF2.out.cell ht0 id, HF2.out.cell ht1 id, HF2.out.cell ht2 id⟩ (fun hHeld => ?_)
      clear hK K
      try simp only [Act.put, List.setIfInBounds_toArray, List.set_cons_zero, List.set_cons_succ]
      have hsB := HF2.out.size
      refine on 1 (fun K hK => ?_)
      refine Kd.R_append_rows_step k55 (w0 := W0.drew.alloc (.cells #[.int .i64 (-9), .int .i64 0, .int .i64 0, .int .i64 (-9), .int .i64 0, .int .i64 0] 55)) (W := W0.drew.alloc (.cells #[.int .i64 (-9), .int .i64 0, .int .i64 0, .int .i64 (-9), .int .i64 0, .int .i64 0] 55)) w.heap.size (by rfl) (.const (.slice none 0 0)) (.tmp 19) 23 55 (.agg #[(.int .i64 0), (.int .i64 0), (.int .i64 0)]) 24 rfl Tryd.underlying23 info55 rfl (by decide) (by decide) (.slice none 0 0) [] l A l.length c (fun k => W0.heap.size ≤ k) (fun _ => False) rfl rfl (Kd.R_nil _ _ _ _ _) (Kd.C_below HC.out (HF0.out.trans HF2.out (fun _ _ h => h)).to_below) (fun x cs h => by rw [k55_open h]; exact k55_mkM _ _ _ x) (fun _ hk => hk.elim) (fun _ h => by omega) (Below.refl _ _) (by omega) (by simp; omega) ?_
      intro v1 W1 h1 hb h2 _
      obtain ⟨A2, c2, rfl⟩ := Kd.R_slice h1
      have HV := Aside0.mk (show k55.R 55 W1 w.heap.size (fun k => W0.heap.size ≤ k) (.slice A2 l.length c2) l from by simpa using h1)
      have hF := (Fr.of_below (S := fun _ => False) (Fr.grown (S := fun _ => False) (Fr.refl _ _) h2 (fun k hk _ => by cases hk)).to_below)
      have HF3 := Aside0.mk (HF2.out.trans hF (fun _ _ h => h))
      have HR2 := Aside0.mk (toks2_C W1 _ mk9 mk9 (hF.blk HR1.out id))
      have hsC := HF3.out.size
      clear h1 h2 hb hF
      refine hK.out _ _ ⟨HF3.out.cell ht0 id, HF3.out.cell ht1 id, HF3.out.cell ht2 id⟩ (fun hHeld => ?_)
      clear hK K
      try simp only [Act.put, List.setIfInBounds_toArray, List.set_cons_zero, List.set_cons_succ]
      refine on 5 (fun K hK => ?_)
      refine Kd.R_append_rows_step k55 (w0 := W1) (W := W1) w.heap.size (by rfl) (.tmp 20) (.tmp 23) 23 55 (.agg #[(.int .i64 0), (.int .i64 0), (.int .i64 0)]) 24 rfl Tryd.underlying23 info55 rfl (by decide) (by decide) (.slice A2 l.length c2) l [mk9, mk9] _ 2 2 (fun k => W0.heap.size ≤ k) (fun _ => False) rfl rfl HV.out HR2.out (fun x cs h => by rw [k55_open h]; exact k55_mkM _ _ _ x) (fun _ hk => hk.elim) (fun _ h => by omega) (Below.refl _ _) (by omega) (by omega) ?_
      intro v3 W3 h1 hb h2 _
      obtain ⟨A3, c3, rfl⟩ := Kd.R_slice h1
      have HV3 := Aside0.mk (show k55.R 55 W3 w.heap.size (fun k => W0.heap.size ≤ k) (.slice A3 (l.length + 2) c3) (l ++ [mk9, mk9]) from by simpa using h1)
      have HF9 := Aside0.mk (HF3.out.grown h2 (fun k hk hl => by have := HV.out.1 k hk; omega))
      clear h1 h2 hb
      refine hK.out _ _ ⟨HF9.out.cell ht0 id, HF9.out.cell ht1 id, HF9.out.cell ht2 id⟩ (fun hHeld => ?_)
      clear hK K
      try simp only [Act.put, List.setIfInBounds_toArray, List.set_cons_zero, List.set_cons_succ]
      refine tk 6 ?_
      refine dn ?_
      go_wp2_with (fail)
      go_meet
      exact ⟨_, _, rfl, HV3, HF9⟩
  case rest =>
    clear ht0 ht1 ht2
    obtain ⟨G, cp, rfl, HR, HF⟩ := hcut
    obtain ⟨g, hgg⟩ : ∃ g, G = some ⟨g, 0, none⟩ := by
      obtain ⟨g, cap, hv, _⟩ := Kd.R_form HR.out (by simp)
      injection hv with hv _ _
      exact ⟨g, hv⟩
    subst hgg
    have hgW : W0.heap.size ≤ g := HR.out.1 g rfl
    have hgc : g < wc.heap.size := Kd.R_lt HR.out g rfl
    have hcp : l.length + 2 ≤ cp := (Kd.R_reads' HR.out).2.1
    obtain ⟨i0, hi0, _, _, _⟩ := info_parts info55
    have hcut := cut_to (P := Tryd.prog) 23 55 .i64 Tryd.underlying23 hi0 (some ⟨g, 0, none⟩) (l.length + 2) cp (l.length : Int) (by omega) (by omega) hcp
    rw [show ((l.length : Nat) : Int).toNat = l.length by omega] at hcut
    have HMI := Aside0.mk (show k55.R 55 wc w.heap.size (fun k => W0.heap.size ≤ k) (.slice (some ⟨g, 0, none⟩) l.length cp) l from by
      have h := Kd.R_take (m := l.length) HR.out (by simp)
      rwa [List.take_left'  rfl] at h)
    clear hi0
    go_wp2_with (fail)
    refine (new_calls _ l hl (some ⟨g, 0, none⟩) cp (Kd.R_reads' HMI.out).2.2).mono ?_
    rintro e W1 ⟨q, vq, rfl, hq, hCu, hF⟩
    have hs2 := hF.size
    have hqlt := blk_lt hCu.blk
    have HF1 := Aside0.mk hF
    have HQ1 := Aside0.mk (show Cu W1 wc.heap.size q (fun k => wc.heap.size ≤ k ∧ k < W1.heap.size) vq l 0 from ⟨hCu.blk, Kd.R_mono (Kd.R_bound hCu.row) (fun k hk => ⟨hk.1, hk.2.2.1⟩), hCu.le, hCu.max⟩)
    clear hF hCu hcut
    have HCw := Aside0.mk (Kd.C_below HC.out (HF0.out.trans HF.out (fun _ _ h => h)).to_below)
    have HCw1 := Aside0.mk (Kd.C_below HC1.out (HF0.out.trans HF.out (fun _ _ h => h)).to_below)
    obtain ⟨ko, hko⟩ := only_some ks hk l hl
    have HKO := Aside0.mk hko
    clear hko
    have hn2 : l.length ≤ cp := by omega
    go_wp2_with (fail)
    refine (token_Only.calls ko (some ⟨g, 0, none⟩) cp l A1 c1 ks _ W1 (Kd.R_reads' (HF1.out.R HMI.out (fun _ _ => id))).2.2 hn2 (Kd.C_below HCw1.out HF1.out.to_below) hc1 HKO.out).mono ?_
    rintro e W2 ⟨va, rfl, hRa, hb⟩
    have HF2 := Aside0.mk (HF1.out.trans (Fr.of_below (S := fun _ => False) hb) (fun _ _ h => h))
    have HQ2 := Aside0.mk (HQ1.out.fr (Fr.of_below (S := fun _ => False) hb) id (fun _ _ => id))
    have HA2 := Aside0.mk (Kd.R_mono (Kd.R_bound hRa) (fun k hk => (⟨hk.2.1, hk.2.2.1⟩ : W1.heap.size ≤ k ∧ k < W2.heap.size)))
    have hs3 := hb.size
    clear hb hRa HF1 HQ1
    go_wp2_with (fail)
    refine (token_Only.calls ko (some ⟨g, 0, none⟩) cp l A1 c1 ks _ W2 (Kd.R_reads' (HF2.out.R HMI.out (fun _ _ => id))).2.2 hn2 (Kd.C_below HCw1.out HF2.out.to_below) hc1 HKO.out).mono ?_
    rintro e W3 ⟨vb, rfl, hRb, hb⟩
    have HF3 := Aside0.mk (HF2.out.trans (Fr.of_below (S := fun _ => False) hb) (fun _ _ h => h))
    have HQ3 := Aside0.mk (HQ2.out.fr (Fr.of_below (S := fun _ => False) hb) id (fun _ _ => id))
    have HA3 := Aside0.mk ((Fr.of_below (S := fun _ => False) hb).R HA2.out (fun _ _ => id))
    have HB3 := Aside0.mk (Kd.R_mono (Kd.R_bound hRb) (fun k hk => (⟨hk.2.1, hk.2.2.1⟩ : W2.heap.size ≤ k ∧ k < W3.heap.size)))
    have hs4 := hb.size
    clear hb hRb HF2 HQ2 HA2 HKO
    have HR3 := Aside0.mk (HF3.out.R HR.out (fun _ _ => id))
    have HMI3 := Aside0.mk (HF3.out.R HMI.out (fun _ _ => id))
    have HT3 := Aside0.mk ((HF.out.trans HF3.out (fun _ _ h => h)).blk HT0.out id)
    have HC3 := Aside0.mk (Kd.C_below HCw.out HF3.out.to_below)
    clear HR HMI HT0 HCw
    obtain ⟨ad, had, hy0, hy1, hy2⟩ := at_T55 (Kd.R_reads' HR3.out).2.2 (l.length : Int) (by omega) (by simp; omega)
    injection had with had
    subst had
    have hrd : rd_T55 (l ++ [mk9, mk9]) (l.length : Int) = mk9 := by simp [rd_T55, List.getD_eq_getElem?_getD]
    rw [hrd] at hy0 hy1 hy2
    simp only [mk9, Int.toNat_natCast] at hy0 hy1 hy2
    clear hrd
    simp only [add_plain] at hy0 hy1 hy2
    have klt : (l.length : Int) < (l.length : Int) + 2 := by omega
    have ht0 := (blk_cell HT3.out 0).trans (show _ = some (Value.int .i64 (-9)) from rfl)
    have ht1 := (blk_cell HT3.out 1).trans (show _ = some (Value.int .i64 0) from rfl)
    have ht2 := (blk_cell HT3.out 2).trans (show _ = some (Value.int .i64 0) from rfl)
    have hl6 : l.length ≤ 9223372036854775806 := by omega
    go_upto_region 6 with (fail)
    go_cut [53] from 37 to 53 (fun o wx => o = .bool false ∧ Aside0 (Fr (fun _ => False) W3 wx))
    case first =>
      refine wp_region_last_drew (S := fun w' => (w'.cell? ⟨mb, 0, none⟩ = some (.int .i64 (-9)) ∧ w'.cell? ⟨mb, 1, none⟩ = some (.int .i64 0) ∧ w'.cell? ⟨mb, 2, none⟩ = some (.int .i64 0)) ∧ w'.cell? _ = some (.int .i64 (-9)) ∧ w'.cell? _ = some (.int .i64 0) ∧ w'.cell? _ = some (.int .i64 0)) (ds := []) (by kernel_rfl) ⟨⟨ht0, ht1, ht2⟩, hy0, hy1, hy2⟩ (fun hHeld => ?_)
      have HF4 := Aside0.mk (Fr.refl (fun _ => False) W3).drew
      refine tk 0 ?_
      refine tk (v := .bool false) 1 ?_
      refine tk 2 ?_
      refine tk 3 ?_
      refine tk 4 ?_
      refine on 5 (fun K hK => ?_)
      go_simp
      refine (same_calls _ l hl6 _ cp hn2 (Kd.C_below (Kd.R_reads' HMI3.out).2.2 HF4.out.to_below) A c hc (Kd.C_below HC3.out HF4.out.to_below)).mono ?_
      rintro e W5 ⟨rfl, hF⟩
      have HF5 := Aside0.mk (HF4.out.trans hF (fun _ _ h => h))
      clear hF
      refine hK.out _ _ ⟨⟨HF5.out.cell ht0 id, HF5.out.cell ht1 id, HF5.out.cell ht2 id⟩, HF5.out.cell hy0 id, HF5.out.cell hy1 id, HF5.out.cell hy2 id⟩ (fun hHeld => ?_)
      clear hK K
      try simp only [Act.put, List.setIfInBounds_toArray, List.set_cons_zero, List.set_cons_succ]
      refine tk (v := .bool false) 6 ?_
      refine tk 7 ?_
      refine tk 8 ?_
      refine tk 9 ?_
      refine tk 10 ?_
      refine tk 11 ?_
      refine tk 12 ?_
      refine tk 13 ?_
      refine tk 14 ?_
      refine tk (v := .bool false) 15 ?_
      refine tk 16 ?_
      refine dn ?_
      go_wp2_with (fail)
      go_meet
      exact ⟨rfl, HF5⟩
    case rest =>
      obtain ⟨rfl, HF4⟩ := hcut
      have HQ4 := Aside0.mk (HQ3.out.fr HF4.out id (fun _ _ => id))
      have HA4 := Aside0.mk (HF4.out.R HA3.out (fun _ _ => id))
      have HB4 := Aside0.mk (HF4.out.R HB3.out (fun _ _ => id))
      have HMI4 := Aside0.mk (show k55.R 55 wc w.heap.size (fun k => k = g) (.slice (some ⟨g, 0, none⟩) l.length cp) l from Kd.R_mono (Kd.R_tight rfl (HF4.out.R HMI3.out (fun _ _ => id))) (fun k hk => by injection hk))
      have HT4 := Aside0.mk (HF4.out.blk HT3.out id)
      have HC4 := Aside0.mk (Kd.C_below HC3.out HF4.out.to_below)
      have HFW := Aside0.mk (HF0.out.trans (HF.out.trans (HF3.out.trans HF4.out (fun _ _ h => h)) (fun _ _ h => h)) (fun _ _ h => h))
      have hs5 := HF4.out.size
      clear HQ3 HA3 HB3 HR3 HMI3 HT3 HC3 HF3 HF hy0 hy1 hy2 ht0 ht1 ht2 klt
      obtain ⟨Aa, na, ca, rfl, hna, HA5⟩ : ∃ Aa na ca, va = .slice Aa na ca ∧ na ≤ l.length ∧ Aside0 (∃ xs, k55.R 55 wc W1.heap.size (fun k => W1.heap.size ≤ k ∧ k < W2.heap.size) (.slice Aa na ca) xs) := by
        obtain ⟨Aa, ca, rfl⟩ := Kd.R_slice HA4.out
        exact ⟨Aa, _, ca, rfl, onlyL_le ks l, ⟨_, HA4.out⟩⟩
      clear HA4
      have HF5 := Aside0.mk (Fr.refl (fun k => W1.heap.size ≤ k ∧ k < W2.heap.size) wc)
      go_wp2_with (fail)
      go_loopw [56] (fun a W => ∃ i : Nat, a = .int .i64 i ∧ i ≤ na ∧ Aside0 (∃ xs, k55.R 55 W W1.heap.size (fun k => W1.heap.size ≤ k ∧ k < W2.heap.size) (.slice Aa na ca) xs) ∧ Aside0 (Fr (fun k => W1.heap.size ≤ k ∧ k < W2.heap.size) wc W)) (fun a _ => na - (intOf a).toNat)
      case atStart => exact ⟨0, rfl, Nat.zero_le _, HA5, HF5⟩
      case round =>
        clear HA5 HF5
        obtain ⟨i, rfl, hi, HA5, HF5⟩ := hrel
        have HT5 := Aside0.mk (HF5.out.blk HT4.out (fun h => by omega))
        have ht0 := (blk_cell HT5.out 0).trans (show _ = some (Value.int .i64 (-9)) from rfl)
        have ht1 := (blk_cell HT5.out 1).trans (show _ = some (Value.int .i64 0) from rfl)
        have ht2 := (blk_cell HT5.out 2).trans (show _ = some (Value.int .i64 0) from rfl)
        by_cases hlt : i < na
        · obtain ⟨xs, hxs⟩ := HA5.out
          obtain ⟨ga, hga⟩ : ∃ ga, Aa = some ⟨ga, 0, none⟩ := by
            obtain ⟨hn, _⟩ := Kd.R_reads' hxs
            obtain ⟨ga, cap, hv, _⟩ := Kd.R_form hxs (by omega)
            injection hv with hv _ _
            exact ⟨ga, hv⟩
          subst hga
          have hgb := hxs.1 ga rfl
          have HX5 := Aside0.mk hxs
          clear hxs HA5
          have klt : (i : Int) < (na : Int) := by omega
          go_wp2_with (refine gate_ (.store 55 (.tmp 62) (.tmp 61)) rfl ?_; refine put_tok HX5.out i hlt (.tmp 62) (.tmp 61) rfl rfl rfl rfl rfl ?_; intro w1 h1 hF1; have HX6 := Aside0.mk h1; have HF6 := Aside0.mk (HF5.out.trans hF1 (fun k hk e => (by subst e; exact hgb))); clear h1 hF1)
          exact ⟨⟨i + 1, by go_num, by omega, ⟨_, HX6.out⟩, HF6⟩, by simp [intOf]; omega⟩
        · obtain rfl : i = na := by omega
          obtain ⟨xs, hxs⟩ := HA5.out
          have hxl : xs.length ≤ i := by have := (Kd.R_reads' hxs).1; omega
          have HX5 := Aside0.mk (Kd.R_alloc hxs (.cells #[.int .i64 (-9), .int .i64 0, .int .i64 0, .int .i64 (-9), .int .i64 0, .int .i64 0] 55))
          have HF6 := Aside0.mk (HF5.out.alloc (.cells #[.int .i64 (-9), .int .i64 0, .int .i64 0, .int .i64 (-9), .int .i64 0, .int .i64 0] 55))
          have hsz6 : (wr.alloc (.cells #[.int .i64 (-9), .int .i64 0, .int .i64 0, .int .i64 (-9), .int .i64 0, .int .i64 0] 55)).heap.size = wr.heap.size + 1 := World.size_alloc _ _
          have HSZ6 := Aside0.mk hsz6
          have hs6 := HF5.out.size
          clear hxs HA5 HF5 hsz6 ht0 ht1 ht2
          have ht0 := (blk_cell HT5.out 0).trans (show _ = some (Value.int .i64 (-9)) from rfl)
          have ht1 := (blk_cell HT5.out 1).trans (show _ = some (Value.int .i64 0) from rfl)
          have ht2 := (blk_cell HT5.out 2).trans (show _ = some (Value.int .i64 0) from rfl)
          obtain ⟨kr, hkr⟩ := row_some l hl
          have HKR := Aside0.mk hkr
          clear hkr
          go_wp2_with (at_builtin; go_must (refine Kd.R_append_rows k55 (w0 := wr.alloc (.cells #[.int .i64 (-9), .int .i64 0, .int .i64 0, .int .i64 (-9), .int .i64 0, .int .i64 0] 55)) (W := wr.alloc (.cells #[.int .i64 (-9), .int .i64 0, .int .i64 0, .int .i64 (-9), .int .i64 0, .int .i64 0] 55)) W1.heap.size rfl (.tmp 64) (.tmp 67) 23 55 (.agg #[(.int .i64 0), (.int .i64 0), (.int .i64 0)]) 24 rfl Tryd.underlying23 info55 rfl (by decide) (by decide) (.slice Aa i ca) xs [mk9, mk9] _ 2 2 (fun k => W1.heap.size ≤ k) (fun _ => False) rfl rfl (Kd.R_mono HX5.out (fun k hk => hk.1)) (toks2_C _ _ mk9 mk9 (blk_new wr _)) (fun x cs h => by rw [k55_open h]; exact k55_mkM _ _ _ x) (fun _ hk => hk.elim) (fun _ h => by rw [HSZ6.out] at h; omega) (Below.refl _ _) (by rw [HSZ6.out]; omega) (by omega) ?_; intro v7 W7 h1 hb h2 _; have HF7 := Aside0.mk (HF6.out.grown h2 (fun k hk _ => HX5.out.1 k hk)); clear h1 hb h2))
          have HMI7 := Aside0.mk (HF7.out.R HMI4.out (fun k hk h => by omega))
          have HFW7 := Aside0.mk (HFW.out.trans HF7.out (fun k hk h => by omega))
          have HT7 := Aside0.mk (HF7.out.blk HT4.out (fun h => by omega))
          refine (token_Row.calls kr (some ⟨g, 0, none⟩) cp l _ W7 (Kd.R_reads' HMI7.out).2.2 hn2 HKR.out).mono ?_
          rintro e W8 ⟨vr, rfl, hRr, hb⟩
          have hs8 := hb.size
          have hs7 := HF7.out.size
          have HF8 := Aside0.mk (HF7.out.trans (Fr.of_below (S := fun _ => False) hb) (fun _ _ h => h.elim))
          obtain ⟨Ar, nr, cr, rfl, hnr, HR8⟩ : ∃ Ar nr cr, vr = .slice Ar nr cr ∧ nr ≤ l.length ∧ Aside0 (∃ ys, (Kd.int .i64).R 3 W8 W7.heap.size (fun k => W7.heap.size ≤ k) (.slice Ar nr cr) ys) := by
            obtain ⟨Ar, cr, rfl⟩ := Kd.R_slice hRr
            exact ⟨Ar, _, cr, rfl, by simp, ⟨_, Kd.R_mono (Kd.R_bound hRr) (fun k hk => hk.2.1)⟩⟩
          have HG8 := Aside0.mk (Fr.refl (fun k => W7.heap.size ≤ k) W8)
          clear hb hRr HX5 HF6 HSZ6 HKR ht0 ht1 ht2 HT5 HMI7 HFW7 HF7
          go_wp2_with (fail)
          go_loopw [73] (fun a W => ∃ i : Nat, a = .int .i64 i ∧ i ≤ nr ∧ Aside0 (∃ ys, (Kd.int .i64).R 3 W W7.heap.size (fun k => W7.heap.size ≤ k) (.slice Ar nr cr) ys) ∧ Aside0 (Fr (fun k => W7.heap.size ≤ k) W8 W)) (fun a _ => nr - (intOf a).toNat)
          case atStart => exact ⟨0, rfl, Nat.zero_le _, HR8, HG8⟩
          case round =>
            clear HR8 HG8
            obtain ⟨j, rfl, hj, HR8, HG8⟩ := hrel
            by_cases hlt : j < nr
            · obtain ⟨ys, hys⟩ := HR8.out
              obtain ⟨gr, hgr⟩ : ∃ gr, Ar = some ⟨gr, 0, none⟩ := by
                obtain ⟨hn, _⟩ := Kd.R_reads' hys
                obtain ⟨gr, cap, hv, _⟩ := Kd.R_form hys (by omega)
                injection hv with hv _ _
                exact ⟨gr, hv⟩
              subst hgr
              have hgb := hys.1 gr rfl
              obtain ⟨hx, hfz⟩ := Kd.R_celln 0 hys (j : Int) (by omega) (by omega)
              have HY := Aside0.mk (Kd.R_putn hys (j : Int) (-5))
              have HG9 := Aside0.mk (HG8.out.set (g := gr) (o := j) (.int .i64 (-5)) (fun _ => hgb))
              simp only [Int.toNat_natCast] at hx hfz HY
              clear hys HR8
              have klt : (j : Int) < (nr : Int) := by omega
              go_wp2_with (fail)
              exact ⟨⟨j + 1, by go_num, by omega, ⟨_, HY.out⟩, HG9⟩, by simp [intOf]; omega⟩
            · obtain rfl : j = nr := by omega
              have HF9 := Aside0.mk (HF8.out.trans HG8.out (fun k hk h => by omega))
              have hs9 := HG8.out.size
              have HMI9 := Aside0.mk (show ∃ xs, k55.R 55 wr w.heap.size (fun k => k = g) (.slice (some ⟨g, 0, none⟩) l.length cp) xs from ⟨_, HF9.out.R HMI4.out (fun k hk h => by omega)⟩)
              have HH9 := Aside0.mk (Fr.refl (fun k => k = g) wr)
              clear HR8 HG8
              go_wp2_with (fail)
              go_loopw [82] (fun a W => ∃ i : Nat, a = .int .i64 i ∧ i ≤ l.length ∧ Aside0 (∃ xs, k55.R 55 W w.heap.size (fun k => k = g) (.slice (some ⟨g, 0, none⟩) l.length cp) xs) ∧ Aside0 (Fr (fun k => k = g) wr W)) (fun a _ => l.length - (intOf a).toNat)
              case atStart => exact ⟨0, rfl, Nat.zero_le _, HMI9, HH9⟩
              case round =>
                clear HMI9 HH9
                obtain ⟨m, rfl, hm, HMI9, HH9⟩ := hrel
                by_cases hlt : m < l.length
                · obtain ⟨xs, hxs⟩ := HMI9.out
                  have HX9 := Aside0.mk hxs
                  have HT9 := Aside0.mk (HH9.out.blk (HF9.out.blk HT4.out (fun h => by omega)) (fun h => by omega))
                  have ht0 := (blk_cell HT9.out 0).trans (show _ = some (Value.int .i64 (-9)) from rfl)
                  have ht1 := (blk_cell HT9.out 1).trans (show _ = some (Value.int .i64 0) from rfl)
                  have ht2 := (blk_cell HT9.out 2).trans (show _ = some (Value.int .i64 0) from rfl)
                  have klt : (m : Int) < (l.length : Int) := by omega
                  clear hxs HMI9
                  go_wp2_with (refine gate_ (.store 55 (.tmp 88) (.tmp 87)) rfl ?_; refine put_tok HX9.out m hlt (.tmp 88) (.tmp 87) rfl rfl rfl rfl rfl ?_; intro w1 h1 hF1; have HX6 := Aside0.mk h1; have HF6 := Aside0.mk (HH9.out.trans hF1 (fun k hk e => e)); clear h1 hF1)
                  exact ⟨⟨m + 1, by go_num, by omega, ⟨_, HX6.out⟩, HF6⟩, by simp [intOf]; omega⟩
                · obtain rfl : m = l.length := by omega
                  have HFA := Aside0.mk ((HF9.out.mono (T := fun k => k = g ∨ (W1.heap.size ≤ k ∧ k < W2.heap.size)) (fun k h => .inr h)).trans HH9.out (fun k hk h => .inl h))
                  have HQA := Aside0.mk (HQ4.out.fr HFA.out (fun h => by omega) (fun k h h' => by omega))
                  have HCA := Aside0.mk (Kd.C_below HC.out (HFW.out.trans HFA.out (fun k hk h => by omega)).to_below)
                  have HFQ := Aside0.mk (Fr.refl (fun k => k = q) wr)
                  clear HMI9 HH9 HF9 HF8
                  go_wp2_with (fail)
                  go_loopw [92] (fun a W => ∃ i : Nat, a = .int .i64 i ∧ i ≤ l.length ∧ Aside0 (Cu W _ q _ vq l i) ∧ Aside0 (Fr (fun k => k = q) wr W)) (fun a _ => l.length - (intOf a).toNat)
                  case atStart => exact ⟨0, rfl, Nat.zero_le _, HQA, HFQ⟩
                  case round =>
                    clear HQA HFQ
                    obtain ⟨m, rfl, hm, HQA, HFQ⟩ := hrel
                    by_cases hlt : m < l.length
                    · obtain ⟨ad, rfl, hx0, hx1, hx2⟩ := at_T55 HCA.out (m : Int) (by omega) (by omega)
                      have hadw : ad.block < w.heap.size := by
                        obtain ⟨ad', e, h0, _, _⟩ := at_T55 HC.out (m : Int) (by omega) (by omega)
                        injection e with e
                        subst e
                        have := World.block_lt_of_cell? w _ h0
                        rwa [adb] at this
                      have hnq : ∀ j, ¬ (ad.add j).block = q := fun j => by rw [adb]; omega
                      have hnq1 := hnq ((m : Int).toNat * 3)
                      replace hx0 := HFQ.out.cell hx0 hnq1
                      replace hx1 := HFQ.out.cell hx1 hnq1
                      replace hx2 := HFQ.out.cell hx2 hnq1
                      simp only [Int.toNat_natCast] at hx0 hx1 hx2 hnq1
                      clear hnq
                      have HPK := Aside0.mk (pk_lt hlt)
                      generalize rd_T55 l m = x at hx0 hx1 hx2 HPK
                      obtain ⟨x0, x1, x2⟩ := x
                      have klt : (m : Int) < (l.length : Int) := by omega
                      go_upto_region 28 with (fail)
                      refine wp_region_last_drew (S := fun w' => w'.cell? _ = some (.int .i64 x0) ∧ w'.cell? _ = some (.int .i64 x1) ∧ w'.cell? _ = some (.int .i64 x2)) (ds := []) (by kernel_rfl) ⟨hx0, hx1, hx2⟩ (fun hHeld => ?_)
                      have HFd := Aside0.mk ((Fr.refl (fun k => k = q) wr).drew)
                      refine tk 0 ?_
                      refine tk 2 ?_
                      refine tk 3 ?_
                      refine tk 4 ?_
                      refine tk 5 ?_
                      refine on 1 (fun K hK => ?_)
                      go_simp
                      refine (next_calls _ _ q _ vq l m (HQA.out.fr ((Fr.refl (fun _ => False) _).drew) id (fun _ _ => id))).mono ?_
                      rintro e W12 ⟨rfl, hQ, hF⟩
                      rw [HPK.out]
                      unfold tv
                      rw [show nxt l m = m + 1 by unfold nxt; rw [if_pos hlt]] at hQ
                      have HFB := Aside0.mk (HFd.out.trans hF (fun k hk h => h))
                      have HQB := Aside0.mk hQ
                      clear hF hQ
                      refine hK.out _ _ ⟨HFB.out.cell hx0 hnq1, HFB.out.cell hx1 hnq1, HFB.out.cell hx2 hnq1⟩ (fun hHeld => ?_)
                      clear hK K
                      try simp only [Act.put, List.setIfInBounds_toArray, List.set_cons_zero, List.set_cons_succ]
                      refine tk (v := .bool false) 6 ?_
                      refine dn ?_
                      go_wp2_with (fail)
                      exact ⟨⟨m + 1, by go_num, by omega, HQB, ⟨HFQ.out.trans HFB.out (fun k hk h => h)⟩⟩, by simp [intOf]; omega⟩
                    · obtain rfl : m = l.length := by omega
                      have HFC := Aside0.mk ((HFA.out.mono (T := fun k => k = q ∨ k = g ∨ (W1.heap.size ≤ k ∧ k < W2.heap.size)) (fun k h => .inr h)).trans HFQ.out (fun k hk h => .inl h))
                      clear HQA HFQ HCA HFA
                      have HFW9 := Aside0.mk (HFW.out.trans HFC.out (fun k hk h => by omega))
                      have HB9 := Aside0.mk (HFC.out.R HB4.out (fun k hk h => by omega))
                      clear HFC HB4 HC4 HQ4 HT4 HMI4 HT7
                      obtain ⟨Wz, hWz⟩ : ∃ Wz, wr = Wz := ⟨_, rfl⟩
                      subst hWz
                      have HXB := Aside0.mk (blk_new wr (.cells #[.slice none 0 0, .int .i64 0, .bool false] 71))
                      have HFX := Aside0.mk ((Fr.refl (fun _ => False) wr).alloc (.cells #[.slice none 0 0, .int .i64 0, .bool false] 71))
                      go_wp2_with (fail)
                      have HZ := Aside0.mk (show ((wr.alloc (.cells #[.slice none 0 0, .int .i64 0, .bool false] 71)).alloc (.cells #[.pointer none, .pointer (some ⟨wr.heap.size, 0, none⟩)] 57)).heap[wr.heap.size + 1]? = some (.cells #[.pointer none, .pointer (some ⟨wr.heap.size, 0, none⟩)] 57) from by
                        have h := blk_new (wr.alloc (.cells #[.slice none 0 0, .int .i64 0, .bool false] 71)) (.cells #[.pointer none, .pointer (some ⟨wr.heap.size, 0, none⟩)] 57)
                        rwa [World.size_alloc] at h)
                      have HXB2 := Aside0.mk (blk_alloc HXB.out (.cells #[.pointer none, .pointer (some ⟨wr.heap.size, 0, none⟩)] 57))
                      have HFX2 := Aside0.mk (HFX.out.alloc (.cells #[.pointer none, .pointer (some ⟨wr.heap.size, 0, none⟩)] 57))
                      obtain ⟨WY, hWY⟩ : ∃ WY, (wr.alloc (.cells #[.slice none 0 0, .int .i64 0, .bool false] 71)).alloc (.cells #[.pointer none, .pointer (some ⟨wr.heap.size, 0, none⟩)] 57) = WY := ⟨_, rfl⟩
                      simp only [hWY] at HZ HXB2 HFX2 ⊢
                      obtain ⟨bp, hbp⟩ : ∃ bp, wr.heap.size + 1 = bp := ⟨_, rfl⟩
                      simp only [hbp] at HZ ⊢
                      clear HXB HFX hWY hbp
                      have HHY := Aside0.mk (Fr.refl (fun _ => False) WY)
                      go_loopw [107] (fun a W => ∃ i : Nat, a = .int .i64 i ∧ i ≤ 2 ∧ Aside0 (Fr (fun _ => False) WY W)) (fun a _ => 2 - (intOf a).toNat)
                      case atStart => exact ⟨0, rfl, by omega, HHY⟩
                      case round =>
                        clear HHY
                        obtain ⟨m, rfl, hm, HHY⟩ := hrel
                        by_cases hlt : m < 2
                        · obtain ⟨p, hp, hD⟩ : ∃ p, wr.cell? ⟨bp, m, none⟩ = some (.pointer p) ∧ Dead wr p := by
                            have h1 := HHY.out.blk HZ.out id
                            have h2 := HHY.out.blk HXB2.out id
                            rcases (by omega : m = 0 ∨ m = 1) with rfl | rfl
                            · exact ⟨none, (blk_cell h1 0).trans rfl, .inl rfl⟩
                            · exact ⟨_, (blk_cell h1 1).trans rfl, .inr ⟨_, rfl, h2⟩⟩
                          have HD0 := Aside0.mk hD
                          have HG0 := Aside0.mk HHY.out
                          have HE0 := Aside0.mk (Fr.refl (fun _ => False) wr)
                          have klt : (m : Int) < 2 := by omega
                          clear hD HHY
                          go_wp2_with (fail)
                          refine (dead_peek _ p (HD0.out.fr HE0.out)).mono ?_
                          rintro e X1 ⟨rfl, hF⟩
                          rw [tv0]
                          have HD1 := Aside0.mk ((HD0.out.fr HE0.out).fr hF)
                          have HG1 := Aside0.mk ((HG0.out.trans HE0.out (fun _ _ h => h)).trans hF (fun _ _ h => h))
                          have HE1 := Aside0.mk (Fr.refl (fun _ => False) X1)
                          clear hF HD0 HG0 HE0
                          go_wp2_with (fail)
                          refine (dead_next _ p (HD1.out.fr HE1.out)).mono ?_
                          rintro e X2 ⟨rfl, hF⟩
                          rw [tv0]
                          have HD2 := Aside0.mk ((HD1.out.fr HE1.out).fr hF)
                          have HG2 := Aside0.mk ((HG1.out.trans HE1.out (fun _ _ h => h)).trans hF (fun _ _ h => h))
                          have HE2 := Aside0.mk (Fr.refl (fun _ => False) X2)
                          clear hF HD1 HG1 HE1
                          go_wp2_with (fail)
                          refine (dead_back _ p (HD2.out.fr HE2.out)).mono ?_
                          rintro e X3 ⟨rfl, hF⟩
                          have HD3 := Aside0.mk ((HD2.out.fr HE2.out).fr hF)
                          have HG3 := Aside0.mk ((HG2.out.trans HE2.out (fun _ _ h => h)).trans hF (fun _ _ h => h))
                          have HE3 := Aside0.mk (Fr.refl (fun _ => False) X3)
                          clear hF HD2 HG2 HE2
                          go_wp2_with (fail)
                          refine (dead_at _ p (HD3.out.fr HE3.out)).mono ?_
                          rintro e X4 ⟨rfl, hF⟩
                          have HD4 := Aside0.mk ((HD3.out.fr HE3.out).fr hF)
                          have HG4 := Aside0.mk ((HG3.out.trans HE3.out (fun _ _ h => h)).trans hF (fun _ _ h => h))
                          have HE4 := Aside0.mk (Fr.refl (fun _ => False) X4)
                          clear hF HD3 HG3 HE3
                          go_wp2_with (fail)
                          refine (dead_left _ p (HD4.out.fr HE4.out)).mono ?_
                          rintro e X5 ⟨rfl, hF⟩
                          have HD5 := Aside0.mk ((HD4.out.fr HE4.out).fr hF)
                          have HG5 := Aside0.mk ((HG4.out.trans HE4.out (fun _ _ h => h)).trans hF (fun _ _ h => h))
                          have HE5 := Aside0.mk (Fr.refl (fun _ => False) X5)
                          clear hF HD4 HG4 HE4
                          go_wp2_with (fail)
                          refine (dead_mark _ p (HD5.out.fr HE5.out)).mono ?_
                          rintro e X6 ⟨rfl, hF⟩
                          have HD6 := Aside0.mk ((HD5.out.fr HE5.out).fr hF)
                          have HG6 := Aside0.mk ((HG5.out.trans HE5.out (fun _ _ h => h)).trans hF (fun _ _ h => h))
                          have HE6 := Aside0.mk (Fr.refl (fun _ => False) X6)
                          clear hF HD5 HG5 HE5
                          go_wp2_with (fail)
                          exact ⟨⟨m + 1, by go_num, by omega, HG6⟩, by simp [intOf]; omega⟩
                        · obtain rfl : m = 2 := by omega
                          have HFZ := Aside0.mk (HFX2.out.trans HHY.out (fun _ _ h => h))
                          have HFZW := Aside0.mk (HFW9.out.trans HFZ.out (fun _ _ h => h))
                          have HBZ := Aside0.mk (HFZ.out.R HB9.out (fun _ _ => id))
                          obtain ⟨Ab, cb, rfl⟩ := Kd.R_slice HBZ.out
                          have hcb := (Kd.R_reads' HBZ.out).2.1
                          go_wp2_with (fail)
                          refine (ref_calls _ l hl A c hc (Kd.C_below HC.out HFZW.out.to_below) ks hk A1 c1 hc1 (Kd.C_below HC1.out HFZW.out.to_below)).mono ?_
                          rintro e Y1 ⟨Ap, cq, rfl, hcq, hP, hF⟩
                          have HFY1 := Aside0.mk (HFZW.out.trans hF (fun _ _ h => h))
                          have HBY := Aside0.mk (hF.R HBZ.out (fun _ _ => id))
                          have HPY := Aside0.mk hP
                          clear hF hP HBZ
                          go_wp2_with (fail)
                          refine (same_calls _ (onlyL ks l) (by have := onlyL_le ks l; omega) Ab cb hcb (Kd.R_reads' HBY.out).2.2 Ap cq hcq HPY.out).mono ?_
                          rintro e Y2 ⟨rfl, hF⟩
                          have HFY2 := Aside0.mk (HFY1.out.trans hF (fun _ _ h => h))
                          clear hF
                          go_wp2_with (fail)
                          refine (alive_calls Y2 (HM.out.fr HFY2.out (fun _ _ => id))).mono ?_
                          rintro e Y3 ⟨rfl, hF⟩
                          go_wp2_with (fail)
                          go_ret
                          exact ⟨rfl, (HFY2.out.trans hF (fun _ _ h => h)).to_below⟩
end Go.Proofs.YtagokdbpgljgjaaDoor.Tok
