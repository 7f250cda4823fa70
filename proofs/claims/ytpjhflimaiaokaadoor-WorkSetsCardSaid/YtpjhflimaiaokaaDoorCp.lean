/-
copy(xs[k+1:], xs[k:]) on a row of whole numbers of the call's own, as one step of a region that draws its order.
-/
import Derived.Test.YtpjhflimaiaokaaDoorFr
import Derived.Laws.CopyOwn
import Derived.Deep.RegionLaw
namespace Go.Proofs.YtpjhflimaiaokaaDoor.Fr
open Go.RowKit Go.Proofs.YtpjhflimaiaokaaDoorW.PrintWords Go.Proofs.YtpjhflimaiaokaaDoorW.PrintLast Go.Proofs.YtpjhflimaiaokaaDoorW.PrintMore

theorem splice_take {α : Type} (cur cs : List α) (n k : Nat) (hk : k + 1 ≤ n) (hn : n ≤ cur.length) (hc : cs.length = n - (k + 1)) : (cur.take (k + 1) ++ cs ++ cur.drop (k + 1 + cs.length)).take n = (cur.take n).take (k + 1) ++ cs := by
  have hl : (cur.take (k + 1) ++ cs).length = n := by rw [List.length_append, List.length_take, hc]; omega
  rw [List.take_append_of_le_length (by rw [hl]; exact Nat.le_refl _), List.take_of_length_le (by rw [hl]; exact Nat.le_refl _), List.take_take, Nat.min_eq_left hk]
theorem row_copy_up {P : Program} {W : World} {B : Nat} {e t ty : TypeId} {g n cap k : Nat} {ok : Nat → Prop} {l : List Int} (hu : P.underlying t = some (.slice e)) (hs : (P.info? e).map (·.size) = some 1)
    (h : (Kd.int .i64).R e W B ok (.slice (some ⟨g, 0, none⟩) n cap) l) (hk : k + 1 ≤ n) :
    ∃ w1, (Builtin.copy_ #[t, t] ty #[.slice (if cap = k + 1 then some ⟨g, 0, none⟩ else some ⟨g, k + 1, none⟩) (n - (k + 1)) (cap - (k + 1)), .slice (some ⟨g, k, none⟩) (n - k) (cap - k)]).run P W = .ok (goInt ((n - (k + 1) : Nat))) w1 ∧
      (Kd.int .i64).R e w1 B ok (.slice (some ⟨g, 0, none⟩) n cap) (l.take (k + 1) ++ (l.drop k).take (n - (k + 1))) ∧ W.grownBy w1 (some g) := by
  obtain ⟨hn, hnc, hC⟩ := Kd.R_reads' h
  subst hn
  have ho := Kd.own_of_R h
  by_cases h0 : l.length = k + 1
  · refine ⟨W, ?_, ?_, World.grownBy.refl W _⟩
    · rw [run_copy_none (P := P) W t t ty e _ _ _ _ _ _ hu hs (by rw [h0]; simp)]
      rw [h0]; simp
    · rw [h0]; simp only [Nat.sub_self, List.take_zero, List.append_nil]
      rw [List.take_of_length_le (by omega)]; rw [← h0]; exact h
  · rcases ho.2 with ⟨hv, _⟩ | ⟨g', cap', cur, hv, hb, hh, hnc', hcm, hcs, ht⟩
    · cases hv
    injection hv with ha _ hc
    injection ha with ha
    injection ha with hg
    subst hg; subst hc
    have hcap : ¬ cap = k + 1 := by omega
    rw [if_neg hcap]
    have hcl : cur.size = cap := by rw [hcs]; omega
    have hcur : ∀ j, j < l.length → cur[j]? = some (Value.int .i64 (l.getD j 0)) := by
      intro j hj
      have := encs_get (enc := Value.int .i64) (d := (0 : Int)) l j hj
      rw [← ht, List.getElem?_take, if_pos (by omega), Array.getElem?_toList] at this
      exact this
    obtain ⟨cs, hcsd⟩ : ∃ cs, cs = encs (Value.int .i64) ((l.drop k).take (l.length - (k + 1))) := ⟨_, rfl⟩
    have hcslen : cs.length = l.length - (k + 1) := by rw [hcsd]; simp [encs]; omega
    have hrun := run_copy_row (P := P) W t t ty e g (k + 1) (l.length - (k + 1)) (cap - (k + 1)) ⟨g, k, none⟩ (l.length - k) (cap - k) cur e cs hu hs hh (by rw [hcslen]; exact (Nat.min_eq_right (by omega)).symm)
      (fun j v hv => by
        have hj : j < l.length - (k + 1) := by
          have := (List.getElem?_eq_some_iff.1 hv).1
          omega
        rw [hcsd, encs_get (d := (0 : Int)) _ _ (by rw [List.length_take, List.length_drop]; omega)] at hv
        rw [show ((⟨g, k, none⟩ : Addr).add j) = ⟨g, k + j, none⟩ from by unfold Addr.add; split <;> simp_all]
        rw [cell_of_row W g _ cur e (0, 0) hh, hcur (k + j) (by omega), ← hv]
        congr 2
        rw [List.getD_eq_getElem?_getD, List.getD_eq_getElem?_getD, List.getElem?_take, if_pos hj, List.getElem?_drop])
      (by omega) (by intro v hv; rw [hcsd] at hv; simp only [encs, List.mem_map] at hv; obtain ⟨q, _, rfl⟩ := hv; rfl)
    refine ⟨W.setRow g (cur.toList.take (k + 1) ++ cs ++ cur.toList.drop (k + 1 + cs.length)).toArray, by rw [hrun, hcslen], ?_, ⟨rfl, rfl, rfl, by simp [World.setRow], fun q _ hq => setRow_other W g q _ (fun e => hq (by rw [e]))⟩⟩
    have hlen : (l.take (k + 1) ++ (l.drop k).take (l.length - (k + 1))).length = l.length := by simp; omega
    have hR : (Kd.int .i64).R e (W.setRow g (cur.toList.take (k + 1) ++ cs ++ cur.toList.drop (k + 1 + cs.length)).toArray) B ok (.slice (some ⟨g, 0, none⟩) (l.take (k + 1) ++ (l.drop k).take (l.length - (k + 1))).length cap) (l.take (k + 1) ++ (l.drop k).take (l.length - (k + 1))) := by
      refine Kd.R_of_own ⟨by simp [encs], .inr ⟨g, cap, _, rfl, hb, setRow_heap W g _ _ e _ hh, by rw [hlen]; exact hnc', hcm, ?_, ?_⟩⟩ (fun q hq => h.1 q hq)
      · simp only [List.size_toArray, List.length_append, List.length_take, List.length_drop, Array.length_toList, hcslen, hcl]; omega
      · rw [hlen, Nat.mul_one]
        rw [splice_take cur.toList cs l.length k (by omega) (by rw [show cur.toList.length = cap from hcl]; exact hnc) hcslen, show cur.toList.take l.length = encs (Value.int .i64) l by rw [← ht, Nat.mul_one]]
        rw [hcsd]; simp [encs, List.map_take]
    rwa [hlen] at hR
theorem step_copy_up {P : Program} {ops : Array Oper} {o : Oper} {a : Act} {K : Act → World → Prop} {Q : Exit → Act → World → Prop} {E : Prop} {W : World} {B : Nat} {e : TypeId} (hgd : o.guard = none) (d s : Operand) (t : TypeId)
    (ho : o.op = .call { callee := .builtin .copy, args := #[d, s], argTypes := #[t, t] }) (hu : P.underlying t = some (.slice e)) (hsz : (P.info? e).map (·.size) = some 1)
    {g n cap k m m2 c1 c2 : Nat} {A1 A2 : Option Addr} {ok : Nat → Prop} {l : List Int} (hd : a.eval d = .slice A1 m c1) (hs : a.eval s = .slice A2 m2 c2)
    (hA1 : A1 = if cap = k + 1 then some ⟨g, 0, none⟩ else some ⟨g, k + 1, none⟩) (hA2 : A2 = if cap = k then some ⟨g, 0, none⟩ else some ⟨g, k, none⟩) (hm : m = n - (k + 1)) (hm2 : m2 = n - k) (hc1 : c1 = cap - (k + 1)) (hc2 : c2 = cap - k)
    (HR : (Kd.int .i64).R e W B ok (.slice (some ⟨g, 0, none⟩) n cap) l) (hk : k + 1 ≤ n)
    (h : ∀ w1, (Kd.int .i64).R e w1 B ok (.slice (some ⟨g, 0, none⟩) n cap) (l.take (k + 1) ++ (l.drop k).take (n - (k + 1))) → W.grownBy w1 (some g) → K (a.put o.dst (goInt (m : Nat))) w1) :
    if Region.wanted o (yielded ops a.tmps) = true then Oper.wp P o a W K Q else E := by
  subst hA1; subst hm; subst hm2; subst hc1; subst hc2
  have hcap := (Kd.R_reads' HR).2.1
  rw [if_neg (by omega)] at hA2
  subst hA2
  have hw : Region.wanted o (yielded ops a.tmps) = true := by simp [Region.wanted, hgd]
  rw [if_pos hw]
  obtain ⟨w1, hrun, hR, hG⟩ := row_copy_up (ty := o.type) hu hsz HR hk
  unfold Oper.wp
  simp only [execOp, ho, resolve, invoke, builtin, hd, hs, Sem.run_bind, Sem.run_pure, Result.andThen_ok, List.map_toArray, List.map_cons, List.map_nil, hrun]
  exact h w1 hR hG
end Go.Proofs.YtpjhflimaiaokaaDoor.Fr
