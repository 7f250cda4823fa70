/-
Two sets and the reference's two sets beside them: what stands while one is turned.
-/
import Derived.Test.YtpjhflimaiaokaaDoorRM
import Derived.Test.YtpjhflimaiaokaaDoorKB
import Derived.Test.YtpjhflimaiaokaaDoorSC
namespace Go.Proofs.YtpjhflimaiaokaaDoor.Does
open Go.RowKit Go.Proofs.YtpjhflimaiaokaaDoorW.PrintWords Go.Proofs.YtpjhflimaiaokaaDoorW.PrintLast Go.Proofs.YtpjhflimaiaokaaDoorW.PrintMore Go.Proofs.YtpjhflimaiaokaaDoor.Fr Go.Proofs.YtpjhflimaiaokaaDoor.Sets Go.Proofs.YtpjhflimaiaokaaDoor.SetW Go.Proofs.YtpjhflimaiaokaaDoor.RSet

/-- Neither of two rows lies in block k. -/
def Off (s s' : Value) (k : Nat) : Prop := s.ownBlock ≠ some k ∧ s'.ownBlock ≠ some k
structure Two (W : World) (top g h : Nat) (s s' v v' : Value) (l m p q : List Int) : Prop where
  x : Nums W top g s l
  y : Nums W top h s' m
  gx : top ≤ g
  gy : top ≤ h
  ne : g ≠ h
  own : ∀ k, s.ownBlock = some k → s'.ownBlock ≠ some k
  rx : kI.R 3 W 0 (Off s s') v p
  ry : kI.R 3 W 0 (Off s s') v' q
theorem Two.swap {W : World} {top g h : Nat} {s s' v v' : Value} {l m p q : List Int} (T : Two W top g h s s' v v' l m p q) : Two W top h g s' s v' v m l q p :=
  ⟨T.y, T.x, T.gy, T.gx, fun e => T.ne e.symm, fun k h1 h2 => T.own k h2 h1, Kd.R_mono T.ry (fun _ hk => ⟨hk.2, hk.1⟩), Kd.R_mono T.rx (fun _ hk => ⟨hk.2, hk.1⟩)⟩
theorem nums_fr {w w1 : World} {B g : Nat} {sv : Value} {l : List Int} {S : Nat → Prop} (h : Nums w B g sv l) (hF : Fr S w w1) (hg : ¬ S g) (ho : ∀ k, sv.ownBlock = some k → ¬ S k) : Nums w1 B g sv l :=
  ⟨hF.blk h.blk hg, Kd.R_mono (hF.R (show kI.R 3 w B (fun k => sv.ownBlock = some k) sv l from Kd.R_of_own (Kd.own_of_R h.row) (fun _ hk => hk)) ho) (fun _ _ => trivial)⟩
theorem Two.fr {W W1 : World} {top g h : Nat} {s s' v v' : Value} {l m p q : List Int} (T : Two W top g h s s' v v' l m p q) (hF : Fr (fun _ => False) W W1) : Two W1 top g h s s' v v' l m p q :=
  ⟨nums_fr T.x hF id (fun _ _ => id), nums_fr T.y hF id (fun _ _ => id), T.gx, T.gy, T.ne, T.own, hF.R T.rx (fun _ _ => id), hF.R T.ry (fun _ _ => id)⟩
theorem Two.but {W W1 : World} {top g h : Nat} {s s' v v' : Value} {l m p q : List Int} (T : Two W top g h s s' v v' l m p q) {b t : Nat} {C : Array Value} (hF : Fr (fun k => k = b) W W1) (hb : W.heap[b]? = some (.cells C t (0, 0))) (ht : t ≠ 67) (ht2 : t ≠ 3) : Two W1 top g h s s' v v' l m p q := by
  have hne : ∀ {ok : Nat → Prop} {B : Nat} {u : Value} {us : List Int}, kI.R 3 W B ok u us → ∀ k, u.ownBlock = some k → k ≠ b := fun hR k hk e => by
    subst e
    exact Kd.R_ne hR hb (fun e => ht2 e.symm) hk.symm
  have hset : ∀ {k : Nat} {u : Value}, W.heap[k]? = some (.cells #[u] 67 (0, 0)) → k ≠ b := fun hk e => by
    subst e
    rw [hb] at hk
    injection hk with hk
    injection hk with _ hk _
    exact ht hk
  have hrow : ∀ {B : Nat} {ok : Nat → Prop} {u : Value} {us : List Int}, kI.R 3 W B ok u us → kI.R 3 W1 B ok u us := fun {B ok u us} hR =>
    Kd.R_mono (hF.R (show kI.R 3 W B (fun k => ok k ∧ k ≠ b) u us from Kd.R_of_own (Kd.own_of_R hR) (fun k hk => ⟨hR.1 k hk, hne hR k hk⟩)) (fun k hk => hk.2)) (fun _ hk => hk.1)
  exact ⟨nums_fr T.x hF (hset T.x.blk) (hne T.x.row), nums_fr T.y hF (hset T.y.blk) (hne T.y.row), T.gx, T.gy, T.ne, T.own, hrow T.rx, hrow T.ry⟩
theorem row_lt {W : World} {B : Nat} {ok : Nat → Prop} {u : Value} {us : List Int} (h : kI.R 3 W B ok u us) (k : Nat) (hk : u.ownBlock = some k) : k < W.heap.size := ((Kd.R_bound h).1 k hk).2.2.1
theorem Two.turn {W W1 : World} {top g h : Nat} {s s' v v' : Value} {l m p q l1 : List Int} (T : Two W top g h s s' v v' l m p q) (hT : STurned W top g s l1 W1) : ∃ s1, Two W1 top g h s1 s' v v' l1 m p q ∧ Fr (fun k => top ≤ k) W W1 := by
  obtain ⟨s1, hN, hF, hO⟩ := hT
  have hny : ∀ k, s'.ownBlock = some k → ¬ SFoot g s k := fun k hk hs => by
    rcases hs with rfl | hs
    · exact Kd.R_ne T.y.row T.x.blk (by decide) hk.symm
    · exact T.own k hs hk
  have hrow : ∀ {u : Value} {us : List Int}, kI.R 3 W 0 (Off s s') u us → kI.R 3 W1 0 (Off s1 s') u us := fun {u us} hR => by
    refine Kd.R_mono (hF.R (show kI.R 3 W 0 (fun k => Off s s' k ∧ k < W.heap.size ∧ ¬ SFoot g s k) u us from Kd.R_of_own (Kd.own_of_R hR) (fun k hk => ⟨hR.1 k hk, row_lt hR k hk, fun hs => ?_⟩)) (fun k hk => hk.2.2)) (fun k hk => ⟨fun e => ?_, hk.1.2⟩)
    · rcases hs with rfl | hs
      · exact Kd.R_ne hR T.x.blk (by decide) hk.symm
      · exact (hR.1 k hk).1 hs
    · rcases hO with e2 | ⟨b, e2, hb⟩
      · exact hk.1.1 (e2 ▸ e)
      · rw [e2] at e
        injection e with e
        have := hk.2.1
        omega
  refine ⟨s1, ⟨hN, nums_fr T.y hF (fun hs => ?_) hny, T.gx, T.gy, T.ne, fun k hk hk2 => ?_, hrow T.rx, hrow T.ry⟩, hF.mono (fun i hs => ?_)⟩
  · rcases hs with e | hs
    · exact T.ne e.symm
    · exact Kd.R_ne T.x.row T.y.blk (by decide) hs.symm
  · rcases hO with e2 | ⟨b, e2, hb⟩
    · exact T.own k (e2 ▸ hk) hk2
    · rw [e2] at hk
      injection hk with hk
      have := row_lt T.y.row k hk2
      omega
  · rcases hs with rfl | hs
    · exact T.gx
    · exact Kd.R_base T.x.row i hs
/-- The reference's first set is another one. -/
theorem Two.ref {W W1 : World} {top g h : Nat} {s s' v v' v1 : Value} {l m p q p1 : List Int} (T : Two W top g h s s' v v' l m p q) (hF : Fr (fun _ => False) W W1) (hR : kI.R 3 W1 0 (Off s s') v1 p1) : Two W1 top g h s s' v1 v' l m p1 q :=
  have T1 := T.fr hF
  ⟨T1.x, T1.y, T1.gx, T1.gy, T1.ne, T1.own, hR, T1.ry⟩
theorem Two.fresh {W : World} {top g h : Nat} {s s' v v' : Value} {l m p q : List Int} (T : Two W top g h s s' v v' l m p q) (k : Nat) (hk : W.heap.size ≤ k) : Off s s' k :=
  ⟨fun e => by have := row_lt T.x.row k e; omega, fun e => by have := row_lt T.y.row k e; omega⟩
/-- A copy of the second set in the place of the first, in the reference too. -/
theorem Two.copied {W W1 : World} {top g h g1 : Nat} {s s' v v' s1 : Value} {l m p q : List Int} (T : Two W top g h s s' v v' l m p q) (hF : Fr (fun _ => False) W W1) (hN : Nums W1 W.heap.size g1 s1 m) (hg : W.heap.size ≤ g1) (ht : top ≤ W.heap.size) : Two W1 top g1 h s1 s' v' v' m m q q := by
  have T1 := T.fr hF
  have hh := blk_lt T.y.blk
  have hrow : kI.R 3 W1 0 (Off s1 s') v' q := Kd.R_mono (hF.R (show kI.R 3 W 0 (fun k => Off s s' k ∧ k < W.heap.size) v' q from Kd.R_of_own (Kd.own_of_R T.ry) (fun k hk => ⟨T.ry.1 k hk, row_lt T.ry k hk⟩)) (fun _ _ => id)) (fun k hk => ⟨fun e => by have := Kd.R_base hN.row k e; have := hk.2; omega, hk.1.2⟩)
  exact ⟨⟨hN.blk, Kd.R_lower hN.row ht⟩, T1.y, by omega, T.gy, by omega, fun k hk hk2 => by have := Kd.R_base hN.row k hk; have := row_lt T.y.row k hk2; omega, hrow, hrow⟩
/-- The two sets in their arrays. -/
structure Duo (W : World) (top ga gr : Nat) (l m : List Int) : Prop where
  ex : ∃ g h s s' v v', Two W top g h s s' v v' l m l m ∧ W.heap[ga]? = some (.cells #[.pointer (some ⟨g, 0, none⟩), .pointer (some ⟨h, 0, none⟩)] 38 (0, 0)) ∧ W.heap[gr]? = some (.cells #[v, v'] 43 (0, 0))
  rl : Rising l
  rm : Rising m
  nl : ∀ x, x ∈ l → isNum x = true
  nm : ∀ x, x ∈ m → isNum x = true
  ta : top ≤ ga
  tr : top ≤ gr
end Go.Proofs.YtpjhflimaiaokaaDoor.Does
