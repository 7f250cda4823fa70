/-
What stands in the boxes of a call of one of two sets.
-/
import Derived.Test.YtpjhflimaiaokaaDoorDP
namespace Go.Proofs.YtpjhflimaiaokaaDoor.Does
open Go.RowKit Go.Proofs.YtpjhflimaiaokaaDoorW.PrintWords Go.Proofs.YtpjhflimaiaokaaDoorW.PrintLast Go.Proofs.YtpjhflimaiaokaaDoorW.PrintMore Go.Proofs.YtpjhflimaiaokaaDoor.Fr Go.Proofs.YtpjhflimaiaokaaDoor.Sets Go.Proofs.YtpjhflimaiaokaaDoor.SetW Go.Proofs.YtpjhflimaiaokaaDoor.RSet

def DoPost (w : World) (top ga gr : Nat) (e : Ending) (w' : World) : Prop :=
  e = .returned (.bool true) ∧ ∃ l m, Duo w' top ga gr l m ∧ Fr (fun k => top ≤ k) w w'
structure Env (w W : World) (ga gr : Nat) (k wh n : Int) (A : Option Addr) (c : Nat) (L : List Int) (X Y : Value) (PA RA : Array Value) : Prop where
  b : W.heap[w.heap.size]? = some (.cells #[.int .i64 k, .int .i64 wh, .int .i64 n, .slice A L.length c] 45 (0, 0))
  p : W.heap[w.heap.size + 1]? = some (.cells #[X] 40 (0, 0))
  q : W.heap[w.heap.size + 1 + 1]? = some (.cells #[Y] 40 (0, 0))
  a : W.heap[ga]? = some (.cells PA 38 (0, 0))
  r : W.heap[gr]? = some (.cells RA 43 (0, 0))
def Env.world (w : World) (k wh n : Int) (A : Option Addr) (c : Nat) (L : List Int) (X Y : Value) : World :=
  (((w.alloc (.cells #[.int .i64 k, .int .i64 wh, .int .i64 n, .slice A L.length c] 45)).alloc (.cells #[X] 40)).alloc (.cells #[Y] 40)).drew.drew
theorem Env.start (w : World) (ga gr : Nat) (k wh n : Int) (A : Option Addr) (c : Nat) (L : List Int) (X Y : Value) {PA RA : Array Value} (ha : w.heap[ga]? = some (.cells PA 38 (0, 0))) (hr : w.heap[gr]? = some (.cells RA 43 (0, 0))) :
    Env w (Env.world w k wh n A c L X Y) ga gr k wh n A c L X Y PA RA :=
  ⟨blk_drew (blk_drew (blk_alloc (blk_alloc (blk_new w _) _) _)), blk_drew (blk_drew (blk_alloc (by simpa using blk_new (w.alloc (.cells #[.int .i64 k, .int .i64 wh, .int .i64 n, .slice A L.length c] 45)) (.cells #[X] 40)) _)),
    blk_drew (blk_drew (by simpa using blk_new ((w.alloc (.cells #[.int .i64 k, .int .i64 wh, .int .i64 n, .slice A L.length c] 45)).alloc (.cells #[X] 40)) (.cells #[Y] 40))),
    blk_drew (blk_drew (blk_alloc (blk_alloc (blk_alloc ha _) _) _)), blk_drew (blk_drew (blk_alloc (blk_alloc (blk_alloc hr _) _) _))⟩
theorem Env.frame (w : World) (k wh n : Int) (A : Option Addr) (c : Nat) (L : List Int) (X Y : Value) : Fr (fun _ => False) w (Env.world w k wh n A c L X Y) := ((((Fr.refl _ w).alloc _).alloc _).alloc _).drew.drew
theorem Env.size (w : World) (k wh n : Int) (A : Option Addr) (c : Nat) (L : List Int) (X Y : Value) : (Env.world w k wh n A c L X Y).heap.size = w.heap.size + 3 := by
  show ((((w.alloc _).alloc _).alloc _).heap).size = _
  simp only [World.size_alloc]
theorem Env.fr {w W W1 : World} {ga gr : Nat} {k wh n : Int} {A : Option Addr} {c : Nat} {L : List Int} {X Y : Value} {PA RA : Array Value} (h : Env w W ga gr k wh n A c L X Y PA RA) (hF : Fr (fun _ => False) W W1) : Env w W1 ga gr k wh n A c L X Y PA RA :=
  ⟨hF.blk h.b id, hF.blk h.p id, hF.blk h.q id, hF.blk h.a id, hF.blk h.r id⟩
theorem Env.turn {w W W1 : World} {ga gr : Nat} {k wh n : Int} {A : Option Addr} {c : Nat} {L : List Int} {X Y : Value} {PA RA : Array Value} (h : Env w W ga gr k wh n A c L X Y PA RA) {B g : Nat} {s : Value} {l l1 : List Int} (hN : Nums W B g s l) (hT : STurned W B g s l1 W1) : Env w W1 ga gr k wh n A c L X Y PA RA := by
  obtain ⟨s1, _, hF, _⟩ := hT
  have key : ∀ {b t : Nat} {C : Array Value}, W.heap[b]? = some (.cells C t (0, 0)) → t ≠ 67 → t ≠ 3 → W1.heap[b]? = some (.cells C t (0, 0)) := fun {b t C} hb ht ht2 =>
    hF.blk hb (fun hs => by
      rcases hs with rfl | hs
      · have := hN.blk
        rw [hb] at this
        injection this with this
        injection this with _ this _
        exact ht this
      · exact Kd.R_ne hN.row hb (fun e => ht2 e.symm) hs.symm)
  exact ⟨key h.b (by decide) (by decide), key h.p (by decide) (by decide), key h.q (by decide) (by decide), key h.a (by decide) (by decide), key h.r (by decide) (by decide)⟩
theorem Env.put {w W : World} {ga gr : Nat} {k wh n : Int} {A : Option Addr} {c : Nat} {L : List Int} {X Y : Value} {PA RA : Array Value} (h : Env w W ga gr k wh n A c L X Y PA RA) (i : Nat) (v : Value) : Env w (W.setCell ⟨gr, i, none⟩ v) ga gr k wh n A c L X Y PA (RA.setIfInBounds i v) := by
  have hF : Fr (fun k => k = gr) W (W.setCell ⟨gr, i, none⟩ v) := (Fr.refl (fun k => k = gr) W).set (g := gr) (o := i) v (fun _ => rfl)
  have key : ∀ {b t : Nat} {C : Array Value}, W.heap[b]? = some (.cells C t (0, 0)) → t ≠ 43 → b ≠ gr := fun {b t C} hb ht e => by
    have := h.r
    rw [← e, hb] at this
    injection this with this
    injection this with _ this _
    exact ht this
  exact ⟨hF.blk h.b (key h.b (by decide)), hF.blk h.p (key h.p (by decide)), hF.blk h.q (key h.q (by decide)), hF.blk h.a (key h.a (by decide)), blk_set h.r i v⟩
theorem Env.puta {w W : World} {ga gr : Nat} {k wh n : Int} {A : Option Addr} {c : Nat} {L : List Int} {X Y : Value} {PA RA : Array Value} (h : Env w W ga gr k wh n A c L X Y PA RA) (i : Nat) (v : Value) : Env w (W.setCell ⟨ga, i, none⟩ v) ga gr k wh n A c L X Y (PA.setIfInBounds i v) RA := by
  have hF : Fr (fun k => k = ga) W (W.setCell ⟨ga, i, none⟩ v) := (Fr.refl (fun k => k = ga) W).set (g := ga) (o := i) v (fun _ => rfl)
  have key : ∀ {b t : Nat} {C : Array Value}, W.heap[b]? = some (.cells C t (0, 0)) → t ≠ 38 → b ≠ ga := fun {b t C} hb ht e => by
    have := h.a
    rw [← e, hb] at this
    injection this with this
    injection this with _ this _
    exact ht this
  exact ⟨hF.blk h.b (key h.b (by decide)), hF.blk h.p (key h.p (by decide)), hF.blk h.q (key h.q (by decide)), blk_set h.a i v, hF.blk h.r (key h.r (by decide))⟩
theorem pairwise_rising {l : List Int} (h : l.Pairwise (· < ·)) : Rising l := rising_iff.2 h
theorem less_rising {us ys : List Int} (h : Rising us) : Rising (less us ys) := rising_iff.2 ((rising_iff.1 h).filter _)
theorem drop_less {l ys l2 : List Int} (hl : Rising l) (h : DropInv l ys l2 ys.length) : l2 = less l ys :=
  sorted_ext (rising_iff.1 h.rise) (rising_iff.1 (less_rising hl)) (fun x => by rw [h.mem, List.take_length]; simp [less])
theorem less_num {us ys : List Int} (h : ∀ x, x ∈ us → isNum x = true) : ∀ x, x ∈ less us ys → isNum x = true := fun x hx => h x (List.mem_filter.1 hx).1
theorem add_same {l ys l1 l2 : List Int} (h : AddInv l ys l1 ys.length) (h2 : AddInv l ys l2 ys.length) : l1 = l2 := sorted_ext (rising_iff.1 h.rise) (rising_iff.1 h2.rise) (fun x => by rw [h.mem, h2.mem])
theorem nodup_sub : ∀ (l m : List Int), l.Nodup → (∀ x, x ∈ l → x ∈ m) → l.length ≤ m.length
  | [], _, _, _ => Nat.zero_le _
  | x :: l, m, h, hs => by
    rw [List.nodup_cons] at h
    have hx := hs x (List.mem_cons_self ..)
    have := nodup_sub l (m.erase x) h.2 (fun y hy => (List.mem_erase_of_ne (fun e => h.1 (by rw [← e]; exact hy))).2 (hs y (List.mem_cons_of_mem _ hy)))
    rw [List.length_erase_of_mem hx] at this
    have := List.length_pos_of_mem hx
    simp only [List.length_cons]
    omega
theorem rising_nodup {l : List Int} (h : Rising l) : l.Nodup := (rising_iff.1 h).imp (fun hab e => by omega)
theorem same_dec {a b : List Int} (ha : Rising a) (hb : Rising b) : decide (a.length = b.length ∧ ∀ x, x ∈ a → x ∈ b) = decide (a = b) := by
  refine decide_eq_decide.2 ⟨?_, ?_⟩
  · rintro ⟨hl, hs⟩
    refine sorted_ext (rising_iff.1 ha) (rising_iff.1 hb) (fun x => ⟨hs x, fun hx => Classical.byContradiction fun hn => ?_⟩)
    have := nodup_sub (x :: a) b (List.nodup_cons.2 ⟨hn, rising_nodup ha⟩) (fun y hy => by
      rcases List.mem_cons.1 hy with rfl | hy
      · exact hx
      · exact hs y hy)
    simp only [List.length_cons] at this
    omega
  · rintro rfl
    exact ⟨rfl, fun _ h => h⟩
theorem key_ne {a b : List Int} (ha : ∀ x, x ∈ a → isNum x = true) (hb : ∀ x, x ∈ b → isNum x = true) (e : Keys.keyB a = Keys.keyB b) : a = b :=
  Keys.keyB_inj (fun x hx => by have := ha x hx; simp only [isNum, decide_eq_true_eq] at this; omega) (fun x hx => by have := hb x hx; simp only [isNum, decide_eq_true_eq] at this; omega) e
theorem key_dec {a b : List Int} (ha : ∀ x, x ∈ a → isNum x = true) (hb : ∀ x, x ∈ b → isNum x = true) : (Keys.keyB a == Keys.keyB b) = decide (a = b) := by
  by_cases h : a = b
  · subst h; simp
  · rw [decide_eq_false h]
    exact beq_eq_false_iff_ne.2 (fun e => h (key_ne ha hb e))
theorem R_C {W : World} {B : Nat} {ok : Nat → Prop} {A : Option Addr} {n c : Nat} {xs : List Int} (h : kI.R 3 W B ok (.slice A n c) xs) : kI.C W A xs.length xs := by
  obtain ⟨A', c', e, _, hC⟩ := Kd.R_reads h
  injection e with e1 _ _
  subst e1
  exact hC
theorem Duo.fr {W W1 : World} {top ga gr : Nat} {l m : List Int} (D : Duo W top ga gr l m) (hF : Fr (fun _ => False) W W1) : Duo W1 top ga gr l m := by
  obtain ⟨g, h, s, s', v, v', T, ha, hr⟩ := D.ex
  exact ⟨⟨g, h, s, s', v, v', T.fr hF, hF.blk ha id, hF.blk hr id⟩, D.rl, D.rm, D.nl, D.nm, D.ta, D.tr⟩
theorem Duo.done {w W1 : World} {top ga gr : Nat} {l m : List Int} (D : Duo w top ga gr l m) (hF : Fr (fun _ => False) w W1) {e : Ending} (he : e = .returned (.bool true)) : DoPost w top ga gr e W1 :=
  ⟨he, l, m, D.fr hF, hF.mono (fun _ hf => hf.elim)⟩
theorem Duo.put0 {W : World} {top ga gr g h : Nat} {s t v u x : Value} {l m : List Int} (T : Two W top g h s t v u l m l m) (ha : W.heap[ga]? = some (.cells #[.pointer (some ⟨g, 0, none⟩), .pointer (some ⟨h, 0, none⟩)] 38 (0, 0))) (hr : W.heap[gr]? = some (.cells #[x, u] 43 (0, 0)))
    (rl : Rising l) (rm : Rising m) (nl : ∀ x, x ∈ l → isNum x = true) (nm : ∀ x, x ∈ m → isNum x = true) (ta : top ≤ ga) (tr : top ≤ gr) : Duo (W.setCell ⟨gr, 0, none⟩ v) top ga gr l m :=
  have hF : Fr (fun k => k = gr) W (W.setCell ⟨gr, 0, none⟩ v) := (Fr.refl (fun k => k = gr) W).set (g := gr) (o := 0) v (fun _ => rfl)
  have hne : ga ≠ gr := fun e => by rw [e, hr] at ha; injection ha with ha; injection ha with _ ha _; exact absurd ha (by decide)
  ⟨⟨g, h, s, t, v, u, T.but hF hr (by decide) (by decide), hF.blk ha hne, by simpa using blk_set hr 0 v⟩, rl, rm, nl, nm, ta, tr⟩
theorem Duo.put1 {W : World} {top ga gr g h : Nat} {s t v u x : Value} {l m : List Int} (T : Two W top g h s t v u l m l m) (ha : W.heap[ga]? = some (.cells #[.pointer (some ⟨h, 0, none⟩), .pointer (some ⟨g, 0, none⟩)] 38 (0, 0))) (hr : W.heap[gr]? = some (.cells #[u, x] 43 (0, 0)))
    (rl : Rising l) (rm : Rising m) (nl : ∀ x, x ∈ l → isNum x = true) (nm : ∀ x, x ∈ m → isNum x = true) (ta : top ≤ ga) (tr : top ≤ gr) : Duo (W.setCell ⟨gr, 1, none⟩ v) top ga gr m l :=
  have hF : Fr (fun k => k = gr) W (W.setCell ⟨gr, 1, none⟩ v) := (Fr.refl (fun k => k = gr) W).set (g := gr) (o := 1) v (fun _ => rfl)
  have hne : ga ≠ gr := fun e => by rw [e, hr] at ha; injection ha with ha; injection ha with _ ha _; exact absurd ha (by decide)
  have T1 := (T.but hF hr (by decide) (by decide)).swap
  ⟨⟨h, g, t, s, u, v, T1, hF.blk ha hne, by simpa using blk_set hr 1 v⟩, rm, rl, nm, nl, ta, tr⟩
theorem Duo.mk0 {W : World} {top ga gr g h : Nat} {s t v u : Value} {l m : List Int} (T : Two W top g h s t v u l m l m) (ha : W.heap[ga]? = some (.cells #[.pointer (some ⟨g, 0, none⟩), .pointer (some ⟨h, 0, none⟩)] 38 (0, 0))) (hr : W.heap[gr]? = some (.cells #[v, u] 43 (0, 0)))
    (rl : Rising l) (rm : Rising m) (nl : ∀ x, x ∈ l → isNum x = true) (nm : ∀ x, x ∈ m → isNum x = true) (ta : top ≤ ga) (tr : top ≤ gr) : Duo W top ga gr l m := ⟨⟨g, h, s, t, v, u, T, ha, hr⟩, rl, rm, nl, nm, ta, tr⟩
theorem Duo.mk1 {W : World} {top ga gr g h : Nat} {s t v u : Value} {l m : List Int} (T : Two W top g h s t v u l m l m) (ha : W.heap[ga]? = some (.cells #[.pointer (some ⟨h, 0, none⟩), .pointer (some ⟨g, 0, none⟩)] 38 (0, 0))) (hr : W.heap[gr]? = some (.cells #[u, v] 43 (0, 0)))
    (rl : Rising l) (rm : Rising m) (nl : ∀ x, x ∈ l → isNum x = true) (nm : ∀ x, x ∈ m → isNum x = true) (ta : top ≤ ga) (tr : top ≤ gr) : Duo W top ga gr m l := ⟨⟨h, g, t, s, u, v, T.swap, ha, hr⟩, rm, rl, nm, nl, ta, tr⟩
theorem Two.put {W : World} {top gr g h i : Nat} {s t v u v' : Value} {l m p q : List Int} {C : Array Value} (T : Two W top g h s t v u l m p q) (hr : W.heap[gr]? = some (.cells C 43 (0, 0))) : Two (W.setCell ⟨gr, i, none⟩ v') top g h s t v u l m p q :=
  T.but ((Fr.refl (fun k => k = gr) W).set (g := gr) (o := i) v' (fun _ => rfl)) hr (by decide) (by decide)
theorem Two.puta {W : World} {top ga g h i : Nat} {s t v u v' : Value} {l m p q : List Int} {C : Array Value} (T : Two W top g h s t v u l m p q) (ha : W.heap[ga]? = some (.cells C 38 (0, 0))) : Two (W.setCell ⟨ga, i, none⟩ v') top g h s t v u l m p q :=
  T.but ((Fr.refl (fun k => k = ga) W).set (g := ga) (o := i) v' (fun _ => rfl)) ha (by decide) (by decide)
end Go.Proofs.YtpjhflimaiaokaaDoor.Does
