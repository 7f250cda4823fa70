/- Of the kit's printed walks (print.sh), turned to the types printed for GramFirsts. -/
import Derived.Test.YtdngobjcdajogaaMAF
set_option linter.unusedSimpArgs false
set_option linter.unusedVariables false
namespace Go.Proofs.Ytdngobjcdajogaa.PGramFirsts
open Go.RowKit Go.Proofs.YtdngobjcdajogaaW.PrintWords Go.Proofs.YtdngobjcdajogaaW.PrintLast Go.Proofs.YtdngobjcdajogaaW.PrintMore
attribute [local go_sem] max2_int min2_int max_two min_two max_three min_three max_four min_four
set_option linter.unusedVariables false
set_option linter.unusedSimpArgs false
def quoinref12_levels.l0 : Nat → List (S73) → Int → Option (Bool)
 | 0, _, _ => none
 | k + 1, x0, x3 => if x3 < (x0.length : Int) then (if 0 ≤ x3 then (if ((rd_T73 x0 x3).f0) = 0 then (if ((rd_T73 x0 x3).f0) ≥ 1 then (if ((rd_T73 x0 x3).f1) ≥ 1 then (if (((rd_T73 x0 x3).f1) = 0) then (quoinref12_levels.l0 k x0 (wrap64 (x3 + 1))) else (if (((rd_T73 x0 x3).f1) ≤ 3) then (if x3 < 2 then (some false) else (quoinref12_levels.l0 k x0 (wrap64 (x3 + 1)))) else (some false))) else (if (((rd_T73 x0 x3).f1) = 0) then (quoinref12_levels.l0 k x0 (wrap64 (x3 + 1))) else (some false))) else (if (((rd_T73 x0 x3).f1) = 0) then (quoinref12_levels.l0 k x0 (wrap64 (x3 + 1))) else (some false))) else (if ((rd_T73 x0 x3).f0) ≥ 1 then (if ((rd_T73 x0 x3).f1) ≥ 1 then (if (((rd_T73 x0 x3).f1) ≤ 3) then (if x3 < 2 then (some false) else (quoinref12_levels.l0 k x0 (wrap64 (x3 + 1)))) else (some false)) else (some false)) else (some false))) else (none)) else (some true)
def quoinref12_levels.f (k : Nat) (l0 : List (S73)) : Option (Bool) := quoinref12_levels.l0 k l0 0
set_option maxHeartbeats 8000000 in
set_option maxRecDepth 100000 in
theorem quoinref12_levels.calls (k : Nat) (A0 : Option Addr) (c0 : Nat) (l0 : List (S73)) (r : Bool) (w : World) (hr0 : Kd.C k73 w A0 l0.length l0) (hc0 : l0.length ≤ c0) (h : quoinref12_levels.f k l0 = some r) :
 Calls Try.prog 70 #[.slice A0 l0.length c0] w fun e w' => e = .returned (.bool r) ∧ Drawn0 w w' := by
 have HR0 := Aside0.mk hr0; have HC0 := Aside0.mk hc0; clear hr0 hc0; have H : (quoinref12_levels.l0 k l0 0) = some r := h; clear h; have H' := Aside0.mk H; clear H; go_enter Try.func70, Try.ntmps70
 go_wp2
 go_loopg [3] k (fun kq v3 w' => ∃ (x3_1 : Int), v3 = .int .i64 x3_1 ∧ Aside0 (quoinref12_levels.l0 kq l0 x3_1 = some r) ∧ Aside0 (kq ≤ k) ∧ Drawn0 w w')
 case atStart => exact ⟨(0), (by first | rfl | (simp; done) | (simp [*]; done)), H', ⟨Nat.le_refl _⟩, by repeat (first | exact Drawn0.refl _ | apply Drawn0.step)⟩
 case round =>
  clear H'; obtain ⟨x3_1, rfl, HA, HK1, ⟨m1, rfl⟩⟩ := hrel; cases gk with
  | zero => exact absurd HA.out (by simp [quoinref12_levels.l0])
  | succ k1 =>
   have H := HA.out; clear HA; simp only [quoinref12_levels.l0] at H; by_cases c2 : x3_1 < (l0.length : Int)
   · rw [if_pos c2] at H
     have c2b0 : decide (x3_1 < (l0.length : Int)) = true := decide_eq_true c2; clear c2; by_cases c3 : 0 ≤ x3_1
     · rw [if_pos c3] at H
       have c3b0 : decide (0 ≤ x3_1) = true := decide_eq_true c3; clear c3; by_cases c4 : ((rd_T73 l0 x3_1).f0) = 0
       · rw [if_pos c4] at H
         have c4b0 : (((rd_T73 l0 x3_1).f0) == 0) = true := beq_iff_eq.mpr c4; have c4b1 : (((rd_T73 l0 x3_1).f0) != 0) = false := bne_eq_false_iff_eq.mpr c4; clear c4; by_cases c5 : ((rd_T73 l0 x3_1).f0) ≥ 1
         · rw [if_pos c5] at H
           have c5b0 : decide (1 ≤ ((rd_T73 l0 x3_1).f0)) = true := decide_eq_true c5; clear c5; by_cases c6 : ((rd_T73 l0 x3_1).f1) ≥ 1
           · rw [if_pos c6] at H
             have c6b0 : decide (1 ≤ ((rd_T73 l0 x3_1).f1)) = true := decide_eq_true c6; clear c6; by_cases c7 : (((rd_T73 l0 x3_1).f1) = 0)
             · rw [if_pos c7] at H
               have c7b0 : (((rd_T73 l0 x3_1).f1) == 0) = true := beq_iff_eq.mpr c7; have c7b1 : (((rd_T73 l0 x3_1).f1) != 0) = false := bne_eq_false_iff_eq.mpr c7; clear c7; have H' := Aside0.mk H; clear H; have p246 : 0 ≤ (x3_1 : Int) := of_decide_eq_true (by first | (with_reducible assumption) | assumption); have q246 : x3_1 < (l0.length : Int) := of_decide_eq_true (by first | (with_reducible assumption) | assumption); obtain ⟨ad246, e246, hx246_0, hx246_1⟩ := at_T73 HR0.out x3_1 p246 q246; cases e246
               replace p246 := eq_true p246
               replace q246 := eq_true q246
               have p247 : 0 ≤ (x3_1 : Int) := of_decide_eq_true (by first | (with_reducible assumption) | assumption); have q247 : x3_1 < (l0.length : Int) := of_decide_eq_true (by first | (with_reducible assumption) | assumption); obtain ⟨ad247, e247, hx247_0, hx247_1⟩ := at_T73 HR0.out x3_1 p247 q247; obtain rfl : ad246 = ad247 := (by injection e247); replace p247 := eq_true p247
               replace q247 := eq_true q247
               have p248 : 0 ≤ (x3_1 : Int) := of_decide_eq_true (by first | (with_reducible assumption) | assumption); have q248 : x3_1 < (l0.length : Int) := of_decide_eq_true (by first | (with_reducible assumption) | assumption); obtain ⟨ad248, e248, hx248_0, hx248_1⟩ := at_T73 HR0.out x3_1 p248 q248; obtain rfl : ad246 = ad248 := (by injection e248); replace p248 := eq_true p248
               replace q248 := eq_true q248
               have p249 : 0 ≤ (x3_1 : Int) := of_decide_eq_true (by first | (with_reducible assumption) | assumption); have q249 : x3_1 < (l0.length : Int) := of_decide_eq_true (by first | (with_reducible assumption) | assumption); obtain ⟨ad249, e249, hx249_0, hx249_1⟩ := at_T73 HR0.out x3_1 p249 q249; obtain rfl : ad246 = ad249 := (by injection e249); replace p249 := eq_true p249
               replace q249 := eq_true q249
               have p250 : 0 ≤ (x3_1 : Int) := of_decide_eq_true (by first | (with_reducible assumption) | assumption); have q250 : x3_1 < (l0.length : Int) := of_decide_eq_true (by first | (with_reducible assumption) | assumption); obtain ⟨ad250, e250, hx250_0, hx250_1⟩ := at_T73 HR0.out x3_1 p250 q250; obtain rfl : ad246 = ad250 := (by injection e250); replace p250 := eq_true p250
               replace q250 := eq_true q250
               go_wp2
               go_roundg k1
               case measure => have := HK1.out; omega
               case rel => exact ⟨(wrap64 (x3_1 + 1)), (by first | rfl | (simp; done) | (simp [*]; done)), H', ⟨by have := HK1.out; omega⟩, by repeat (first | exact Drawn0.refl _ | apply Drawn0.step)⟩
             · rw [if_neg c7] at H
               have c7b0 : (((rd_T73 l0 x3_1).f1) == 0) = false := beq_eq_false_iff_ne.mpr c7; have c7b1 : (((rd_T73 l0 x3_1).f1) != 0) = true := bne_iff_ne.mpr c7; by_cases c8 : (((rd_T73 l0 x3_1).f1) ≤ 3)
               · rw [if_pos c8] at H
                 have c8b0 : decide (((rd_T73 l0 x3_1).f1) ≤ 3) = true := decide_eq_true c8; clear c8; by_cases c9 : x3_1 < 2
                 · rw [if_pos c9] at H
                   have c9b0 : decide (x3_1 < 2) = true := decide_eq_true c9; clear c9; obtain rfl := Option.some.inj H; have p246 : 0 ≤ (x3_1 : Int) := of_decide_eq_true (by first | (with_reducible assumption) | assumption); have q246 : x3_1 < (l0.length : Int) := of_decide_eq_true (by first | (with_reducible assumption) | assumption); obtain ⟨ad246, e246, hx246_0, hx246_1⟩ := at_T73 HR0.out x3_1 p246 q246; cases e246
                   replace p246 := eq_true p246
                   replace q246 := eq_true q246
                   have p247 : 0 ≤ (x3_1 : Int) := of_decide_eq_true (by first | (with_reducible assumption) | assumption); have q247 : x3_1 < (l0.length : Int) := of_decide_eq_true (by first | (with_reducible assumption) | assumption); obtain ⟨ad247, e247, hx247_0, hx247_1⟩ := at_T73 HR0.out x3_1 p247 q247; obtain rfl : ad246 = ad247 := (by injection e247); replace p247 := eq_true p247
                   replace q247 := eq_true q247
                   have p248 : 0 ≤ (x3_1 : Int) := of_decide_eq_true (by first | (with_reducible assumption) | assumption); have q248 : x3_1 < (l0.length : Int) := of_decide_eq_true (by first | (with_reducible assumption) | assumption); obtain ⟨ad248, e248, hx248_0, hx248_1⟩ := at_T73 HR0.out x3_1 p248 q248; obtain rfl : ad246 = ad248 := (by injection e248); replace p248 := eq_true p248
                   replace q248 := eq_true q248
                   have p249 : 0 ≤ (x3_1 : Int) := of_decide_eq_true (by first | (with_reducible assumption) | assumption); have q249 : x3_1 < (l0.length : Int) := of_decide_eq_true (by first | (with_reducible assumption) | assumption); obtain ⟨ad249, e249, hx249_0, hx249_1⟩ := at_T73 HR0.out x3_1 p249 q249; obtain rfl : ad246 = ad249 := (by injection e249); replace p249 := eq_true p249
                   replace q249 := eq_true q249
                   have p250 : 0 ≤ (x3_1 : Int) := of_decide_eq_true (by first | (with_reducible assumption) | assumption); have q250 : x3_1 < (l0.length : Int) := of_decide_eq_true (by first | (with_reducible assumption) | assumption); obtain ⟨ad250, e250, hx250_0, hx250_1⟩ := at_T73 HR0.out x3_1 p250 q250; obtain rfl : ad246 = ad250 := (by injection e250); replace p250 := eq_true p250
                   replace q250 := eq_true q250
                   go_wp2
                   go_ret
                   exact ⟨by first | rfl | (simp; done) | (simp [*]; done), by repeat (first | exact Drawn0.refl _ | apply Drawn0.step)⟩
                 · rw [if_neg c9] at H
                   have c9b0 : decide (x3_1 < 2) = false := decide_eq_false c9; clear c9; have H' := Aside0.mk H; clear H; have p246 : 0 ≤ (x3_1 : Int) := of_decide_eq_true (by first | (with_reducible assumption) | assumption); have q246 : x3_1 < (l0.length : Int) := of_decide_eq_true (by first | (with_reducible assumption) | assumption); obtain ⟨ad246, e246, hx246_0, hx246_1⟩ := at_T73 HR0.out x3_1 p246 q246; cases e246
                   replace p246 := eq_true p246
                   replace q246 := eq_true q246
                   have p247 : 0 ≤ (x3_1 : Int) := of_decide_eq_true (by first | (with_reducible assumption) | assumption); have q247 : x3_1 < (l0.length : Int) := of_decide_eq_true (by first | (with_reducible assumption) | assumption); obtain ⟨ad247, e247, hx247_0, hx247_1⟩ := at_T73 HR0.out x3_1 p247 q247; obtain rfl : ad246 = ad247 := (by injection e247); replace p247 := eq_true p247
                   replace q247 := eq_true q247
                   have p248 : 0 ≤ (x3_1 : Int) := of_decide_eq_true (by first | (with_reducible assumption) | assumption); have q248 : x3_1 < (l0.length : Int) := of_decide_eq_true (by first | (with_reducible assumption) | assumption); obtain ⟨ad248, e248, hx248_0, hx248_1⟩ := at_T73 HR0.out x3_1 p248 q248; obtain rfl : ad246 = ad248 := (by injection e248); replace p248 := eq_true p248
                   replace q248 := eq_true q248
                   have p249 : 0 ≤ (x3_1 : Int) := of_decide_eq_true (by first | (with_reducible assumption) | assumption); have q249 : x3_1 < (l0.length : Int) := of_decide_eq_true (by first | (with_reducible assumption) | assumption); obtain ⟨ad249, e249, hx249_0, hx249_1⟩ := at_T73 HR0.out x3_1 p249 q249; obtain rfl : ad246 = ad249 := (by injection e249); replace p249 := eq_true p249
                   replace q249 := eq_true q249
                   have p250 : 0 ≤ (x3_1 : Int) := of_decide_eq_true (by first | (with_reducible assumption) | assumption); have q250 : x3_1 < (l0.length : Int) := of_decide_eq_true (by first | (with_reducible assumption) | assumption); obtain ⟨ad250, e250, hx250_0, hx250_1⟩ := at_T73 HR0.out x3_1 p250 q250; obtain rfl : ad246 = ad250 := (by injection e250); replace p250 := eq_true p250
                   replace q250 := eq_true q250
                   go_wp2
                   go_roundg k1
                   case measure => have := HK1.out; omega
                   case rel => exact ⟨(wrap64 (x3_1 + 1)), (by first | rfl | (simp; done) | (simp [*]; done)), H', ⟨by have := HK1.out; omega⟩, by repeat (first | exact Drawn0.refl _ | apply Drawn0.step)⟩
               · rw [if_neg c8] at H
                 have c8b0 : decide (((rd_T73 l0 x3_1).f1) ≤ 3) = false := decide_eq_false c8; clear c8; obtain rfl := Option.some.inj H; have p246 : 0 ≤ (x3_1 : Int) := of_decide_eq_true (by first | (with_reducible assumption) | assumption); have q246 : x3_1 < (l0.length : Int) := of_decide_eq_true (by first | (with_reducible assumption) | assumption); obtain ⟨ad246, e246, hx246_0, hx246_1⟩ := at_T73 HR0.out x3_1 p246 q246; cases e246
                 replace p246 := eq_true p246
                 replace q246 := eq_true q246
                 have p247 : 0 ≤ (x3_1 : Int) := of_decide_eq_true (by first | (with_reducible assumption) | assumption); have q247 : x3_1 < (l0.length : Int) := of_decide_eq_true (by first | (with_reducible assumption) | assumption); obtain ⟨ad247, e247, hx247_0, hx247_1⟩ := at_T73 HR0.out x3_1 p247 q247; obtain rfl : ad246 = ad247 := (by injection e247); replace p247 := eq_true p247
                 replace q247 := eq_true q247
                 have p248 : 0 ≤ (x3_1 : Int) := of_decide_eq_true (by first | (with_reducible assumption) | assumption); have q248 : x3_1 < (l0.length : Int) := of_decide_eq_true (by first | (with_reducible assumption) | assumption); obtain ⟨ad248, e248, hx248_0, hx248_1⟩ := at_T73 HR0.out x3_1 p248 q248; obtain rfl : ad246 = ad248 := (by injection e248); replace p248 := eq_true p248
                 replace q248 := eq_true q248
                 have p249 : 0 ≤ (x3_1 : Int) := of_decide_eq_true (by first | (with_reducible assumption) | assumption); have q249 : x3_1 < (l0.length : Int) := of_decide_eq_true (by first | (with_reducible assumption) | assumption); obtain ⟨ad249, e249, hx249_0, hx249_1⟩ := at_T73 HR0.out x3_1 p249 q249; obtain rfl : ad246 = ad249 := (by injection e249); replace p249 := eq_true p249
                 replace q249 := eq_true q249
                 have p250 : 0 ≤ (x3_1 : Int) := of_decide_eq_true (by first | (with_reducible assumption) | assumption); have q250 : x3_1 < (l0.length : Int) := of_decide_eq_true (by first | (with_reducible assumption) | assumption); obtain ⟨ad250, e250, hx250_0, hx250_1⟩ := at_T73 HR0.out x3_1 p250 q250; obtain rfl : ad246 = ad250 := (by injection e250); replace p250 := eq_true p250
                 replace q250 := eq_true q250
                 go_wp2
                 go_ret
                 exact ⟨by first | rfl | (simp; done) | (simp [*]; done), by repeat (first | exact Drawn0.refl _ | apply Drawn0.step)⟩
           · rw [if_neg c6] at H
             have c6b0 : decide (1 ≤ ((rd_T73 l0 x3_1).f1)) = false := decide_eq_false c6; clear c6; by_cases c10 : (((rd_T73 l0 x3_1).f1) = 0)
             · rw [if_pos c10] at H
               have c10b0 : (((rd_T73 l0 x3_1).f1) == 0) = true := beq_iff_eq.mpr c10; have c10b1 : (((rd_T73 l0 x3_1).f1) != 0) = false := bne_eq_false_iff_eq.mpr c10; clear c10; have H' := Aside0.mk H; clear H; have p246 : 0 ≤ (x3_1 : Int) := of_decide_eq_true (by first | (with_reducible assumption) | assumption); have q246 : x3_1 < (l0.length : Int) := of_decide_eq_true (by first | (with_reducible assumption) | assumption); obtain ⟨ad246, e246, hx246_0, hx246_1⟩ := at_T73 HR0.out x3_1 p246 q246; cases e246
               replace p246 := eq_true p246
               replace q246 := eq_true q246
               have p247 : 0 ≤ (x3_1 : Int) := of_decide_eq_true (by first | (with_reducible assumption) | assumption); have q247 : x3_1 < (l0.length : Int) := of_decide_eq_true (by first | (with_reducible assumption) | assumption); obtain ⟨ad247, e247, hx247_0, hx247_1⟩ := at_T73 HR0.out x3_1 p247 q247; obtain rfl : ad246 = ad247 := (by injection e247); replace p247 := eq_true p247
               replace q247 := eq_true q247
               have p248 : 0 ≤ (x3_1 : Int) := of_decide_eq_true (by first | (with_reducible assumption) | assumption); have q248 : x3_1 < (l0.length : Int) := of_decide_eq_true (by first | (with_reducible assumption) | assumption); obtain ⟨ad248, e248, hx248_0, hx248_1⟩ := at_T73 HR0.out x3_1 p248 q248; obtain rfl : ad246 = ad248 := (by injection e248); replace p248 := eq_true p248
               replace q248 := eq_true q248
               have p249 : 0 ≤ (x3_1 : Int) := of_decide_eq_true (by first | (with_reducible assumption) | assumption); have q249 : x3_1 < (l0.length : Int) := of_decide_eq_true (by first | (with_reducible assumption) | assumption); obtain ⟨ad249, e249, hx249_0, hx249_1⟩ := at_T73 HR0.out x3_1 p249 q249; obtain rfl : ad246 = ad249 := (by injection e249); replace p249 := eq_true p249
               replace q249 := eq_true q249
               go_wp2
               go_roundg k1
               case measure => have := HK1.out; omega
               case rel => exact ⟨(wrap64 (x3_1 + 1)), (by first | rfl | (simp; done) | (simp [*]; done)), H', ⟨by have := HK1.out; omega⟩, by repeat (first | exact Drawn0.refl _ | apply Drawn0.step)⟩
             · rw [if_neg c10] at H
               have c10b0 : (((rd_T73 l0 x3_1).f1) == 0) = false := beq_eq_false_iff_ne.mpr c10; have c10b1 : (((rd_T73 l0 x3_1).f1) != 0) = true := bne_iff_ne.mpr c10; obtain rfl := Option.some.inj H; have p246 : 0 ≤ (x3_1 : Int) := of_decide_eq_true (by first | (with_reducible assumption) | assumption); have q246 : x3_1 < (l0.length : Int) := of_decide_eq_true (by first | (with_reducible assumption) | assumption); obtain ⟨ad246, e246, hx246_0, hx246_1⟩ := at_T73 HR0.out x3_1 p246 q246; cases e246
               replace p246 := eq_true p246
               replace q246 := eq_true q246
               have p247 : 0 ≤ (x3_1 : Int) := of_decide_eq_true (by first | (with_reducible assumption) | assumption); have q247 : x3_1 < (l0.length : Int) := of_decide_eq_true (by first | (with_reducible assumption) | assumption); obtain ⟨ad247, e247, hx247_0, hx247_1⟩ := at_T73 HR0.out x3_1 p247 q247; obtain rfl : ad246 = ad247 := (by injection e247); replace p247 := eq_true p247
               replace q247 := eq_true q247
               have p248 : 0 ≤ (x3_1 : Int) := of_decide_eq_true (by first | (with_reducible assumption) | assumption); have q248 : x3_1 < (l0.length : Int) := of_decide_eq_true (by first | (with_reducible assumption) | assumption); obtain ⟨ad248, e248, hx248_0, hx248_1⟩ := at_T73 HR0.out x3_1 p248 q248; obtain rfl : ad246 = ad248 := (by injection e248); replace p248 := eq_true p248
               replace q248 := eq_true q248
               have p249 : 0 ≤ (x3_1 : Int) := of_decide_eq_true (by first | (with_reducible assumption) | assumption); have q249 : x3_1 < (l0.length : Int) := of_decide_eq_true (by first | (with_reducible assumption) | assumption); obtain ⟨ad249, e249, hx249_0, hx249_1⟩ := at_T73 HR0.out x3_1 p249 q249; obtain rfl : ad246 = ad249 := (by injection e249); replace p249 := eq_true p249
               replace q249 := eq_true q249
               go_wp2
               go_ret
               exact ⟨by first | rfl | (simp; done) | (simp [*]; done), by repeat (first | exact Drawn0.refl _ | apply Drawn0.step)⟩
         · rw [if_neg c5] at H
           have c5b0 : decide (1 ≤ ((rd_T73 l0 x3_1).f0)) = false := decide_eq_false c5; clear c5; by_cases c11 : (((rd_T73 l0 x3_1).f1) = 0)
           · rw [if_pos c11] at H
             have c11b0 : (((rd_T73 l0 x3_1).f1) == 0) = true := beq_iff_eq.mpr c11; have c11b1 : (((rd_T73 l0 x3_1).f1) != 0) = false := bne_eq_false_iff_eq.mpr c11; clear c11; have H' := Aside0.mk H; clear H; have p246 : 0 ≤ (x3_1 : Int) := of_decide_eq_true (by first | (with_reducible assumption) | assumption); have q246 : x3_1 < (l0.length : Int) := of_decide_eq_true (by first | (with_reducible assumption) | assumption); obtain ⟨ad246, e246, hx246_0, hx246_1⟩ := at_T73 HR0.out x3_1 p246 q246; cases e246
             replace p246 := eq_true p246
             replace q246 := eq_true q246
             have p247 : 0 ≤ (x3_1 : Int) := of_decide_eq_true (by first | (with_reducible assumption) | assumption); have q247 : x3_1 < (l0.length : Int) := of_decide_eq_true (by first | (with_reducible assumption) | assumption); obtain ⟨ad247, e247, hx247_0, hx247_1⟩ := at_T73 HR0.out x3_1 p247 q247; obtain rfl : ad246 = ad247 := (by injection e247); replace p247 := eq_true p247
             replace q247 := eq_true q247
             have p248 : 0 ≤ (x3_1 : Int) := of_decide_eq_true (by first | (with_reducible assumption) | assumption); have q248 : x3_1 < (l0.length : Int) := of_decide_eq_true (by first | (with_reducible assumption) | assumption); obtain ⟨ad248, e248, hx248_0, hx248_1⟩ := at_T73 HR0.out x3_1 p248 q248; obtain rfl : ad246 = ad248 := (by injection e248); replace p248 := eq_true p248
             replace q248 := eq_true q248
             go_wp2
             go_roundg k1
             case measure => have := HK1.out; omega
             case rel => exact ⟨(wrap64 (x3_1 + 1)), (by first | rfl | (simp; done) | (simp [*]; done)), H', ⟨by have := HK1.out; omega⟩, by repeat (first | exact Drawn0.refl _ | apply Drawn0.step)⟩
           · rw [if_neg c11] at H
             have c11b0 : (((rd_T73 l0 x3_1).f1) == 0) = false := beq_eq_false_iff_ne.mpr c11; have c11b1 : (((rd_T73 l0 x3_1).f1) != 0) = true := bne_iff_ne.mpr c11; obtain rfl := Option.some.inj H; have p246 : 0 ≤ (x3_1 : Int) := of_decide_eq_true (by first | (with_reducible assumption) | assumption); have q246 : x3_1 < (l0.length : Int) := of_decide_eq_true (by first | (with_reducible assumption) | assumption); obtain ⟨ad246, e246, hx246_0, hx246_1⟩ := at_T73 HR0.out x3_1 p246 q246; cases e246
             replace p246 := eq_true p246
             replace q246 := eq_true q246
             have p247 : 0 ≤ (x3_1 : Int) := of_decide_eq_true (by first | (with_reducible assumption) | assumption); have q247 : x3_1 < (l0.length : Int) := of_decide_eq_true (by first | (with_reducible assumption) | assumption); obtain ⟨ad247, e247, hx247_0, hx247_1⟩ := at_T73 HR0.out x3_1 p247 q247; obtain rfl : ad246 = ad247 := (by injection e247); replace p247 := eq_true p247
             replace q247 := eq_true q247
             have p248 : 0 ≤ (x3_1 : Int) := of_decide_eq_true (by first | (with_reducible assumption) | assumption); have q248 : x3_1 < (l0.length : Int) := of_decide_eq_true (by first | (with_reducible assumption) | assumption); obtain ⟨ad248, e248, hx248_0, hx248_1⟩ := at_T73 HR0.out x3_1 p248 q248; obtain rfl : ad246 = ad248 := (by injection e248); replace p248 := eq_true p248
             replace q248 := eq_true q248
             go_wp2
             go_ret
             exact ⟨by first | rfl | (simp; done) | (simp [*]; done), by repeat (first | exact Drawn0.refl _ | apply Drawn0.step)⟩
       · rw [if_neg c4] at H
         have c4b0 : (((rd_T73 l0 x3_1).f0) == 0) = false := beq_eq_false_iff_ne.mpr c4; have c4b1 : (((rd_T73 l0 x3_1).f0) != 0) = true := bne_iff_ne.mpr c4; by_cases c12 : ((rd_T73 l0 x3_1).f0) ≥ 1
         · rw [if_pos c12] at H
           have c12b0 : decide (1 ≤ ((rd_T73 l0 x3_1).f0)) = true := decide_eq_true c12; clear c12; by_cases c13 : ((rd_T73 l0 x3_1).f1) ≥ 1
           · rw [if_pos c13] at H
             have c13b0 : decide (1 ≤ ((rd_T73 l0 x3_1).f1)) = true := decide_eq_true c13; clear c13; by_cases c14 : (((rd_T73 l0 x3_1).f1) ≤ 3)
             · rw [if_pos c14] at H
               have c14b0 : decide (((rd_T73 l0 x3_1).f1) ≤ 3) = true := decide_eq_true c14; clear c14; by_cases c15 : x3_1 < 2
               · rw [if_pos c15] at H
                 have c15b0 : decide (x3_1 < 2) = true := decide_eq_true c15; clear c15; obtain rfl := Option.some.inj H; have p246 : 0 ≤ (x3_1 : Int) := of_decide_eq_true (by first | (with_reducible assumption) | assumption); have q246 : x3_1 < (l0.length : Int) := of_decide_eq_true (by first | (with_reducible assumption) | assumption); obtain ⟨ad246, e246, hx246_0, hx246_1⟩ := at_T73 HR0.out x3_1 p246 q246; cases e246
                 replace p246 := eq_true p246
                 replace q246 := eq_true q246
                 have p251 : 0 ≤ (x3_1 : Int) := of_decide_eq_true (by first | (with_reducible assumption) | assumption); have q251 : x3_1 < (l0.length : Int) := of_decide_eq_true (by first | (with_reducible assumption) | assumption); obtain ⟨ad251, e251, hx251_0, hx251_1⟩ := at_T73 HR0.out x3_1 p251 q251; obtain rfl : ad246 = ad251 := (by injection e251); replace p251 := eq_true p251
                 replace q251 := eq_true q251
                 have p252 : 0 ≤ (x3_1 : Int) := of_decide_eq_true (by first | (with_reducible assumption) | assumption); have q252 : x3_1 < (l0.length : Int) := of_decide_eq_true (by first | (with_reducible assumption) | assumption); obtain ⟨ad252, e252, hx252_0, hx252_1⟩ := at_T73 HR0.out x3_1 p252 q252; obtain rfl : ad246 = ad252 := (by injection e252); replace p252 := eq_true p252
                 replace q252 := eq_true q252
                 have p253 : 0 ≤ (x3_1 : Int) := of_decide_eq_true (by first | (with_reducible assumption) | assumption); have q253 : x3_1 < (l0.length : Int) := of_decide_eq_true (by first | (with_reducible assumption) | assumption); obtain ⟨ad253, e253, hx253_0, hx253_1⟩ := at_T73 HR0.out x3_1 p253 q253; obtain rfl : ad246 = ad253 := (by injection e253); replace p253 := eq_true p253
                 replace q253 := eq_true q253
                 go_wp2
                 go_ret
                 exact ⟨by first | rfl | (simp; done) | (simp [*]; done), by repeat (first | exact Drawn0.refl _ | apply Drawn0.step)⟩
               · rw [if_neg c15] at H
                 have c15b0 : decide (x3_1 < 2) = false := decide_eq_false c15; clear c15; have H' := Aside0.mk H; clear H; have p246 : 0 ≤ (x3_1 : Int) := of_decide_eq_true (by first | (with_reducible assumption) | assumption); have q246 : x3_1 < (l0.length : Int) := of_decide_eq_true (by first | (with_reducible assumption) | assumption); obtain ⟨ad246, e246, hx246_0, hx246_1⟩ := at_T73 HR0.out x3_1 p246 q246; cases e246
                 replace p246 := eq_true p246
                 replace q246 := eq_true q246
                 have p251 : 0 ≤ (x3_1 : Int) := of_decide_eq_true (by first | (with_reducible assumption) | assumption); have q251 : x3_1 < (l0.length : Int) := of_decide_eq_true (by first | (with_reducible assumption) | assumption); obtain ⟨ad251, e251, hx251_0, hx251_1⟩ := at_T73 HR0.out x3_1 p251 q251; obtain rfl : ad246 = ad251 := (by injection e251); replace p251 := eq_true p251
                 replace q251 := eq_true q251
                 have p252 : 0 ≤ (x3_1 : Int) := of_decide_eq_true (by first | (with_reducible assumption) | assumption); have q252 : x3_1 < (l0.length : Int) := of_decide_eq_true (by first | (with_reducible assumption) | assumption); obtain ⟨ad252, e252, hx252_0, hx252_1⟩ := at_T73 HR0.out x3_1 p252 q252; obtain rfl : ad246 = ad252 := (by injection e252); replace p252 := eq_true p252
                 replace q252 := eq_true q252
                 have p253 : 0 ≤ (x3_1 : Int) := of_decide_eq_true (by first | (with_reducible assumption) | assumption); have q253 : x3_1 < (l0.length : Int) := of_decide_eq_true (by first | (with_reducible assumption) | assumption); obtain ⟨ad253, e253, hx253_0, hx253_1⟩ := at_T73 HR0.out x3_1 p253 q253; obtain rfl : ad246 = ad253 := (by injection e253); replace p253 := eq_true p253
                 replace q253 := eq_true q253
                 go_wp2
                 go_roundg k1
                 case measure => have := HK1.out; omega
                 case rel => exact ⟨(wrap64 (x3_1 + 1)), (by first | rfl | (simp; done) | (simp [*]; done)), H', ⟨by have := HK1.out; omega⟩, by repeat (first | exact Drawn0.refl _ | apply Drawn0.step)⟩
             · rw [if_neg c14] at H
               have c14b0 : decide (((rd_T73 l0 x3_1).f1) ≤ 3) = false := decide_eq_false c14; clear c14; obtain rfl := Option.some.inj H; have p246 : 0 ≤ (x3_1 : Int) := of_decide_eq_true (by first | (with_reducible assumption) | assumption); have q246 : x3_1 < (l0.length : Int) := of_decide_eq_true (by first | (with_reducible assumption) | assumption); obtain ⟨ad246, e246, hx246_0, hx246_1⟩ := at_T73 HR0.out x3_1 p246 q246; cases e246
               replace p246 := eq_true p246
               replace q246 := eq_true q246
               have p251 : 0 ≤ (x3_1 : Int) := of_decide_eq_true (by first | (with_reducible assumption) | assumption); have q251 : x3_1 < (l0.length : Int) := of_decide_eq_true (by first | (with_reducible assumption) | assumption); obtain ⟨ad251, e251, hx251_0, hx251_1⟩ := at_T73 HR0.out x3_1 p251 q251; obtain rfl : ad246 = ad251 := (by injection e251); replace p251 := eq_true p251
               replace q251 := eq_true q251
               have p252 : 0 ≤ (x3_1 : Int) := of_decide_eq_true (by first | (with_reducible assumption) | assumption); have q252 : x3_1 < (l0.length : Int) := of_decide_eq_true (by first | (with_reducible assumption) | assumption); obtain ⟨ad252, e252, hx252_0, hx252_1⟩ := at_T73 HR0.out x3_1 p252 q252; obtain rfl : ad246 = ad252 := (by injection e252); replace p252 := eq_true p252
               replace q252 := eq_true q252
               have p253 : 0 ≤ (x3_1 : Int) := of_decide_eq_true (by first | (with_reducible assumption) | assumption); have q253 : x3_1 < (l0.length : Int) := of_decide_eq_true (by first | (with_reducible assumption) | assumption); obtain ⟨ad253, e253, hx253_0, hx253_1⟩ := at_T73 HR0.out x3_1 p253 q253; obtain rfl : ad246 = ad253 := (by injection e253); replace p253 := eq_true p253
               replace q253 := eq_true q253
               go_wp2
               go_ret
               exact ⟨by first | rfl | (simp; done) | (simp [*]; done), by repeat (first | exact Drawn0.refl _ | apply Drawn0.step)⟩
           · rw [if_neg c13] at H
             have c13b0 : decide (1 ≤ ((rd_T73 l0 x3_1).f1)) = false := decide_eq_false c13; clear c13; obtain rfl := Option.some.inj H; have p246 : 0 ≤ (x3_1 : Int) := of_decide_eq_true (by first | (with_reducible assumption) | assumption); have q246 : x3_1 < (l0.length : Int) := of_decide_eq_true (by first | (with_reducible assumption) | assumption); obtain ⟨ad246, e246, hx246_0, hx246_1⟩ := at_T73 HR0.out x3_1 p246 q246; cases e246
             replace p246 := eq_true p246
             replace q246 := eq_true q246
             have p251 : 0 ≤ (x3_1 : Int) := of_decide_eq_true (by first | (with_reducible assumption) | assumption); have q251 : x3_1 < (l0.length : Int) := of_decide_eq_true (by first | (with_reducible assumption) | assumption); obtain ⟨ad251, e251, hx251_0, hx251_1⟩ := at_T73 HR0.out x3_1 p251 q251; obtain rfl : ad246 = ad251 := (by injection e251); replace p251 := eq_true p251
             replace q251 := eq_true q251
             have p252 : 0 ≤ (x3_1 : Int) := of_decide_eq_true (by first | (with_reducible assumption) | assumption); have q252 : x3_1 < (l0.length : Int) := of_decide_eq_true (by first | (with_reducible assumption) | assumption); obtain ⟨ad252, e252, hx252_0, hx252_1⟩ := at_T73 HR0.out x3_1 p252 q252; obtain rfl : ad246 = ad252 := (by injection e252); replace p252 := eq_true p252
             replace q252 := eq_true q252
             go_wp2
             go_ret
             exact ⟨by first | rfl | (simp; done) | (simp [*]; done), by repeat (first | exact Drawn0.refl _ | apply Drawn0.step)⟩
         · rw [if_neg c12] at H
           have c12b0 : decide (1 ≤ ((rd_T73 l0 x3_1).f0)) = false := decide_eq_false c12; clear c12; obtain rfl := Option.some.inj H; have p246 : 0 ≤ (x3_1 : Int) := of_decide_eq_true (by first | (with_reducible assumption) | assumption); have q246 : x3_1 < (l0.length : Int) := of_decide_eq_true (by first | (with_reducible assumption) | assumption); obtain ⟨ad246, e246, hx246_0, hx246_1⟩ := at_T73 HR0.out x3_1 p246 q246; cases e246
           replace p246 := eq_true p246
           replace q246 := eq_true q246
           have p251 : 0 ≤ (x3_1 : Int) := of_decide_eq_true (by first | (with_reducible assumption) | assumption); have q251 : x3_1 < (l0.length : Int) := of_decide_eq_true (by first | (with_reducible assumption) | assumption); obtain ⟨ad251, e251, hx251_0, hx251_1⟩ := at_T73 HR0.out x3_1 p251 q251; obtain rfl : ad246 = ad251 := (by injection e251); replace p251 := eq_true p251
           replace q251 := eq_true q251
           go_wp2
           go_ret
           exact ⟨by first | rfl | (simp; done) | (simp [*]; done), by repeat (first | exact Drawn0.refl _ | apply Drawn0.step)⟩
     · rw [if_neg c3] at H
       exact absurd H (by simp)
   · rw [if_neg c2] at H
     have c2b0 : decide (x3_1 < (l0.length : Int)) = false := decide_eq_false c2; clear c2; obtain rfl := Option.some.inj H; go_wp2
     go_ret
     exact ⟨by first | rfl | (simp; done) | (simp [*]; done), by repeat (first | exact Drawn0.refl _ | apply Drawn0.step)⟩
mutual
def quoinref12_names.j0 : Nat → List ByteArray → Bool → Option (Bool)
 | 0, _, _ => none
 | k + 1, x0, x12 => if x12 = true then (some false) else (quoinref12_names.l0 k x0 0)
def quoinref12_names.l0 : Nat → List ByteArray → Int → Option (Bool)
 | 0, _, _ => none
 | k + 1, x0, x3 => if x3 < (x0.length : Int) then (if 0 ≤ x3 then (if ((rdOf ByteArray.empty x0 x3).size : Int) < 1 then (quoinref12_names.j2 k x0 x3 true) else (quoinref12_names.j2 k x0 x3 (decide (((rdOf ByteArray.empty x0 x3).size : Int) > 4096)))) else (none)) else (some true)
def quoinref12_names.j2 : Nat → List ByteArray → Int → Bool → Option (Bool)
 | 0, _, _, _ => none
 | k + 1, x0, x3, x32 => if x32 = true then (some false) else (quoinref12_names.l1 k x0 x3 0)
def quoinref12_names.l1 : Nat → List ByteArray → Int → Int → Option (Bool)
 | 0, _, _, _ => none
 | k + 1, x0, x3, x4 => if x4 < x3 then (if 0 ≤ x4 then (if x4 < (x0.length : Int) then (if 0 ≤ x3 then (if x3 < (x0.length : Int) then (if (rdOf ByteArray.empty x0 x4).toList = (rdOf ByteArray.empty x0 x3).toList then (some false) else (quoinref12_names.l1 k x0 x3 (wrap64 (x4 + 1)))) else (none)) else (none)) else (none)) else (none)) else (quoinref12_names.l0 k x0 (wrap64 (x3 + 1)))
end
def quoinref12_names.f (k : Nat) (l0 : List ByteArray) : Option (Bool) := if (l0.length : Int) < 1 then (quoinref12_names.j0 k l0 true) else (quoinref12_names.j0 k l0 (decide ((l0.length : Int) > 2048)))
set_option maxHeartbeats 8000000 in
set_option maxRecDepth 100000 in
theorem quoinref12_names.calls (k : Nat) (A0 : Option Addr) (c0 : Nat) (l0 : List ByteArray) (r : Bool) (w : World) (hr0 : Kd.C Kd.string w A0 l0.length l0) (hc0 : l0.length ≤ c0) (h : quoinref12_names.f k l0 = some r) :
 Calls Try.prog 71 #[.slice A0 l0.length c0] w fun e w' => e = .returned (.bool r) ∧ Drawn0 w w' := by
 have HR0 := Aside0.mk hr0; have HC0 := Aside0.mk hc0; clear hr0 hc0; have H : (if (l0.length : Int) < 1 then (quoinref12_names.j0 k l0 true) else (quoinref12_names.j0 k l0 (decide ((l0.length : Int) > 2048)))) = some r := h; clear h; have HC2 := Aside0.mk H; clear H; go_enter Try.func71, Try.ntmps71
 go_upto_region 1 with (fail)
 repeat (go_quiet (fail); go_upto_region 1 with (fail))
 go_cut [12] (fun v12 wc => ∃ (kq : Nat) (x12_1 : Bool), v12 = .bool x12_1 ∧ Aside0 (quoinref12_names.j0 kq l0 x12_1 = some r) ∧ Aside0 (kq ≤ k) ∧ Drawn0 w wc)
 case first =>
  have H := HC2.out; clear HC2; by_cases c3 : (l0.length : Int) < 1
  · rw [if_pos c3] at H
    have c3b0 : decide ((l0.length : Int) < 1) = true := decide_eq_true c3; have c3b1 : decide (l0.length < 1) = true := decide_eq_true (by omega); clear c3
    (first | rw [c3b0] | (simp only [i64_w, i32_w]; rw [c3b0]) | skip)
    have H' := Aside0.mk H; clear H; go_wp2
    repeat (go_quiet (fail); try go_wp2)
    go_meet
    case rel => exact ⟨_, (true), (by first | rfl | (simp; done) | (simp [*]; done)), H', ⟨by first | omega | exact Nat.le_refl _⟩, by repeat (first | exact Drawn0.refl _ | apply Drawn0.step)⟩
  · rw [if_neg c3] at H
    have c3b0 : decide ((l0.length : Int) < 1) = false := decide_eq_false c3; have c3b1 : decide (l0.length < 1) = false := decide_eq_false (by omega); clear c3
    (first | rw [c3b0] | (simp only [i64_w, i32_w]; rw [c3b0]) | skip)
    have H' := Aside0.mk H; clear H; go_wp2
    repeat (go_quiet (fail); try go_wp2)
    go_meet
    case rel => exact ⟨_, (decide ((l0.length : Int) > 2048)), (by first | rfl | (simp; done) | (simp [*]; done)), H', ⟨by first | omega | exact Nat.le_refl _⟩, by repeat (first | exact Drawn0.refl _ | apply Drawn0.step)⟩
 case rest =>
  clear HC2; try clear p2
  try clear c3
  try clear c3b0
  try clear c3b1
  obtain ⟨kq, x12_1, rfl, HA, HJ1, ⟨mc1, rfl⟩⟩ := hcut; cases kq with
  | zero => exact absurd HA.out (by simp [quoinref12_names.j0])
  | succ kj1 =>
   have H := HA.out; clear HA; simp only [quoinref12_names.j0] at H; by_cases c4 : x12_1 = true
   · subst c4
     have H1 : (some false) = some r := by rw [if_pos rfl] at H; exact H
     clear H; have H := H1; clear H1; obtain rfl := Option.some.inj H; go_wp2
     repeat (go_quiet (fail); try go_wp2)
     go_ret
     exact ⟨by first | rfl | (simp; done) | (simp [*]; done), by repeat (first | exact Drawn0.refl _ | apply Drawn0.step)⟩
   · replace c4 := Bool.eq_false_iff.mpr c4
     subst c4; have H1 : (quoinref12_names.l0 kj1 l0 0) = some r := by rw [if_neg (show ¬ (false = true) by decide)] at H; exact H
     clear H; have H := H1; clear H1; have H' := Aside0.mk H; clear H; go_wp2
     repeat (go_quiet (fail); try go_wp2)
     go_loopg [3] kj1 (fun kq v3 w' => ∃ (x3_2 : Int), v3 = .int .i64 x3_2 ∧ Aside0 (quoinref12_names.l0 kq l0 x3_2 = some r) ∧ Aside0 (kq ≤ kj1) ∧ Drawn0 w w')
     case atStart => exact ⟨(0), (by first | rfl | (simp; done) | (simp [*]; done)), H', ⟨Nat.le_refl _⟩, by repeat (first | exact Drawn0.refl _ | apply Drawn0.step)⟩
     case round =>
      clear H'; try clear c1
      try clear p2
      try clear c3
      try clear c3b0
      try clear c3b1
      try clear c4
      try clear p2
      obtain ⟨x3_2, rfl, HA, HK2, ⟨m2, rfl⟩⟩ := hrel; cases gk with
      | zero => exact absurd HA.out (by simp [quoinref12_names.l0])
      | succ k2 =>
       have H := HA.out; clear HA; simp only [quoinref12_names.l0] at H; by_cases c5 : x3_2 < (l0.length : Int)
       · rw [if_pos c5] at H
         have c5b0 : decide (x3_2 < (l0.length : Int)) = true := decide_eq_true c5; clear c5; have HC6 := Aside0.mk H; clear H; go_upto_region 6 with (fail)
         repeat (go_quiet (fail); go_upto_region 6 with (fail))
         go_cut [32] (fun v32 wc => ∃ (kq : Nat) (x32_5 : Bool), v32 = .bool x32_5 ∧ Aside0 (quoinref12_names.j2 kq l0 x3_2 x32_5 = some r) ∧ Aside0 (kq ≤ k2) ∧ Drawn0 w wc)
         case first =>
          have H := HC6.out; clear HC6; by_cases c7 : 0 ≤ x3_2
          · rw [if_pos c7] at H
            have c7b0 : decide (0 ≤ x3_2) = true := decide_eq_true c7; clear c7
            (first | rw [c7b0] | (simp only [i64_w, i32_w]; rw [c7b0]) | skip)
            by_cases c8 : ((rdOf ByteArray.empty l0 x3_2).size : Int) < 1
            · rw [if_pos c8] at H
              have c8b0 : decide (((rdOf ByteArray.empty l0 x3_2).size : Int) < 1) = true := decide_eq_true c8; have c8b1 : decide ((rdOf ByteArray.empty l0 x3_2).size < 1) = true := decide_eq_true (by omega); clear c8; have H' := Aside0.mk H; clear H; have p254 : 0 ≤ (x3_2 : Int) := of_decide_eq_true (by first | (with_reducible assumption) | assumption); have q254 : x3_2 < (l0.length : Int) := of_decide_eq_true (by first | (with_reducible assumption) | assumption); obtain ⟨ad254, e254, hx254_0⟩ := Kd.at_string HR0.out x3_2 p254 q254; cases e254
              replace p254 := eq_true p254
              replace q254 := eq_true q254
              go_wp2
              repeat (go_quiet (fail); try go_wp2)
              go_meet
              case rel => exact ⟨_, (true), (by first | rfl | (simp; done) | (simp [*]; done)), H', ⟨by have := HJ1.out; have := HK2.out; first | omega | exact Nat.le_refl _⟩, by repeat (first | exact Drawn0.refl _ | apply Drawn0.step)⟩
            · rw [if_neg c8] at H
              have c8b0 : decide (((rdOf ByteArray.empty l0 x3_2).size : Int) < 1) = false := decide_eq_false c8; have c8b1 : decide ((rdOf ByteArray.empty l0 x3_2).size < 1) = false := decide_eq_false (by omega); clear c8; have H' := Aside0.mk H; clear H; have p254 : 0 ≤ (x3_2 : Int) := of_decide_eq_true (by first | (with_reducible assumption) | assumption); have q254 : x3_2 < (l0.length : Int) := of_decide_eq_true (by first | (with_reducible assumption) | assumption); obtain ⟨ad254, e254, hx254_0⟩ := Kd.at_string HR0.out x3_2 p254 q254; cases e254
              replace p254 := eq_true p254
              replace q254 := eq_true q254
              have p255 : 0 ≤ (x3_2 : Int) := of_decide_eq_true (by first | (with_reducible assumption) | assumption); have q255 : x3_2 < (l0.length : Int) := of_decide_eq_true (by first | (with_reducible assumption) | assumption); obtain ⟨ad255, e255, hx255_0⟩ := Kd.at_string HR0.out x3_2 p255 q255; obtain rfl : ad254 = ad255 := (by injection e255); replace p255 := eq_true p255
              replace q255 := eq_true q255
              go_wp2
              repeat (go_quiet (fail); try go_wp2)
              go_meet
              case rel => exact ⟨_, (decide (((rdOf ByteArray.empty l0 x3_2).size : Int) > 4096)), (by first | rfl | (simp; done) | (simp [*]; done)), H', ⟨by have := HJ1.out; have := HK2.out; first | omega | exact Nat.le_refl _⟩, by repeat (first | exact Drawn0.refl _ | apply Drawn0.step)⟩
          · rw [if_neg c7] at H
            exact absurd H (by simp)
         case rest =>
          clear HC6; try clear c1
          try clear p2
          try clear q2
          try clear hx2
          try clear c3
          try clear c3b0
          try clear c3b1
          try clear c4
          try clear c5
          try clear c5b0
          try clear c7
          try clear c7b0
          try clear c8
          try clear c8b0
          try clear c8b1
          try clear hx254_0
          try clear hx255_0
          try clear p2
          try clear p254
          try clear p255
          try clear q254
          try clear q255
          obtain ⟨kq, x32_5, rfl, HA, HJ5, ⟨mc5, rfl⟩⟩ := hcut; cases kq with
          | zero => exact absurd HA.out (by simp [quoinref12_names.j2])
          | succ kj5 =>
           have H := HA.out; clear HA; simp only [quoinref12_names.j2] at H; by_cases c9 : x32_5 = true
           · subst c9
             have H1 : (some false) = some r := by rw [if_pos rfl] at H; exact H
             clear H; have H := H1; clear H1; obtain rfl := Option.some.inj H; go_wp2
             repeat (go_quiet (fail); try go_wp2)
             go_ret
             exact ⟨by first | rfl | (simp; done) | (simp [*]; done), by repeat (first | exact Drawn0.refl _ | apply Drawn0.step)⟩
           · replace c9 := Bool.eq_false_iff.mpr c9
             subst c9; have H1 : (quoinref12_names.l1 kj5 l0 x3_2 0) = some r := by rw [if_neg (show ¬ (false = true) by decide)] at H; exact H
             clear H; have H := H1; clear H1; have H' := Aside0.mk H; clear H; go_wp2
             repeat (go_quiet (fail); try go_wp2)
             go_loopg [4] kj5 (fun kq v4 w' => ∃ (x4_4 : Int), v4 = .int .i64 x4_4 ∧ Aside0 (quoinref12_names.l1 kq l0 x3_2 x4_4 = some r) ∧ Aside0 (kq ≤ kj5) ∧ Drawn0 w w')
             case atStart => exact ⟨(0), (by first | rfl | (simp; done) | (simp [*]; done)), H', ⟨Nat.le_refl _⟩, by repeat (first | exact Drawn0.refl _ | apply Drawn0.step)⟩
             case round =>
              clear H'; try clear c1
              try clear p2
              try clear q2
              try clear hx2
              try clear c3
              try clear c3b0
              try clear c3b1
              try clear c4
              try clear c5
              try clear c5b0
              try clear c7
              try clear c7b0
              try clear c8
              try clear c8b0
              try clear c8b1
              try clear c9
              try clear hx254_0
              try clear hx255_0
              try clear p2
              try clear p254
              try clear p255
              try clear q2
              try clear q254
              try clear q255
              obtain ⟨x4_4, rfl, HA, HK4, ⟨m4, rfl⟩⟩ := hrel; cases gk with
              | zero => exact absurd HA.out (by simp [quoinref12_names.l1])
              | succ k4 =>
               have H := HA.out; clear HA; simp only [quoinref12_names.l1] at H; by_cases c10 : x4_4 < x3_2
               · rw [if_pos c10] at H
                 have c10b0 : decide (x4_4 < x3_2) = true := decide_eq_true c10; clear c10; by_cases c11 : 0 ≤ x4_4
                 · rw [if_pos c11] at H
                   have c11b0 : decide (0 ≤ x4_4) = true := decide_eq_true c11; clear c11; by_cases c12 : x4_4 < (l0.length : Int)
                   · rw [if_pos c12] at H
                     have c12b0 : decide (x4_4 < (l0.length : Int)) = true := decide_eq_true c12; clear c12; by_cases c13 : 0 ≤ x3_2
                     · rw [if_pos c13] at H
                       have c13b0 : decide (0 ≤ x3_2) = true := decide_eq_true c13; clear c13; by_cases c14 : x3_2 < (l0.length : Int)
                       · rw [if_pos c14] at H
                         have c14b0 : decide (x3_2 < (l0.length : Int)) = true := decide_eq_true c14; clear c14; by_cases c15 : (rdOf ByteArray.empty l0 x4_4).toList = (rdOf ByteArray.empty l0 x3_2).toList
                         · rw [if_pos c15] at H
                           have c15b0 : ((rdOf ByteArray.empty l0 x4_4).toList == (rdOf ByteArray.empty l0 x3_2).toList) = true := beq_iff_eq.mpr c15; have c15b1 : ((rdOf ByteArray.empty l0 x4_4).toList != (rdOf ByteArray.empty l0 x3_2).toList) = false := bne_eq_false_iff_eq.mpr c15; clear c15; obtain rfl := Option.some.inj H; have p256 : 0 ≤ (x4_4 : Int) := of_decide_eq_true (by first | (with_reducible assumption) | assumption); have q256 : x4_4 < (l0.length : Int) := of_decide_eq_true (by first | (with_reducible assumption) | assumption); obtain ⟨ad256, e256, hx256_0⟩ := Kd.at_string HR0.out x4_4 p256 q256; cases e256
                           replace p256 := eq_true p256
                           replace q256 := eq_true q256
                           have p257 : 0 ≤ (x3_2 : Int) := of_decide_eq_true (by first | (with_reducible assumption) | assumption); have q257 : x3_2 < (l0.length : Int) := of_decide_eq_true (by first | (with_reducible assumption) | assumption); obtain ⟨ad257, e257, hx257_0⟩ := Kd.at_string HR0.out x3_2 p257 q257; obtain rfl : ad256 = ad257 := (by injection e257); replace p257 := eq_true p257
                           replace q257 := eq_true q257
                           go_wp2
                           repeat (go_quiet (fail); try go_wp2)
                           go_ret
                           exact ⟨by first | rfl | (simp; done) | (simp [*]; done), by repeat (first | exact Drawn0.refl _ | apply Drawn0.step)⟩
                         · rw [if_neg c15] at H
                           have c15b0 : ((rdOf ByteArray.empty l0 x4_4).toList == (rdOf ByteArray.empty l0 x3_2).toList) = false := beq_eq_false_iff_ne.mpr c15; have c15b1 : ((rdOf ByteArray.empty l0 x4_4).toList != (rdOf ByteArray.empty l0 x3_2).toList) = true := bne_iff_ne.mpr c15; have H' := Aside0.mk H; clear H; have p256 : 0 ≤ (x4_4 : Int) := of_decide_eq_true (by first | (with_reducible assumption) | assumption); have q256 : x4_4 < (l0.length : Int) := of_decide_eq_true (by first | (with_reducible assumption) | assumption); obtain ⟨ad256, e256, hx256_0⟩ := Kd.at_string HR0.out x4_4 p256 q256; cases e256
                           replace p256 := eq_true p256
                           replace q256 := eq_true q256
                           have p257 : 0 ≤ (x3_2 : Int) := of_decide_eq_true (by first | (with_reducible assumption) | assumption); have q257 : x3_2 < (l0.length : Int) := of_decide_eq_true (by first | (with_reducible assumption) | assumption); obtain ⟨ad257, e257, hx257_0⟩ := Kd.at_string HR0.out x3_2 p257 q257; obtain rfl : ad256 = ad257 := (by injection e257); replace p257 := eq_true p257
                           replace q257 := eq_true q257
                           go_wp2
                           repeat (go_quiet (fail); try go_wp2)
                           go_roundg k4
                           case measure => have := HJ1.out; have := HK2.out; have := HJ5.out; have := HK4.out; omega
                           case rel => exact ⟨(wrap64 (x4_4 + 1)), (by first | rfl | (simp; done) | (simp [*]; done)), H', ⟨by have := HJ1.out; have := HK2.out; have := HJ5.out; have := HK4.out; omega⟩, by repeat (first | exact Drawn0.refl _ | apply Drawn0.step)⟩
                       · rw [if_neg c14] at H
                         exact absurd H (by simp)
                     · rw [if_neg c13] at H
                       exact absurd H (by simp)
                   · rw [if_neg c12] at H
                     exact absurd H (by simp)
                 · rw [if_neg c11] at H
                   exact absurd H (by simp)
               · rw [if_neg c10] at H
                 have c10b0 : decide (x4_4 < x3_2) = false := decide_eq_false c10; clear c10; have H' := Aside0.mk H; clear H; go_wp2
                 repeat (go_quiet (fail); try go_wp2)
                 go_roundg k4
                 case measure => have := HJ1.out; have := HK2.out; have := HJ5.out; have := HK4.out; omega
                 case rel => exact ⟨(wrap64 (x3_2 + 1)), (by first | rfl | (simp; done) | (simp [*]; done)), H', ⟨by have := HJ1.out; have := HK2.out; have := HJ5.out; have := HK4.out; omega⟩, by repeat (first | exact Drawn0.refl _ | apply Drawn0.step)⟩
       · rw [if_neg c5] at H
         have c5b0 : decide (x3_2 < (l0.length : Int)) = false := decide_eq_false c5; clear c5; obtain rfl := Option.some.inj H; go_wp2
         repeat (go_quiet (fail); try go_wp2)
         go_ret
         exact ⟨by first | rfl | (simp; done) | (simp [*]; done), by repeat (first | exact Drawn0.refl _ | apply Drawn0.step)⟩
end Go.Proofs.Ytdngobjcdajogaa.PGramFirsts
