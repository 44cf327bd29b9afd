/- What functions of the program come to (f), that their calls come to just this (calls), and the plain laws over lists and numbers, and the law FnActTexts: for every argument it answers true. No condition but those of the given row. -/
import Derived.Test.YtojiighpkppckaaGreatDoorRows
import Derived.Test.YtojiighpkppckaaGreatDoorC4
import Derived.Deep.Slices
import Derived.ChangeArms
import Derived.ChangeSame
import Derived.KernelRfl
import Derived.Stop.LaidErr
import Derived.WalkKit
import Derived.ProofKit
import Derived.OpenShut
import Derived.ShutString
import Derived.ChangeOld
import Derived.Below
import Derived.SizedLaws
import Derived.Test.YtojiighpkppckaaGreatDoorTie
import Derived.Test.YtojiighpkppckaaGreatDoorCards
import GoSem.PinnedTables
import Derived.SevenTiedAt
import Derived.Stop.Joined
import Derived.LaidLaws
import Derived.LaidMore
import Derived.LaidHandle
import Derived.MakeChecks
namespace Go.Proofs.YtojiighpkppckaaGreatDoor.Q
set_option linter.unusedVariables false
set_option linter.unusedSimpArgs false
open Go.RowKit Go.Proofs.YtojiighpkppckaaGreatDoor.P Go.Proofs.YtojiighpkppckaaGreatDoorW.PrintWords Go.Proofs.YtojiighpkppckaaGreatDoorW.PrintMore
theorem plan_ev (b : List Int) (hb : b.length ≤ 1048576) (i h : Int) (hi : 0 ≤ i) : ∃ p i' h', Ev (fun k => spec_l19Plan.f k b i h) (p, i', h') ∧ gPlan p ∧ 0 ≤ i' := by
  have key : ∀ j : Nat, j ≤ 11 → ∀ L : List S95, L.length = 11 → gPlan L → ∀ i h : Int, 0 ≤ i → ∃ p i' h', Ev (fun k => spec_l19Plan.l0 k L (j : Int) b i h) (p, i', h') ∧ gPlan p ∧ 0 ≤ i' := by
    refine down (P := fun j => ∀ L : List S95, L.length = 11 → gPlan L → ∀ i h : Int, 0 ≤ i → ∃ p i' h', Ev (fun k => spec_l19Plan.l0 k L (j : Int) b i h) (p, i', h') ∧ gPlan p ∧ 0 ≤ i') (n := 11) ?_ ?_
    · intro L hL g i h hi
      obtain ⟨v, i1, h1, e1, v0, v1, _, j1⟩ := below_ev b hb i h 12 hi
      obtain ⟨u, i2, h2, e2, hu, j2⟩ := pick_ev b hb i1 h1 [11, 11, 11, v] j1 (by simp)
      have hu2 : 0 ≤ u ∧ u ≤ 11 := by simp at hu; have := v1 (by omega); omega
      refine ⟨L.take u.toNat, i2, h2, ?_, gPlan_take g _, j2⟩
      refine Ev.step (fun k => by rw [spec_l19Plan.l0]) ?_
      refine evn (by omega) (evb e1 ?_)
      dsimp only
      refine evb e2 ?_
      dsimp only
      refine evp hu2.1 ?_
      refine evp (by omega) ?_
      exact Ev.now _
    · intro j hj ih L hL g i h hi
      obtain ⟨v, i1, h1, e1, v0, v1, _, j1⟩ := below_ev b hb i h 1500 hi
      obtain ⟨o, i2, h2, e2, j2⟩ := once_ev b hb i1 h1 5 j1
      have hr : ∀ M : List S95, M.length = 11 → rd_T95 M (j : Int) = M.getD j z95 := fun M hM => by rw [rdS M j (by omega)]; simp [List.getD_eq_getElem?_getD, show j < M.length by omega]
      have gs : ∀ M : List S95, M.length = 11 → gPlan M → ∀ x, gStep j x → gPlan (M.set j x) := fun M hM gM x gx => by
        refine ⟨by simp; omega, fun i hi => ?_⟩
        rw [List.getElem_set]
        split
        · rename_i e; subst e; exact gx
        · exact gM.2 i _
      have gd : ∀ M : List S95, M.length = 11 → gPlan M → gStep j (M.getD j z95) := fun M hM gM => by
        have hj2 : j < M.length := by omega
        have := gM.2 j hj2
        simpa [List.getD_eq_getElem?_getD, hj2] using this
      have g1 := gd L hL g
      have gy := gs L hL g (⟨(L.getD j z95).f0, (L.getD j z95).f1, (L.getD j z95).f2, v⟩ : S95) ⟨g1.1, g1.2.1, g1.2.2.1, v0, v1 (by omega)⟩
      obtain ⟨Y, hY⟩ : ∃ Y, L.set j (⟨(L.getD j z95).f0, (L.getD j z95).f1, (L.getD j z95).f2, v⟩ : S95) = Y := ⟨_, rfl⟩
      rw [hY] at gy
      have hYl : Y.length = 11 := by rw [← hY]; simpa using hL
      have g2 := gd Y hYl gy
      have gz := gs Y hYl gy (⟨(Y.getD j z95).f0, (Y.getD j z95).f1, 2, (Y.getD j z95).f3⟩ : S95) ⟨g2.1, g2.2.1, .inl rfl, g2.2.2.2.1, g2.2.2.2.2⟩
      have w1 : wrap64 ((j : Int) + 1) = ((j + 1 : Nat) : Int) := w64 (by omega) (by omega)
      have e3 : (some (L.set (j : Int).toNat (⟨(rd_T95 L (j : Int)).f0, (rd_T95 L (j : Int)).f1, (rd_T95 L (j : Int)).f2, v⟩ : S95) : List S95)) = some Y := by rw [hr L hL, Int.toNat_natCast, hY]
      cases ho : o with
      | true =>
        obtain ⟨p, i', h', ep, gp, jp⟩ := ih _ (by simpa using hYl) gz i2 h2 j2
        refine ⟨p, i', h', ?_, gp, jp⟩
        refine Ev.step (fun k => by rw [spec_l19Plan.l0]) ?_
        refine evp (by omega) (evb e1 ?_)
        refine evp (by omega) (evb e3 ?_)
        refine evb e2 ?_
        refine evp ho ?_
        rw [hr Y hYl, Int.toNat_natCast, w1]
        exact ep
      | false =>
        obtain ⟨p, i', h', ep, gp, jp⟩ := ih Y hYl gy i2 h2 j2
        refine ⟨p, i', h', ?_, gp, jp⟩
        refine Ev.step (fun k => by rw [spec_l19Plan.l0]) ?_
        refine evp (by omega) (evb e1 ?_)
        refine evp (by omega) (evb e3 ?_)
        refine evb e2 ?_
        refine evn (by rw [ho]; simp) ?_
        rw [w1]
        exact ep
  unfold spec_l19Plan.f
  obtain ⟨g, hg⟩ := gPlan_usual 0 (by omega)
  obtain ⟨p, i', h', e, g', j⟩ := key 0 (Nat.zero_le _) (usualPlan 0) hg g i h hi
  exact ⟨p, i', h', Ev.bind (usual_spec 0) e, g', j⟩
end Go.Proofs.YtojiighpkppckaaGreatDoor.Q


namespace Go.Proofs.YtojiighpkppckaaGreatDoor.Q
set_option linter.unusedVariables false
set_option linter.unusedSimpArgs false
open Go.RowKit Go.Proofs.YtojiighpkppckaaGreatDoor.P Go.Proofs.YtojiighpkppckaaGreatDoorW.PrintWords Go.Proofs.YtojiighpkppckaaGreatDoorW.PrintMore
structure GShop (p : List S95) (d : Int) (q : List Int) (a m : Int) (l : List S101) (c : Nat) : Prop where
  plan : gPlan p
  work : ∃ n : Nat, d = (n : Int) ∧ n ≤ p.length ∧ workOk p (n : Int) q = true
  lo : 200000 - 1000 * (c : Int) ≤ q.getD 0 0
  hi : q.getD 0 0 ≤ 299999 + 1000 * (c : Int)
  log : logOk l = true
  last : lastOk l m
  warm : -10 ≤ a ∧ a ≤ 40
  mom : 0 ≤ m ∧ m ≤ (c : Int)
  few : l.length ≤ c
section
variable {p : List S95} {d : Int} {q : List Int} {a m : Int} {l : List S101} {c : Nat}
theorem GShop.ok (h : GShop p d q a m l c) (hc : c ≤ 45) : shopOk p d q a m l = true := by
  obtain ⟨n, rfl, hn, hw⟩ := h.work
  have := h.mom
  exact shopOk_iff.2 ⟨hw, h.log, h.warm, by omega, h.last⟩
theorem GShop.len (h : GShop p d q a m l c) : q.length = 12 := by
  obtain ⟨n, rfl, hn, hw⟩ := h.work
  exact ((workOk_good h.plan n hn q).1 hw).1
theorem logOk_len {l : List S101} (h : logOk l = true) : l.length ≤ 30 := by
  unfold logOk at h
  simp only [Bool.and_eq_true, decide_eq_true_eq] at h
  exact h.2
theorem GShop.step (h : GShop p d q a m l c) : GShop p d q a m l (c + 1) :=
  ⟨h.plan, h.work, by have := h.lo; omega, by have := h.hi; omega, h.log, h.last, h.warm, by have := h.mom; omega, by have := h.few; omega⟩
theorem GShop.warmed (h : GShop p d q a m l c) (x : Int) :
    GShop (shopWarm p d q a m l x).1 (shopWarm p d q a m l x).2.1 (shopWarm p d q a m l x).2.2.1 (shopWarm p d q a m l x).2.2.2.1 (shopWarm p d q a m l x).2.2.2.2.1 (shopWarm p d q a m l x).2.2.2.2.2.1 (c + 1) := by
  unfold shopWarm
  split
  · rename_i hc
    have := h.mom
    exact ⟨h.plan, h.work, by have := h.lo; dsimp only; omega, by have := h.hi; dsimp only; omega, h.log, lastOk_mono h.last (by dsimp only; omega), hc.2.2, by dsimp only; omega, by have := h.few; dsimp only; omega⟩
  · exact h.step
theorem GShop.faulted (h : GShop p d q a m l c) (r n f : Int) :
    GShop (shopFault p d q a m l r n f).1 (shopFault p d q a m l r n f).2.1 (shopFault p d q a m l r n f).2.2.1 (shopFault p d q a m l r n f).2.2.2.1 (shopFault p d q a m l r n f).2.2.2.2.1 (shopFault p d q a m l r n f).2.2.2.2.2.1 (c + 1) := by
  unfold shopFault
  split
  · rename_i hc
    refine ⟨h.plan, h.work, by have := h.lo; dsimp only; omega, by have := h.hi; dsimp only; omega, ?_, ?_, h.warm, by have := h.mom; dsimp only; omega, by have := h.few; dsimp only; unfold addEntry; split <;> simp <;> omega⟩
    · have h2 := hc.2
      unfold addEntry at h2 ⊢
      split
      · rename_i h3; exact h3.2
      · rename_i h3; rw [if_neg h3] at h2; cases h2
    · have h2 := hc.2
      unfold addEntry at h2 ⊢
      split
      · exact .inr (by simp [List.getD_eq_getElem?_getD, ent])
      · rename_i h3; rw [if_neg h3] at h2; cases h2
  · exact h.step
theorem GShop.knocked (h : GShop p d q a m l c) (k x : Int) (hx : -1000 ≤ x ∧ x ≤ 1000) :
    GShop (shopKnock p d q a m l k x).1 (shopKnock p d q a m l k x).2.1 (shopKnock p d q a m l k x).2.2.1 (shopKnock p d q a m l k x).2.2.2.1 (shopKnock p d q a m l k x).2.2.2.2.1 (shopKnock p d q a m l k x).2.2.2.2.2.1 (c + 1) := by
  obtain ⟨n, rfl, hn, hw⟩ := h.work
  obtain ⟨k1, k2, k3, k4, k5⟩ := knock_good h.plan hn hw k x hx
  unfold shopKnock
  split
  · refine ⟨by rw [k1]; exact h.plan, ⟨n, k2, by rw [k1]; exact hn, by rw [k1]; exact k3⟩, by have := h.lo; dsimp only; omega, by have := h.hi; dsimp only; omega, h.log, h.last, h.warm, by have := h.mom; dsimp only; omega, by have := h.few; dsimp only; omega⟩
  · exact h.step
theorem bad_or (g : gPlan p) (q : List Int) : ∀ i : Nat, i ≤ p.length → (∃ j, j < i ∧ rightTo p q j ∧ isBad p q j = true) ∨ rightTo p q i := by
  intro i
  induction i with
  | zero => exact fun _ => .inr (rightTo_zero p q)
  | succ i ih =>
    intro hi
    rcases ih (by omega) with ⟨j, h1, h2, h3⟩ | h
    · exact .inl ⟨j, by omega, h2, h3⟩
    · by_cases hb : isBad p q i = true
      · exact .inl ⟨i, by omega, h, hb⟩
      · exact .inr (rightTo_succ g (by omega) h hb)
theorem tune_good (g : gPlan p) {n : Nat} (hn : n ≤ p.length) (hw : workOk p (n : Int) q = true) (hs : 155000 ≤ q.getD 0 0 ∧ q.getD 0 0 ≤ 345000) :
    (tuneStep p (n : Int) q).1 = p ∧ (∃ n' : Nat, (tuneStep p (n : Int) q).2.1 = (n' : Int) ∧ n' ≤ p.length ∧ workOk p (n' : Int) (tuneStep p (n : Int) q).2.2.1 = true) ∧ (tuneStep p (n : Int) q).2.2.1.getD 0 0 = q.getD 0 0 := by
  unfold tuneStep
  rcases bad_or g q n hn with ⟨j, h1, h2, h3⟩ | h
  · obtain ⟨e, he⟩ : ∃ e, n = j + (e + 1) := ⟨n - j - 1, by omega⟩
    obtain ⟨r, hr⟩ := wrongs_first g (by omega : j + (e + 1) ≤ p.length) h2 h3
    have hm := mendStep_good g hn he hw hs h2 h3
    obtain ⟨m1, m2, m3⟩ := mended g hn h1 hw hs h2
    rw [wrongSteps_good hw, if_pos (by rw [he, hr]; simp only [List.length_cons]; omega), hm]
    exact ⟨rfl, ⟨n, rfl, hn, m1⟩, m2⟩
  · rw [wrongSteps_good hw, wrongs_none g hn h, if_neg (by simp)]
    have hq := right_pits g hn hw h
    have e0 : ∀ k, (pits p (q.getD 0 0) k).getD 0 0 = q.getD 0 0 := fun k => by rw [pits_get _ _ _ _ (by omega), if_pos (Nat.zero_le _)]; rfl
    by_cases hlt : n < p.length
    · have := workStep_good g hs hlt
      rw [← hq] at this
      rw [this]
      exact ⟨rfl, ⟨n + 1, rfl, hlt, workOk_pits g hs (n + 1) hlt⟩, e0 _⟩
    · obtain rfl : n = p.length := by omega
      have := workStep_end g hs
      rw [← hq] at this
      rw [this]
      exact ⟨rfl, ⟨p.length, rfl, Nat.le_refl _, hw⟩, rfl⟩
theorem GShop.tuned (h : GShop p d q a m l c) (hc : c ≤ 45) :
    GShop (shopTune p d q a m l).1 (shopTune p d q a m l).2.1 (shopTune p d q a m l).2.2.1 (shopTune p d q a m l).2.2.2.1 (shopTune p d q a m l).2.2.2.2.1 (shopTune p d q a m l).2.2.2.2.2.1 (c + 1) := by
  obtain ⟨n, rfl, hn, hw⟩ := h.work
  have h1 := h.lo
  have h2 := h.hi
  obtain ⟨t1, ⟨n', t2, t3, t4⟩, t5⟩ := tune_good h.plan hn hw ⟨by omega, by omega⟩
  unfold shopTune
  split
  · exact ⟨by rw [t1]; exact h.plan, ⟨n', t2, by rw [t1]; exact t3, by rw [t1]; exact t4⟩, by dsimp only; omega, by dsimp only; omega, h.log, h.last, h.warm, by have := h.mom; dsimp only; omega, by have := h.few; dsimp only; omega⟩
  · exact h.step
end
theorem made_good (p : List S95) (g : gPlan p) (s : Int) (hs : 200000 ≤ s ∧ s ≤ 299999) :
    GShop (newShop s p).1 (newShop s p).2.1 (newShop s p).2.2.1 (newShop s p).2.2.2.1 (newShop s p).2.2.2.2.1 (newShop s p).2.2.2.2.2.1 0 := by
  have hn := newWork_good g (s := s) ⟨by omega, by omega⟩
  unfold newShop
  rw [if_pos (by rw [hn]), hn]
  have e0 : (pits p s 0).getD 0 0 = s := by rw [pits_get _ _ _ _ (by omega), if_pos (Nat.zero_le _)]; rfl
  refine ⟨g, ⟨0, rfl, Nat.zero_le _, workOk_pits g ⟨by omega, by omega⟩ 0 (Nat.zero_le _)⟩, ?_, ?_, (show logOk ([] : List S101) = true from by decide), .inl rfl, (by dsimp only; omega), (by dsimp only; omega), Nat.le_refl _⟩
  · show _ ≤ (pits p s 0).getD 0 0; rw [e0]; omega
  · show (pits p s 0).getD 0 0 ≤ _; rw [e0]; omega
def Drawn (s : List S95 × Int × List Int × Int × Int × List S101) : Prop := GShop s.1 s.2.1 s.2.2.1 s.2.2.2.1 s.2.2.2.2.1 s.2.2.2.2.2 20
theorem GShop.more {p : List S95} {d : Int} {q : List Int} {a m : Int} {l : List S101} {c c' : Nat} (h : GShop p d q a m l c) (hc : c ≤ c') : GShop p d q a m l c' :=
  ⟨h.plan, h.work, by have := h.lo; omega, by have := h.hi; omega, h.log, h.last, h.warm, by have := h.mom; omega, by have := h.few; omega⟩
section
variable (b : List Int) (hb : b.length ≤ 1048576)
include hb
theorem shop_l0 (N : Nat) (hN : N ≤ 19) : ∀ e : Nat, e ≤ N → ∀ (i h : Int) (p : List S95) (d : Int) (q : List Int) (a m : Int) (l : List S101), 0 ≤ i → GShop p d q a m l (N - e) →
    ∃ s i' h', Ev (fun k => spec_l38Shop.l0 k (N : Int) ((N - e : Nat) : Int) b i h p d q a m l) (s.1, s.2.1, s.2.2.1, s.2.2.2.1, s.2.2.2.2.1, s.2.2.2.2.2, i', h') ∧ Drawn s ∧ 0 ≤ i' := by
  intro e
  induction e with
  | zero =>
    intro _ i h p d q a m l hi g
    exact ⟨(p, d, q, a, m, l), i, h, Ev.step (fun k => by rw [spec_l38Shop.l0]) (evn (by omega) (Ev.now _)), g.more (by omega), hi⟩
  | succ e ih =>
    intro he i h p d q a m l hi g
    have lq := g.len
    have lp := g.plan.1
    have ll := logOk_len g.log
    obtain ⟨x, i1, h1, e1, x0, x1, _, j1⟩ := below_ev b hb i h 8 hi
    have hs : N - e = N - (e + 1) + 1 := by omega
    by_cases y0 : x = 0
    · obtain ⟨y, i2, h2, e2, _, _, _, j2⟩ := below_ev b hb i1 h1 30 j1
      obtain ⟨s, i', h', ev, gs, hi'⟩ := ih (by omega) i2 h2 _ _ _ _ _ _ j2 (hs ▸ g.warmed y)
      refine ⟨s, i', h', Ev.step (fun k => by rw [spec_l38Shop.l0]) (evp (by omega) (evb e1 (evp y0 (evb e2 (Ev.bind (swarm_spec p d q a m l y (by omega) (by omega) (by omega)) ?_))))), gs, hi'⟩
      rw [show wrap64 (((N - (e + 1) : Nat) : Int) + 1) = ((N - e : Nat) : Int) from by rw [w64 (by omega) (by omega)]; omega]; exact ev
    by_cases y1 : x = 1
    · obtain ⟨r, n, i2, h2, e2, gp, j2⟩ := pipe_ev b hb i1 h1 j1
      obtain ⟨f, i3, h3, e3, _, _, _, j3⟩ := below_ev b hb i2 h2 3 j2
      obtain ⟨s, i', h', ev, gs, hi'⟩ := ih (by omega) i3 h3 _ _ _ _ _ _ j3 (hs ▸ g.faulted r n f)
      refine ⟨s, i', h', Ev.step (fun k => by rw [spec_l38Shop.l0]) (evp (by omega) (evb e1 (evn y0 (evp y1 (evb e2 (evb e3 (Ev.bind (sfault_spec p d q a m l r n f (by omega) (by omega) (by omega)) ?_))))))), gs, hi'⟩
      rw [show wrap64 (((N - (e + 1) : Nat) : Int) + 1) = ((N - e : Nat) : Int) from by rw [w64 (by omega) (by omega)]; omega]; exact ev
    by_cases y2 : x = 2
    · obtain ⟨k0, i2, h2, e2, _, _, _, j2⟩ := below_ev b hb i1 h1 12 j1
      obtain ⟨z, i3, h3, e3, z0, z1, _, j3⟩ := below_ev b hb i2 h2 2001 j2
      have z2 := z1 (by omega)
      obtain ⟨s, i', h', ev, gs, hi'⟩ := ih (by omega) i3 h3 _ _ _ _ _ _ j3 (hs ▸ g.knocked k0 (z - 1000) (by omega))
      refine ⟨s, i', h', Ev.step (fun k => by rw [spec_l38Shop.l0]) (evp (by omega) (evb e1 (evn y0 (evn y1 (evp y2 (evb e2 (evb e3 ?_))))))), gs, hi'⟩
      dsimp only
      rw [show wrap64 (z - 1000) = z - 1000 from w64 (by omega) (by omega)]
      refine Ev.bind (sknock_spec p d q a m l k0 (z - 1000) (by omega) (by omega) (by omega)) ?_
      rw [show wrap64 (((N - (e + 1) : Nat) : Int) + 1) = ((N - e : Nat) : Int) from by rw [w64 (by omega) (by omega)]; omega]; exact ev
    · obtain ⟨s, i', h', ev, gs, hi'⟩ := ih (by omega) i1 h1 _ _ _ _ _ _ j1 (hs ▸ g.tuned (by omega))
      refine ⟨s, i', h', Ev.step (fun k => by rw [spec_l38Shop.l0]) (evp (by omega) (evb e1 (evn y0 (evn y1 (evn y2 (Ev.bind (stune_spec p d q a m l (by omega) (by omega) (by omega)) ?_)))))), gs, hi'⟩
      rw [show wrap64 (((N - (e + 1) : Nat) : Int) + 1) = ((N - e : Nat) : Int) from by rw [w64 (by omega) (by omega)]; omega]; exact ev
theorem shop_ev (i h : Int) (hi : 0 ≤ i) : ∃ s i' h', Ev (fun k => spec_l38Shop.f k b i h) (s.1, s.2.1, s.2.2.1, s.2.2.2.1, s.2.2.2.2.1, s.2.2.2.2.2, i', h') ∧ Drawn s ∧ 0 ≤ i' := by
  obtain ⟨x, i1, h1, e1, x0, x1, _, j1⟩ := below_ev b hb i h 100000 hi
  have x2 := x1 (by omega)
  obtain ⟨p, i2, h2, e2, g, j2⟩ := plan_ev b hb i1 h1 j1
  obtain ⟨y, i3, h3, e3, y0, y1, _, j3⟩ := below_ev b hb i2 h2 20 j2
  have y2 := y1 (by omega)
  obtain ⟨N, rfl⟩ := Int.eq_ofNat_of_zero_le y0
  obtain ⟨s, i', h', ev, gs, hi'⟩ := shop_l0 b hb N (by omega) N (Nat.le_refl _) i3 h3 _ _ _ _ _ _ j3 ((made_good p g (200000 + x) (by omega)).more (Nat.zero_le _))
  refine ⟨s, i', h', ?_, gs, hi'⟩
  unfold spec_l38Shop.f
  refine evb e1 (Ev.bind e2 ?_)
  dsimp only
  rw [show wrap64 (200000 + x) = 200000 + x from w64 (by omega) (by omega)]
  refine Ev.bind (newShop_spec (200000 + x) p) (evb e3 ?_)
  rw [show N - N = 0 by omega] at ev
  exact ev
theorem anyShop_ev (i h : Int) (hi : 0 ≤ i) : ∃ s i' h', Ev (fun k => spec_l39Shop.f k b i h) (s.1, s.2.1, s.2.2.1, s.2.2.2.1, s.2.2.2.2.1, s.2.2.2.2.2, i', h') ∧ Drawn s ∧ 0 ≤ i' := by
  obtain ⟨v, i1, h1, e1, j1⟩ := once_ev b hb i h 2 hi
  unfold spec_l39Shop.f
  by_cases hv : v = true
  · refine ⟨sampleShop, i1, h1, evb e1 (evp hv (Ev.bind sample_spec (Ev.now _))), ?_, j1⟩
    have := (made_good (usualPlan 700) (gPlan_usual 700 (by omega)).1 264000 (by omega)).more (Nat.zero_le 20)
    exact this
  · obtain ⟨s, i', h', ev, gs, hi'⟩ := shop_ev b hb i1 h1 j1
    exact ⟨s, i', h', evb e1 (evn hv (Ev.bind ev (Ev.now _))), gs, hi'⟩
end
end Go.Proofs.YtojiighpkppckaaGreatDoor.Q


namespace Go.Proofs.YtojiighpkppckaaGreatDoor.Q
set_option linter.unusedVariables false
set_option linter.unusedSimpArgs false
open Go.RowKit Go.Proofs.YtojiighpkppckaaGreatDoor.P Go.Proofs.YtojiighpkppckaaGreatDoorW.PrintWords Go.Proofs.YtojiighpkppckaaGreatDoorW.PrintMore
structure GAct (x : S37) : Prop where
  ok : actOk x.f0 x.f1 x.f2 x.f3 = true
  small : (-1000 ≤ x.f1 ∧ x.f1 ≤ 1000) ∧ (-1000 ≤ x.f2 ∧ x.f2 ≤ 1000) ∧ (-1000 ≤ x.f3 ∧ x.f3 ≤ 1000)
section
variable (b : List Int) (hb : b.length ≤ 1048576)
include hb
theorem act_ev (i h : Int) (hi : 0 ≤ i) : ∃ n x y z i' h', spec_l39Act.f b i h = some (n, x, y, z, i', h') ∧ GAct ⟨n, x, y, z⟩ ∧ 0 ≤ i' := by
  obtain ⟨v, i1, h1, e1, v0, v1, _, j1⟩ := below_ev b hb i h 12 hi
  have v2 := v1 (by omega)
  unfold spec_l39Act.f
  rw [e1, Option.bind_some]; dsimp only
  by_cases c0 : v = 0
  · obtain ⟨x, i2, h2, e2, x0, x1, _, j2⟩ := below_ev b hb i1 h1 40 j1
    have x2 := x1 (by omega)
    rw [if_pos c0, e2, Option.bind_some]; dsimp only
    rw [show wrap64 (x - 5) = x - 5 from w64 (by omega) (by omega)]
    exact ⟨_, _, _, _, _, _, rfl, ⟨by unfold actOk; dsimp only; rw [if_neg (by omega), if_pos rfl, decide_eq_true_eq]; omega, by dsimp only; omega⟩, j2⟩
  rw [if_neg c0]
  by_cases c1 : v = 1
  · obtain ⟨x, i2, h2, e2, x0, j2⟩ := pick_ev b hb i1 h1 [0, 0, 1] j1 (by decide)
    obtain ⟨y, i3, h3, e3, y0, y1, _, j3⟩ := below_ev b hb i2 h2 6 j2
    obtain ⟨z, i4, h4, e4, z0, z1, _, j4⟩ := below_ev b hb i3 h3 3 j3
    have y2 := y1 (by omega)
    have z2 := z1 (by omega)
    have x2 : x = 0 ∨ x = 1 := by simp at x0; omega
    rw [if_pos c1, e2, Option.bind_some]; dsimp only
    rw [e3, Option.bind_some]; dsimp only
    rw [e4, Option.bind_some]
    exact ⟨_, _, _, _, _, _, rfl, ⟨by unfold actOk; dsimp only; rw [if_neg (by omega), if_neg (by omega), if_pos rfl, decide_eq_true_eq]; omega, by dsimp only; omega⟩, j4⟩
  rw [if_neg c1]
  by_cases c2 : v = 2
  · obtain ⟨x, i2, h2, e2, x0, x1, _, j2⟩ := below_ev b hb i1 h1 12 j1
    obtain ⟨y, i3, h3, e3, y0, y1, _, j3⟩ := below_ev b hb i2 h2 2001 j2
    have x2 := x1 (by omega)
    have y2 := y1 (by omega)
    rw [if_pos c2, e2, Option.bind_some]; dsimp only
    rw [e3, Option.bind_some]; dsimp only
    rw [show wrap64 (y - 1000) = y - 1000 from w64 (by omega) (by omega)]
    exact ⟨_, _, _, _, _, _, rfl, ⟨by unfold actOk; dsimp only; rw [if_neg (by omega), if_neg (by omega), if_neg (by omega), if_pos rfl, decide_eq_true_eq]; omega, by dsimp only; omega⟩, j3⟩
  rw [if_neg c2]
  by_cases c3 : v = 3
  · rw [if_pos c3]; exact ⟨_, _, _, _, _, _, rfl, ⟨by decide, by dsimp only; omega⟩, j1⟩
  rw [if_neg c3]
  by_cases c4 : v = 4
  · rw [if_pos c4]; exact ⟨_, _, _, _, _, _, rfl, ⟨by decide, by dsimp only; omega⟩, j1⟩
  rw [if_neg c4]
  by_cases c5 : v = 5
  · obtain ⟨x, i2, h2, e2, x0, x1, _, j2⟩ := below_ev b hb i1 h1 12 j1
    have x2 := x1 (by omega)
    rw [if_pos c5, e2, Option.bind_some]
    exact ⟨_, _, _, _, _, _, rfl, ⟨by unfold actOk; dsimp only; rw [if_neg (by omega), if_neg (by omega), if_neg (by omega), if_neg (by omega), if_pos rfl, decide_eq_true_eq]; omega, by dsimp only; omega⟩, j2⟩
  rw [if_neg c5]
  exact ⟨_, _, _, _, _, _, rfl, ⟨by decide, by dsimp only; omega⟩, j1⟩
theorem acts_ev (i h : Int) (hi : 0 ≤ i) : ∃ l i' h', Ev (fun k => spec_l39List.f k b i h) (l, i', h') ∧ l.length ≤ 25 ∧ (∀ x ∈ l, GAct x) ∧ 0 ≤ i' := by
  obtain ⟨n, i1, h1, e1, n0, n1, _, j1⟩ := below_ev b hb i h 26 hi
  have n2 := n1 (by omega)
  obtain ⟨N, rfl⟩ := Int.eq_ofNat_of_zero_le n0
  have key : ∀ m : Nat, m ≤ N → ∀ (acc : List S37) (i h : Int), 0 ≤ i → acc.length = N - m → (∀ x ∈ acc, GAct x) →
      ∃ l i' h', Ev (fun k => spec_l39List.l0 k acc (N : Int) ((N - m : Nat) : Int) b i h) (l, i', h') ∧ l.length ≤ 25 ∧ (∀ x ∈ l, GAct x) ∧ 0 ≤ i' := by
    intro m
    induction m with
    | zero =>
      intro _ acc i h hi hl hx
      exact ⟨acc, i, h, Ev.step (fun k => by rw [spec_l39List.l0]) (evn (by omega) (Ev.now _)), by omega, hx, hi⟩
    | succ m ih =>
      intro hm acc i h hi hl hx
      obtain ⟨a, x, y, z, i2, h2, e2, g, j2⟩ := act_ev b hb i h hi
      obtain ⟨l, i', h', ev, l1, l2, j⟩ := ih (by omega) (acc ++ [⟨a, x, y, z⟩]) i2 h2 j2 (by simp; omega) (by
        intro w hw
        rcases List.mem_append.1 hw with hw | hw
        · exact hx w hw
        · simp at hw; subst hw; exact g)
      refine ⟨l, i', h', Ev.step (fun k => by rw [spec_l39List.l0]) (evp (by omega) (evb e2 ?_)), l1, l2, j⟩
      refine evp (show acc.length < 4398046511104 by omega) ?_
      rw [show wrap64 (((N - (m + 1) : Nat) : Int) + 1) = ((N - m : Nat) : Int) from by rw [w64 (by omega) (by omega)]; omega]
      exact ev
  obtain ⟨l, i', h', ev, l1, l2, j⟩ := key N (Nat.le_refl _) [] i1 h1 j1 (by simp) (by simp)
  refine ⟨l, i', h', ?_, l1, l2, j⟩
  unfold spec_l39List.f
  refine evb e1 ?_
  rw [show N - N = 0 by omega] at ev
  exact ev
theorem drawActs_ev : ∃ s l, Ev (fun k => spec_DrawActs.f k b) (s.1, s.2.1, s.2.2.1, s.2.2.2.1, s.2.2.2.2.1, s.2.2.2.2.2, l) ∧ Drawn s ∧ l.length ≤ 25 ∧ ∀ x ∈ l, GAct x := by
  obtain ⟨h0, e0⟩ := new_ev b
  obtain ⟨s, i1, h1, e1, g, j1⟩ := anyShop_ev b hb 0 h0 (by omega)
  obtain ⟨l, i2, h2, e2, l1, l2, j2⟩ := acts_ev b hb i1 h1 j1
  refine ⟨s, l, ?_, g, l1, l2⟩
  unfold spec_DrawActs.f
  exact Ev.bind e0 (Ev.bind e1 (Ev.bind e2 (Ev.now _)))
end
end Go.Proofs.YtojiighpkppckaaGreatDoor.Q


namespace Go.Proofs.YtojiighpkppckaaGreatDoor.Q
set_option linter.unusedVariables false
set_option linter.unusedSimpArgs false
open Go.RowKit Go.Deep Go.ChangeShapes Go.WideShapes Go.Proofs.YtojiighpkppckaaGreatDoorW.PrintWords
def Opens {α : Type} (P : Program) (w : World) (d : Kd α) (T : TypeId) (G : α → Prop) : Prop :=
  ∀ (H : Type) (enc : TypeId × Value → H) (base : Nat) (spare : Nat → Bool) (held : Bool) (fuel : Nat) (cs : List Value) (x : DataW H × List MemPlace),
    DataW.trod enc P w base spare held fuel T cs = some x → ∃ v, d.K w v cs ∧ G v
def OpensFs {α : Type} (P : Program) (w : World) (d : Kd α) (off : Nat) (fs : Array Field) (i : Nat) (G : α → Prop) : Prop :=
  ∀ (H : Type) (enc : TypeId × Value → H) (base : Nat) (spare : Nat → Bool) (held : Bool) (fuel : Nat) (cs : List Value), cs.length = off + d.sz →
    (∀ j f, i ≤ j → fs[j]? = some f → ∃ y : DataW H × List MemPlace, DataW.trod enc P w base spare held fuel f.type ((cs.drop f.offset).take (P.cellsOf f.type)) = some y) → ∃ v, d.K w v (cs.drop off) ∧ G v
section
variable {P : Program} {w : World}
theorem Opens.mono {α : Type} {d : Kd α} {T : TypeId} {G G' : α → Prop} (h : Opens P w d T G) (hg : ∀ x, G x → G' x) : Opens P w d T G' := by
  intro H enc base spare held fuel cs x hx
  obtain ⟨v, hv, g⟩ := h H enc base spare held fuel cs x hx
  exact ⟨v, hv, hg v g⟩
theorem Opens.int {k : IntKind} {T : TypeId} (ht : P.underlying T = some (.int k)) : Opens P w (Kd.int k) T (fun n => (Lit.int k n).wf = true) := by
  intro H enc base spare held fuel cs x hx
  obtain ⟨n, rfl, _, hw⟩ := DataW.trod_int ht hx
  exact ⟨n, rfl, hw⟩
theorem Opens.slice {α : Type} (z : α) {d : Kd α} {E T : TypeId} {G : α → Prop} (ht : P.underlying T = some (.slice E)) (hC : P.cellsOf E = d.sz) (h : Opens P w d E G) :
    Opens P w (Kd.slice E d) T (fun l => l.length ≤ 9223372036854775807 ∧ ∀ x ∈ l, G x) := by
  haveI : Inhabited α := ⟨z⟩
  intro H enc base spare held fuel cs x hx
  rcases open_slice ht hx with ⟨rfl, _⟩ | ⟨a, len, cap, m, n, D, Pl, rfl, hb, hl, hm, hmm, _, hi⟩
  · exact ⟨[], ⟨none, 0, rfl, Nat.le_refl _, rfl, by simp, fun h => absurd h (by simp)⟩, by simp, by simp⟩
  · have hlm : len ≤ m := by rw [hmm]; split <;> omega
    obtain ⟨V, hV⟩ := choose_lt (α := α) (n := len) (p := fun i v => G v ∧ ∃ c, c.length = d.sz ∧ d.K w v c ∧ ∀ j u, c[j]? = some u → w.cell? (a.add (i * d.sz + j)) = some u) (fun i hil => by
      obtain ⟨cs', h1, h2⟩ := hi i (by omega)
      obtain ⟨v, hv, g⟩ := h H enc base spare held n cs' _ h2
      obtain ⟨_, hcl, hat⟩ := World.cells?_some h1
      refine ⟨v, g, cs', by rw [hcl, hC], hv, fun j u hu => ?_⟩
      have hj : j < P.cellsOf E := by rw [← hcl]; exact (List.getElem?_eq_some_iff.1 hu).1
      have := hat j hj
      rw [hC, Go.Deep.add_add] at this
      rw [this, hu])
    refine ⟨(List.range len).map V, ⟨some a, cap, by simp, by simpa using hl, by simp, by have := hm; unfold maxLen at this; simp; omega, fun _ => ⟨a, rfl, fun j p hj => ?_⟩⟩, ?_⟩
    · have hj' : j < len := by have := (List.getElem?_eq_some_iff.1 hj).1; simpa using this
      obtain rfl : V j = p := by simpa [hj'] using hj
      exact (hV j hj').2
    · refine ⟨by have := hm; unfold maxLen at this; simp; omega, fun x hx => ?_⟩
      obtain ⟨i, hi, rfl⟩ := List.mem_map.1 hx
      exact (hV i (List.mem_range.1 hi)).1
theorem OpensFs.one {α : Type} {d : Kd α} {off i : Nat} {fs : Array Field} {f : Field} {G : α → Prop} (hf : fs[i]? = some f) (h : Opens P w d f.type G) (ho : f.offset = off) (hc : P.cellsOf f.type = d.sz) : OpensFs P w d off fs i G := by
  intro H enc base spare held fuel cs hlen hfs
  obtain ⟨y, hy⟩ := hfs i f (Nat.le_refl _) hf
  rw [ho, hc, List.take_of_length_le (by simp [hlen])] at hy
  exact h H enc base spare held fuel _ _ hy
theorem OpensFs.more {α β : Type} {d : Kd α} {d2 : Kd β} {off i : Nat} {fs : Array Field} {f : Field} {G : α → Prop} {G2 : β → Prop} (hf : fs[i]? = some f) (h : Opens P w d f.type G) (ho : f.offset = off) (hc : P.cellsOf f.type = d.sz)
    (h2 : OpensFs P w d2 (off + d.sz) fs (i + 1) G2) : OpensFs P w (Kd.pair d d2) off fs i (fun x => G x.1 ∧ G2 x.2) := by
  intro H enc base spare held fuel cs hlen hfs
  have hlen' : cs.length = off + (d.sz + d2.sz) := hlen
  obtain ⟨y, hy⟩ := hfs i f (Nat.le_refl _) hf
  rw [ho, hc] at hy
  obtain ⟨v, hv, g⟩ := h H enc base spare held fuel _ _ hy
  obtain ⟨v2, hv2, g2⟩ := h2 H enc base spare held fuel cs (by omega) (fun j f' hj hf' => hfs j f' (by omega) hf')
  refine ⟨(v, v2), ⟨_, _, ?_, hv, hv2⟩, g, g2⟩
  rw [← List.drop_drop, List.take_append_drop]
theorem Opens.string {T : TypeId} (ht : P.underlying T = some .string) : Opens P w Kd.string T (fun s => s.size ≤ maxLen) := by
  intro H enc base spare held fuel cs x hx
  obtain ⟨s, rfl, _, hs⟩ := DataW.trod_string ht hx
  exact ⟨s, rfl, hs⟩
end
end Go.Proofs.YtojiighpkppckaaGreatDoor.Q


namespace Go.Proofs.YtojiighpkppckaaGreatDoor.Q
open Go.RowKit Go.Proofs.YtojiighpkppckaaGreatDoor.P Go.Proofs.YtojiighpkppckaaGreatDoorW.PrintWords
def good5 (x : Int) : Prop := (Lit.int .u8 x).wf = true
theorem op5 {w : World} : Opens Tryz.prog w (Kd.int .u8) 5 good5 := (Opens.int Tryz.underlying5)
end Go.Proofs.YtojiighpkppckaaGreatDoor.Q


namespace Go.Proofs.YtojiighpkppckaaGreatDoor.Pure
set_option linter.unusedVariables false
set_option linter.unusedSimpArgs false
open Go.RowKit Go.Proofs.YtojiighpkppckaaGreatDoor.P Go.Proofs.YtojiighpkppckaaGreatDoor.Q Go.Proofs.YtojiighpkppckaaGreatDoorW.PrintWords Go.Proofs.YtojiighpkppckaaGreatDoorW.PrintLast
theorem at_l0 (l : List S37) (hl : l.length ≤ 25) (hx : ∀ x ∈ l, GAct x) : ∀ d i : Nat, i + d = l.length → Ev (fun k => laws_FnActTexts.l0 k l (i : Int)) true := by
  intro d
  induction d with
  | zero => intro i h; exact Ev.step (fun k => by rw [laws_FnActTexts.l0]) (evn (by omega) (Ev.now _))
  | succ d ih =>
    intro i h
    have nx := ih (i + 1) (by omega)
    refine Ev.step (fun k => by rw [laws_FnActTexts.l0]) (evp (by omega) (evp (by omega) ?_))
    have hil : i < l.length := by omega
    have g : GAct (rd_T37 l (i : Int)) := by
      have e : rd_T37 l (i : Int) = l[i] := by simp [rd_T37, List.getD_eq_getElem?_getD, hil]
      rw [e]
      exact hx _ (List.getElem_mem hil)
    generalize rd_T37 l (i : Int) = x at g ⊢
    have hs := g.small
    have ht := actText_len g.ok
    have e2 : (⟨#[32, 32]⟩ : ByteArray) = txt [32, 32] := rfl
    have e1 : (⟨#[32]⟩ : ByteArray) = txt [32] := rfl
    refine Ev.bind (fmtAct_impl x.f0 x.f1 x.f2 x.f3 (by unfold in64; omega) (by unfold in64; omega) (by unfold in64; omega)) ?_
    dsimp only
    refine evp (by rw [txt_size]; omega) (evp (by rw [e2, txt_app, txt_size, List.length_append]; simp; omega) ?_)
    rw [e2, e1, txt_app, txt_app]
    refine Ev.bind (act_read g.ok) (evp g.ok (evp rfl (evn (by simp) ?_)))
    rw [w64 (by omega) (by omega)]
    exact nx
theorem FnActTexts (b : List Int) (h0 : b.length ≤ 9223372036854775807 ∧ ∀ y ∈ b, good5 y) : ∃ k, laws_FnActTexts.f k b = some true := by
  refine Ev.rounds ?_
  unfold laws_FnActTexts.f
  by_cases hbig : (b.length : Int) > 1048576
  · exact evb (a := true) (by unfold laws_big.f; rw [decide_eq_true hbig]) (evp rfl (Ev.now _))
  refine evb (a := false) (by unfold laws_big.f; rw [decide_eq_false hbig]) (evn (by decide) ?_)
  obtain ⟨⟨p, d, q, a, m, l⟩, acts, hev, _, hl, hx⟩ := drawActs_ev b (by omega)
  dsimp only at hev
  refine Ev.bind hev ?_
  exact at_l0 acts hl hx acts.length 0 (Nat.zero_add _)
end Go.Proofs.YtojiighpkppckaaGreatDoor.Pure


namespace Go.Proofs.YtojiighpkppckaaGreatDoor.P
open Go Go.RowKit Go.ChangeShapes
theorem star_ : "*" ++ "errors.errorString" = "*errors.errorString" := by decide
theorem rowErr (u : TypeId) (h : Tryz.prog.typeName? 3 u = some "*errors.errorString") : u = 133 :=
  typeName_ptr_named (nm := "errors.errorString") (by rw [star_]; kernel_rfl) (by kernel_rfl) (by decide) u (by rw [star_]; exact h)
theorem errV_met {W : World} {t1 t2 : List UInt8} {ra rb : List (String × DataW Unit)} (h1 : laidMet Tryz.prog (("strconv.ErrSyntax", .iface "*errors.errorString" (.ptr (.agg [.lit (.string t1)]))) :: ra) W)
    (h2 : laidMet Tryz.prog (("strconv.ErrRange", .iface "*errors.errorString" (.ptr (.agg [.lit (.string t2)]))) :: rb) W) : ErrV W := by
  have c1 : Tryz.prog.cellsOf 135 = 1 := by kernel_rfl
  have c2 : Tryz.prog.cellsOf 9 = 1 := by kernel_rfl
  obtain ⟨a, s, hv, _⟩ := laid_sentinel (ti := 51) h1 st172.m15 (by kernel_rfl) Tryz.underlying51 rowErr Tryz.underlying133 Tryz.underlying135 rfl rfl Tryz.underlying9 c1 c2
  obtain ⟨b, u, hw, _⟩ := laid_sentinel (ti := 51) h2 st172.m16 (by kernel_rfl) Tryz.underlying51 rowErr Tryz.underlying133 Tryz.underlying135 rfl rfl Tryz.underlying9 c1 c2
  exact ⟨⟨_, _, hv⟩, _, _, hw⟩
end Go.Proofs.YtojiighpkppckaaGreatDoor.P


namespace Go.Proofs.YtojiighpkppckaaGreatDoor.fnActTexts
open Go.ChangeShapes Go.WideShapes Go.ChangeAt Go.RowKit Go.Proofs.YtojiighpkppckaaGreatDoor.P Go.Proofs.YtojiighpkppckaaGreatDoor.Q Go.Proofs.YtojiighpkppckaaGreatDoorW.PrintWords
open Go.ChangeMaps (open_string shut_string)
set_option linter.unusedVariables false
set_option linter.unusedSimpArgs false
theorem own : ownKnob Tryz.prog.godebug = none := by kernel_rfl
theorem laidOut : laidOutB Tryz.prog = true := by kernel_rfl
noncomputable def doorW (os : Os) : World := let w0 := World.doorLaid Tryz.prog 400 os; { w0 with heap := w0.heap.modify ((Tryz.prog.globalNamed "unicode/utf8.first").getD 0) fun
  | .cells _ t fz => .cells (Go.Pinned.utf8FirstZ.map fun (z : Nat) => Value.int .u8 z).toArray t fz
  | o => o }
def laidX : List (String × DataW Unit) := [("math/bits.deBruijn32tab", Rows.laid_math_bits_deBruijn32tab), ("math/bits.deBruijn64tab", Rows.laid_math_bits_deBruijn64tab), ("internal/strconv.uint64pow10", Rows.laid_internal_strconv_uint64pow10), ("unicode/utf8.acceptRanges", Rows.laid_unicode_utf8_acceptRanges), ("strconv.ErrRange", Rows.laid_strconv_ErrRange), ("strconv.ErrSyntax", Rows.laid_strconv_ErrSyntax), ("unicode/utf8.first", Rows.laid_unicode_utf8_first)]
theorem door_met (os : Os) (args : Array Value) : laidMetH Tryz.prog laidX ((doorW os).forCall (fun _ _ => 0) ⟨#[], args, []⟩).memory :=
  laidMetH_of_parts3 (fuel := 8) (laidMet_of_run' 8 (by kernel_rfl) (by kernel_rfl)) (by kernel_rfl) (by kernel_rfl)
theorem tab_met {W : World} (h : laidMetH Tryz.prog laidX W) : TabE W := by
  rw [MakeChecks.laidMetH_plain _ _ _ (by kernel_rfl)] at h
  refine ⟨?_, errV_met h.tail.tail.tail.tail.tail h.tail.tail.tail.tail⟩
  exact Go.Lib.tabIs_of_head (g := 3) (by kernel_rfl) (by kernel_rfl) Tryz.underlying147 Tryz.underlying108 (by kernel_rfl) (by kernel_rfl) h.tail.tail
set_option maxRecDepth 100000 in
theorem lifted (os : Os) (started : os.Started) (H : Type) (enc : TypeId × Value → H) :
    ReturnsInHanded {} Tryz.checked os 3 .any (fun w args => (Rows.fnActTextsSpec.pre enc Tryz.prog Tryz.f3 [] false w args ∧ laidMetH Tryz.prog laidX w) ∧ sizedMet enc Tryz.prog Tryz.f3 (OpenSpec.ofChange Rows.fnActTextsSpec) false w args) (Rows.fnActTextsSpec.post enc Tryz.prog Tryz.f3 false true false false) := by
  refine returnsInHanded_of_change_and (C := Tryz.checked) (X := fun w _ => laidMetH Tryz.prog laidX w) (fun _ _ _ hh h => h.of_heap hh) own started (by kernel_rfl) Tryz.func3
    (ChangeSpec.witness_shaped (enc := enc) (C := Tryz.checked) (os := os) (X := fun w _ => laidMetH Tryz.prog laidX w) false (doorW os) #[.slice none 0 0] 8 rfl (World.shaped_of_RefB (by kernel_rfl) (by kernel_rfl)) (by kernel_rfl) (by kernel_rfl) (by kernel_rfl) (door_met os _)) ?_
  intro W base args ds gs before hval0 hW hcnd hsz0 hL _
  have htab := tab_met hL
  have hval : ∀ (j : Nat) t v, Tryz.f3.params[j]? = some t → args[j]? = some v → Value.okWide Tryz.prog W .any base t v := hval0
  have hW' := hW
  obtain ⟨p, q, hA0, hV, rfl, hfz, hnd⟩ := hW
  have hA : DataW.TrodAll enc Tryz.prog W 0 (fun _ => true) true Tryz.f3.params.toList args.toList ds p := hA0
  rw [Tryz.params3] at hA hval
  obtain ⟨v0, vs0, d0, ds0, p0, q0, hargs, rfl, rfl, h0, r0⟩ := trodAll_cons hA
  obtain ⟨rfl, rfl, rfl⟩ := trodAll_nil r0
  obtain rfl : args = #[v0] := by cases args; simp_all
  obtain ⟨rfl, rfl⟩ := trodVars_none hV
  have k0 := h0
  have lt0 : ∀ x ∈ p0, x.block < W.heap.size := by obtain ⟨m, hm⟩ := k0; exact DataW.trod_lt m _ _ _ hm
  obtain ⟨fuel0, f0⟩ := h0
  obtain ⟨x0, K0, G0⟩ := (show Opens Tryz.prog W (Kd.slice 5 (Kd.int .u8)) 22 _ from Opens.slice 0 Tryz.underlying22 (by kernel_rfl) op5) H enc 0 _ _ fuel0 _ _ f0
  obtain ⟨len0, cap0, adr0, rfl⟩ : ∃ l c a, v0 = .slice a l c := by obtain ⟨a, l, c, e⟩ := okWide_slice Tryz.underlying22 (hval 0 22 v0 rfl rfl); exact ⟨l, c, a, e⟩
  obtain ⟨A0, c0, e0, hc0, hr0⟩ := K0
  simp [Value.cells] at e0
  obtain ⟨rfl, rfl, rfl⟩ := e0
  obtain ⟨k, hP⟩ := Pure.FnActTexts x0 G0
  refine (P.laws_FnActTexts.calls k _ _ x0 true W hr0 hc0 hP ⟨rfl⟩ ⟨htab⟩).mono fun e W' ⟨he, bel0⟩ => ?_
  have bel : Below W.heap.size W W' := bel0
  subst he
  exact ⟨_, rfl, _, _, _, [], _, [], hW', trodAll_mk1 (shut_bool Tryz.underlying4 _), (trodAll_cons_mk (Below.trod laidOut (by kernel_rfl) (of_decide_eq_true (by kernel_rfl)) k0 bel lt0) trodAll_mk0), rfl, bel.frame _, fun h => by cases h⟩
theorem over : Rows.fnActTextsRow.holds Tryz.pinned (OpenSpec.ofChange Rows.fnActTextsSpec) :=
  OpenClaim.holds_of_wide 3 Tryz.f3 rfl rfl rfl rfl rfl rfl rfl ⟨rfl, rfl, rfl, rfl, rfl⟩ rfl rfl rfl rfl rfl (by kernel_rfl) Tryz.func3 (by kernel_rfl)
    (of_decide_eq_true (by kernel_rfl)) (by unfold Func.isWrapper; first | (rw [if_pos (by decide +kernel)]; kernel_rfl) | (rw [if_neg (by decide +kernel)]; exact ⟨rfl, rfl⟩))
    (fun os started H enc _ => lifted os started H enc)
theorem proved : Rows.FnActTextsCardSaid :=
  Claim7.holds_tied_plain_at .later [] [.data, .data, .data, .data, .sentinel, .sentinel, .pinned] true (true, "5e844421112e2fc032f31c10ffabf85dc0db2db2822000c001e9b9908e2ec0fd") true
    over (fun _ h => by cases h) (by kernel_rfl) (fun _ h => by cases h) fnActTexts_row_tie rfl ⟨rfl, rfl⟩ (by kernel_rfl) rfl
    (fun f fn hf hfn => by
      obtain rfl : f = 3 := Option.some.inj ((show Tryz.prog.funcNamed "loop.example/g00989/laws.FnActTexts" = some 3 by kernel_rfl).symm.trans hf) |>.symm
      obtain rfl : fn = Tryz.f3 := (Option.some.inj (Tryz.func3.symm.trans hfn)).symm
      exact ⟨by kernel_rfl, fun j t ht => by
        rw [Tryz.params3] at ht
        have hm : t ∈ ([22] : List Nat) := by simpa using Array.mem_of_getElem? ht
        have hall : (([22] : List Nat).all fun u => !Tryz.prog.wantsStandIn u) = true := by kernel_rfl
        exact (show Tryz.prog.wantsStandIn t = false by simpa using List.all_eq_true.1 hall t hm)⟩)
    (by kernel_rfl)
#print axioms proved
end Go.Proofs.YtojiighpkppckaaGreatDoor.fnActTexts
namespace Go.Proofs.YtojiighpkppckaaGreatDoor
theorem fnActTexts_holds : Rows.FnActTextsCardSaid := fnActTexts.proved
end Go.Proofs.YtojiighpkppckaaGreatDoor

